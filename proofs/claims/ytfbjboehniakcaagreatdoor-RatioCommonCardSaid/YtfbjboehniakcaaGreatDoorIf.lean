/- The walk of RatioSums. -/
import Derived.Test.YtfbjboehniakcaaGreatDoorIe
namespace Go.Proofs.YtfbjboehniakcaaGreatDoor
open Go.RowKit W
open Pl (bval enc bv nb bv_nb nb_size_le nb_size_zero nb_size_mono nb_bv_size bv_lt cmpN nb_inj)
open Rq
def quoN (p q : Rat) : Bool := if q = 0 then false else decide ((p / q).num < 0)
def quoA (p q : Rat) : ByteArray := if q = 0 then ⟨#[]⟩ else nb (p / q).num.natAbs
def quoD (p q : Rat) : ByteArray := if q = 0 then ⟨#[]⟩ else nb (p / q).den
theorem quoT (p q : Rat) (w : World) (hp : Sz p 33554432) (hq : Sz q 33554432) :
    Calls Tryz.prog 28 #[rv p, rv q] w fun e w' => e = .returned (.tuple #[.agg #[.bool (quoN p q), .string (quoA p q), .string (quoD p q)], .bool (decide (q ≠ 0))]) ∧ Below w.heap.size w w' := by
  by_cases h : q = 0
  · have := aquo_zero p q w hp hq h
    rw [quoN, quoA, quoD, if_pos h, if_pos h, if_pos h, decide_eq_false (by simpa using h)]; exact this
  · have := aquo_any p q w hp hq h
    rw [quoN, quoA, quoD, if_neg h, if_neg h, if_neg h, decide_eq_true h]; exact this
theorem rquoT (p q : Rat) (w : World) (hp : Sz p 33554432) (hq : Sz q 33554432) :
    Calls Tryz.prog 29 #[rv p, rv q] w fun e w' => e = .returned (.tuple #[.agg #[.bool (quoN p q), .string (quoA p q), .string (quoD p q)], .bool (decide (q ≠ 0))]) ∧ Below w.heap.size w w' := by
  by_cases h : q = 0
  · have := rquo2_zero p q w hp hq h
    rw [quoN, quoA, quoD, if_pos h, if_pos h, if_pos h, decide_eq_false (by simpa using h)]; exact this
  · have := rquo2_any p q w hp hq h
    rw [quoN, quoA, quoD, if_neg h, if_neg h, if_neg h, decide_eq_true h]; exact this
set_option maxRecDepth 100000 in
set_option maxHeartbeats 16000000 in
theorem rsums_walk (x0 x1 x2 y0 y1 y2 : Int) (w : World) (hx0 : -9223372036854775808 ≤ x0 ∧ x0 ≤ 9223372036854775807) (hx1 : -9223372036854775808 ≤ x1 ∧ x1 ≤ 9223372036854775807) (hy0 : -9223372036854775808 ≤ y0 ∧ y0 ≤ 9223372036854775807) (hy1 : -9223372036854775808 ≤ y1 ∧ y1 ≤ 9223372036854775807) (hG : GR w) :
    Calls Tryz.prog 6 #[.agg #[.int .i64 x0, .int .i64 x1, .int .i64 x2], .agg #[.int .i64 y0, .int .i64 y1, .int .i64 y2]] w fun e w' => e = .returned (.bool true) ∧ Below w.heap.size w w' := by
  go_enter Tryz.func6, Tryz.ntmps6
  have bX : Rx ((w.alloc (.cells #[.int .i64 x0, .int .i64 x1, .int .i64 x2] 22)).alloc (.cells #[.int .i64 y0, .int .i64 y1, .int .i64 y2] 22)) (w.heap.size) [.int .i64 x0, .int .i64 x1, .int .i64 x2] := ((Rx.new w _ rfl [.int .i64 x0, .int .i64 x1, .int .i64 x2] 22).alloc (.cells #[.int .i64 y0, .int .i64 y1, .int .i64 y2] 22))
  have bY : Rx ((w.alloc (.cells #[.int .i64 x0, .int .i64 x1, .int .i64 x2] 22)).alloc (.cells #[.int .i64 y0, .int .i64 y1, .int .i64 y2] 22)) (w.heap.size + 1) [.int .i64 y0, .int .i64 y1, .int .i64 y2] := (Rx.new (w.alloc (.cells #[.int .i64 x0, .int .i64 x1, .int .i64 x2] 22)) _ (by simp) [.int .i64 y0, .int .i64 y1, .int .i64 y2] 22)
  have hacc := (((Below.refl w.heap.size w).alloc (Nat.le_refl w.heap.size) (.cells #[.int .i64 x0, .int .i64 x1, .int .i64 x2] 22)).alloc (by simp) (.cells #[.int .i64 y0, .int .i64 y1, .int .i64 y2] 22))
  go_upto_region 1 with fail
  generalize (w.alloc (.cells #[.int .i64 x0, .int .i64 x1, .int .i64 x2] 22)).alloc (.cells #[.int .i64 y0, .int .i64 y1, .int .i64 y2] 22) = W0 at *
  generalize hgY : w.heap.size + 1 = gY at *
  obtain ⟨gX, hgX⟩ : ∃ g, g = w.heap.size := ⟨_, rfl⟩
  rw [← hgX] at bX
  simp only [← hgX]
  have ngXgY : gX ≠ gY := by omega
  have kgX : w.heap.size ≤ gX := by omega
  have kgY : w.heap.size ≤ gY := by omega
  clear hgX hgY
  go_wp2_with fail
  with_reducible refine (sanity2_any _ (hG.below hacc)).mono ?_
  rintro e wZ ⟨rfl, hbX⟩
  have hacc := hacc.trans (hbX.mono hacc.size)
  have bX := bX.below hbX
  have bY := bY.below hbX
  clear hbX
  have cgX0 := bX.at 0 rfl
  have fgX0 := bX.fr 0 rfl
  have cgX1 := bX.at 1 rfl
  have fgX1 := bX.fr 1 rfl
  have cgX2 := bX.at 2 rfl
  have fgX2 := bX.fr 2 rfl
  go_wp2_with fail
  clear cgX0 fgX0 cgX1 fgX1 cgX2 fgX2
  with_reducible refine (rmade2_any x0 x1 x2 _ hx0.1 hx0.2 hx1.1 hx1.2).mono ?_
  rintro e wZ ⟨⟨p, rfl, hp⟩, hbX⟩
  have hacc := hacc.trans (hbX.mono hacc.size)
  have bX := bX.below hbX
  have bY := bY.below hbX
  clear hbX
  unfold rv
  have kgA := hacc.size
  have hacc := hacc.alloc hacc.size (.cells #[.bool (decide (p.num < 0)), .string (nb p.num.natAbs), .string (nb p.den)] 27)
  have dgX := bX.lt
  have dgY := bY.lt
  have bX := bX.alloc (.cells #[.bool (decide (p.num < 0)), .string (nb p.num.natAbs), .string (nb p.den)] 27)
  have bY := bY.alloc (.cells #[.bool (decide (p.num < 0)), .string (nb p.num.natAbs), .string (nb p.den)] 27)
  have bA : Rx (wZ.alloc (.cells #[.bool (decide (p.num < 0)), .string (nb p.num.natAbs), .string (nb p.den)] 27)) wZ.heap.size [.bool (decide (p.num < 0)), .string (nb p.num.natAbs), .string (nb p.den)] := Rx.new wZ _ rfl [.bool (decide (p.num < 0)), .string (nb p.num.natAbs), .string (nb p.den)] 27
  go_upto_region 3 with fail
  generalize wZ.heap.size = gA at *
  generalize wZ.alloc (.cells #[.bool (decide (p.num < 0)), .string (nb p.num.natAbs), .string (nb p.den)] 27) = WgA at *
  have ngXgA : gX ≠ gA := by omega
  have ngYgA : gY ≠ gA := by omega
  clear dgX dgY
  have cgY0 := bY.at 0 rfl
  have fgY0 := bY.fr 0 rfl
  have cgY1 := bY.at 1 rfl
  have fgY1 := bY.fr 1 rfl
  have cgY2 := bY.at 2 rfl
  have fgY2 := bY.fr 2 rfl
  go_wp2_with fail
  clear cgY0 fgY0 cgY1 fgY1 cgY2 fgY2
  with_reducible refine (rmade2_any y0 y1 y2 _ hy0.1 hy0.2 hy1.1 hy1.2).mono ?_
  rintro e wZ ⟨⟨q, rfl, hq⟩, hbX⟩
  have hacc := hacc.trans (hbX.mono hacc.size)
  have bX := bX.below hbX
  have bY := bY.below hbX
  have bA := bA.below hbX
  clear hbX
  unfold rv
  have kgB := hacc.size
  have hacc := hacc.alloc hacc.size (.cells #[.bool (decide (q.num < 0)), .string (nb q.num.natAbs), .string (nb q.den)] 27)
  have dgX := bX.lt
  have dgY := bY.lt
  have dgA := bA.lt
  have bX := bX.alloc (.cells #[.bool (decide (q.num < 0)), .string (nb q.num.natAbs), .string (nb q.den)] 27)
  have bY := bY.alloc (.cells #[.bool (decide (q.num < 0)), .string (nb q.num.natAbs), .string (nb q.den)] 27)
  have bA := bA.alloc (.cells #[.bool (decide (q.num < 0)), .string (nb q.num.natAbs), .string (nb q.den)] 27)
  have bB : Rx (wZ.alloc (.cells #[.bool (decide (q.num < 0)), .string (nb q.num.natAbs), .string (nb q.den)] 27)) wZ.heap.size [.bool (decide (q.num < 0)), .string (nb q.num.natAbs), .string (nb q.den)] := Rx.new wZ _ rfl [.bool (decide (q.num < 0)), .string (nb q.num.natAbs), .string (nb q.den)] 27
  go_upto_region 4 with fail
  generalize wZ.heap.size = gB at *
  generalize wZ.alloc (.cells #[.bool (decide (q.num < 0)), .string (nb q.num.natAbs), .string (nb q.den)] 27) = WgB at *
  have ngXgB : gX ≠ gB := by omega
  have ngYgB : gY ≠ gB := by omega
  have ngAgB : gA ≠ gB := by omega
  clear dgX dgY dgA
  clear bX bY
  have hp1 : Sz p 33554432 := hp.mono (by decide)
  have hq1 : Sz q 33554432 := hq.mono (by decide)
  have hp2 : Sz p 134217728 := hp.mono (by decide)
  have Ha := Lib.hid (fun W => aadd_any p q W hp1 hq1)
  have Ra := Lib.hid (fun W => radd2_any p q W hp1 hq1)
  have Hs := Lib.hid (fun W => asub_any p q W hp1 hq1)
  have Rs := Lib.hid (fun W => rsub2_any p q W hp1 hq1)
  have Hm := Lib.hid (fun W => amul_any p q W hp1 hq1)
  have Rm := Lib.hid (fun W => rmul2_any p q W hp1 hq1)
  have Hc := Lib.hid (fun W => acmp_any p q W hp1 hq1)
  have Rc := Lib.hid (fun W => rcmp2_any p q W hp1 hq1)
  have Hg := Lib.hid (fun W => asign_any p W hp2)
  have Rg := Lib.hid (fun W => rsign2_any p W hp2)
  have Hn := Lib.hid (fun W => aneg_any p W hp2)
  have Rn := Lib.hid (fun W => rneg2_any p W hp2)
  have HQ := Lib.hid (fun W => quoT p q W hp1 hq1)
  have RQ := Lib.hid (fun W => rquoT p q W hp1 hq1)
  clear hp1 hq1 hp2 hp hq
  generalize sgn (p - q) = z1 at *
  generalize p + q = r1 at *
  generalize p - q = r2 at *
  generalize p * q = r3 at *
  generalize sgn p = z2 at *
  generalize -p = r4 at *
  generalize (decide (q ≠ 0)) = bq at *
  generalize quoN p q = qn at *
  generalize quoA p q = qa at *
  generalize quoD p q = qd at *
  simp only [rv] at Ha Ra Hs Rs Hm Rm Hc Rc Hg Rg Hn Rn HQ RQ
  generalize decide (p.num < 0) = sp at *
  generalize nb p.num.natAbs = np at *
  generalize nb p.den = dp at *
  generalize decide (q.num < 0) = sq at *
  generalize nb q.num.natAbs = nq at *
  generalize nb q.den = dq at *
  have cgA0 := bA.at 0 rfl
  have fgA0 := bA.fr 0 rfl
  have cgA1 := bA.at 1 rfl
  have fgA1 := bA.fr 1 rfl
  have cgA2 := bA.at 2 rfl
  have fgA2 := bA.fr 2 rfl
  have cgB0 := bB.at 0 rfl
  have fgB0 := bB.fr 0 rfl
  have cgB1 := bB.at 1 rfl
  have fgB1 := bB.fr 1 rfl
  have cgB2 := bB.at 2 rfl
  have fgB2 := bB.fr 2 rfl
  go_wp2_with fail
  clear cgA0 fgA0 cgA1 fgA1 cgA2 fgA2 cgB0 fgB0 cgB1 fgB1 cgB2 fgB2
  with_reducible refine (HQ.out _).mono ?_
  rintro e wZ ⟨rfl, hbX⟩
  have hacc := hacc.trans (hbX.mono hacc.size)
  have bA := bA.below hbX
  have bB := bB.below hbX
  clear hbX
  have kgC := hacc.size
  have hacc := hacc.alloc hacc.size (.cells #[.bool qn, .string qa, .string qd] 27)
  have dgA := bA.lt
  have dgB := bB.lt
  have bA := bA.alloc (.cells #[.bool qn, .string qa, .string qd] 27)
  have bB := bB.alloc (.cells #[.bool qn, .string qa, .string qd] 27)
  have bC : Rx (wZ.alloc (.cells #[.bool qn, .string qa, .string qd] 27)) wZ.heap.size [.bool qn, .string qa, .string qd] := Rx.new wZ _ rfl [.bool qn, .string qa, .string qd] 27
  go_upto_region 5 with fail
  generalize wZ.heap.size = gC at *
  generalize wZ.alloc (.cells #[.bool qn, .string qa, .string qd] 27) = WgC at *
  have ngAgC : gA ≠ gC := by omega
  have ngBgC : gB ≠ gC := by omega
  clear dgA dgB
  have cgA0 := bA.at 0 rfl
  have fgA0 := bA.fr 0 rfl
  have cgA1 := bA.at 1 rfl
  have fgA1 := bA.fr 1 rfl
  have cgA2 := bA.at 2 rfl
  have fgA2 := bA.fr 2 rfl
  have cgB0 := bB.at 0 rfl
  have fgB0 := bB.fr 0 rfl
  have cgB1 := bB.at 1 rfl
  have fgB1 := bB.fr 1 rfl
  have cgB2 := bB.at 2 rfl
  have fgB2 := bB.fr 2 rfl
  go_wp2_with fail
  clear cgA0 fgA0 cgA1 fgA1 cgA2 fgA2 cgB0 fgB0 cgB1 fgB1 cgB2 fgB2
  with_reducible refine (RQ.out _).mono ?_
  rintro e wZ ⟨rfl, hbX⟩
  have hacc := hacc.trans (hbX.mono hacc.size)
  have bA := bA.below hbX
  have bB := bB.below hbX
  have bC := bC.below hbX
  clear hbX
  have kgD := hacc.size
  have hacc := hacc.alloc hacc.size (.cells #[.bool qn, .string qa, .string qd] 27)
  have dgA := bA.lt
  have dgB := bB.lt
  have dgC := bC.lt
  have bA := bA.alloc (.cells #[.bool qn, .string qa, .string qd] 27)
  have bB := bB.alloc (.cells #[.bool qn, .string qa, .string qd] 27)
  have bC := bC.alloc (.cells #[.bool qn, .string qa, .string qd] 27)
  have bD : Rx (wZ.alloc (.cells #[.bool qn, .string qa, .string qd] 27)) wZ.heap.size [.bool qn, .string qa, .string qd] := Rx.new wZ _ rfl [.bool qn, .string qa, .string qd] 27
  go_upto_region 6 with fail
  generalize wZ.heap.size = gD at *
  generalize wZ.alloc (.cells #[.bool qn, .string qa, .string qd] 27) = WgD at *
  have ngAgD : gA ≠ gD := by omega
  have ngBgD : gB ≠ gD := by omega
  have ngCgD : gC ≠ gD := by omega
  clear dgA dgB dgC
  go_cut [12] (fun s12 wx => s12 = .bool true ∧ Rx wx gA [.bool sp, .string np, .string dp] ∧ Rx wx gB [.bool sq, .string nq, .string dq] ∧ Below w.heap.size w wx)
  case first =>
    have cgA0 := bA.at 0 rfl
    have cgA1 := bA.at 1 rfl
    have cgA2 := bA.at 2 rfl
    have cgB0 := bB.at 0 rfl
    have cgB1 := bB.at 1 rfl
    have cgB2 := bB.at 2 rfl
    have cgC0 := bC.at 0 rfl
    have cgC1 := bC.at 1 rfl
    have cgC2 := bC.at 2 rfl
    have cgD0 := bD.at 0 rfl
    have cgD1 := bD.at 1 rfl
    have cgD2 := bD.at 2 rfl
    have hacc := hacc.drew
    have bA := bA.drew
    have bB := bB.drew
    have bC := bC.drew
    have bD := bD.drew
    go_region_held3 (fun w' => w'.cell? ⟨gA, 0, none⟩ = some (.bool sp) ∧ w'.cell? ⟨gA, 1, none⟩ = some (.string np) ∧ w'.cell? ⟨gA, 2, none⟩ = some (.string dp) ∧ w'.cell? ⟨gB, 0, none⟩ = some (.bool sq) ∧ w'.cell? ⟨gB, 1, none⟩ = some (.string nq) ∧ w'.cell? ⟨gB, 2, none⟩ = some (.string dq) ∧ w'.cell? ⟨gC, 0, none⟩ = some (.bool qn) ∧ w'.cell? ⟨gC, 1, none⟩ = some (.string qa) ∧ w'.cell? ⟨gC, 2, none⟩ = some (.string qd) ∧ w'.cell? ⟨gD, 0, none⟩ = some (.bool qn) ∧ w'.cell? ⟨gD, 1, none⟩ = some (.string qa) ∧ w'.cell? ⟨gD, 2, none⟩ = some (.string qd)) (first | with_reducible exact ⟨bA.at 0 rfl, bA.at 1 rfl, bA.at 2 rfl, bB.at 0 rfl, bB.at 1 rfl, bB.at 2 rfl, bC.at 0 rfl, bC.at 1 rfl, bC.at 2 rfl, bD.at 0 rfl, bD.at 1 rfl, bD.at 2 rfl⟩ | go_keep) (first | (go_at_call 26; (first | (with_reducible refine (Ha.out _).mono ?_; rintro e wX ⟨rfl, hbX⟩; have hacc := hacc.trans (hbX.mono hacc.size); have bA := bA.below hbX; have bB := bB.below hbX; have bC := bC.below hbX; have bD := bD.below hbX; clear hbX))) | (go_at_call 30; (first | (with_reducible refine (Ra.out _).mono ?_; rintro e wX ⟨rfl, hbX⟩; have hacc := hacc.trans (hbX.mono hacc.size); have bA := bA.below hbX; have bB := bB.below hbX; have bC := bC.below hbX; have bD := bD.below hbX; clear hbX))) | (go_at_call 31; (first | (with_reducible refine (Hs.out _).mono ?_; rintro e wX ⟨rfl, hbX⟩; have hacc := hacc.trans (hbX.mono hacc.size); have bA := bA.below hbX; have bB := bB.below hbX; have bC := bC.below hbX; have bD := bD.below hbX; clear hbX))) | (go_at_call 32; (first | (with_reducible refine (Rs.out _).mono ?_; rintro e wX ⟨rfl, hbX⟩; have hacc := hacc.trans (hbX.mono hacc.size); have bA := bA.below hbX; have bB := bB.below hbX; have bC := bC.below hbX; have bD := bD.below hbX; clear hbX))) | (go_at_call 33; (first | (with_reducible refine (Hm.out _).mono ?_; rintro e wX ⟨rfl, hbX⟩; have hacc := hacc.trans (hbX.mono hacc.size); have bA := bA.below hbX; have bB := bB.below hbX; have bC := bC.below hbX; have bD := bD.below hbX; clear hbX))) | (go_at_call 34; (first | (with_reducible refine (Rm.out _).mono ?_; rintro e wX ⟨rfl, hbX⟩; have hacc := hacc.trans (hbX.mono hacc.size); have bA := bA.below hbX; have bB := bB.below hbX; have bC := bC.below hbX; have bD := bD.below hbX; clear hbX))))
    all_goals
      go_wp2_with fail
      go_meet
      exact ⟨rfl, bA, bB, hacc⟩
  case rest =>
    obtain ⟨rfl, bA, bB, hacc⟩ := hcut
    go_upto_region 7 with fail
    have cgA0 := bA.at 0 rfl
    have cgA1 := bA.at 1 rfl
    have cgA2 := bA.at 2 rfl
    have cgB0 := bB.at 0 rfl
    have cgB1 := bB.at 1 rfl
    have cgB2 := bB.at 2 rfl
    have hacc := hacc.drew
    have bA := bA.drew
    have bB := bB.drew
    go_region_held3 (fun w' => w'.cell? ⟨gA, 0, none⟩ = some (.bool sp) ∧ w'.cell? ⟨gA, 1, none⟩ = some (.string np) ∧ w'.cell? ⟨gA, 2, none⟩ = some (.string dp) ∧ w'.cell? ⟨gB, 0, none⟩ = some (.bool sq) ∧ w'.cell? ⟨gB, 1, none⟩ = some (.string nq) ∧ w'.cell? ⟨gB, 2, none⟩ = some (.string dq)) (first | with_reducible exact ⟨bA.at 0 rfl, bA.at 1 rfl, bA.at 2 rfl, bB.at 0 rfl, bB.at 1 rfl, bB.at 2 rfl⟩ | go_keep) (first | (go_at_call 35; (first | (with_reducible refine (Hc.out _).mono ?_; rintro e wX ⟨rfl, hbX⟩; have hacc := hacc.trans (hbX.mono hacc.size); have bA := bA.below hbX; have bB := bB.below hbX; clear hbX))) | (go_at_call 36; (first | (with_reducible refine (Rc.out _).mono ?_; rintro e wX ⟨rfl, hbX⟩; have hacc := hacc.trans (hbX.mono hacc.size); have bA := bA.below hbX; have bB := bB.below hbX; clear hbX))) | (go_at_call 37; (first | (with_reducible refine (Hg.out _).mono ?_; rintro e wX ⟨rfl, hbX⟩; have hacc := hacc.trans (hbX.mono hacc.size); have bA := bA.below hbX; have bB := bB.below hbX; clear hbX))) | (go_at_call 38; (first | (with_reducible refine (Rg.out _).mono ?_; rintro e wX ⟨rfl, hbX⟩; have hacc := hacc.trans (hbX.mono hacc.size); have bA := bA.below hbX; have bB := bB.below hbX; clear hbX))) | (go_at_call 39; (first | (with_reducible refine (Hn.out _).mono ?_; rintro e wX ⟨rfl, hbX⟩; have hacc := hacc.trans (hbX.mono hacc.size); have bA := bA.below hbX; have bB := bB.below hbX; clear hbX))) | (go_at_call 40; (first | (with_reducible refine (Rn.out _).mono ?_; rintro e wX ⟨rfl, hbX⟩; have hacc := hacc.trans (hbX.mono hacc.size); have bA := bA.below hbX; have bB := bB.below hbX; clear hbX))))
    all_goals
      go_wp2_with fail
      go_ret
      exact ⟨rfl, hacc⟩
end Go.Proofs.YtfbjboehniakcaaGreatDoor
