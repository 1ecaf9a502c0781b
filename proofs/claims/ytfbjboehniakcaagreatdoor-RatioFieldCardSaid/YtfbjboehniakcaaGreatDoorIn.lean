/- The walk of RatioField. -/
import Derived.Test.YtfbjboehniakcaaGreatDoorIf
import Derived.Test.YtfbjboehniakcaaGreatDoorIm
import Derived.Test.YtfbjboehniakcaaGreatDoorIo
namespace Go.Proofs.YtfbjboehniakcaaGreatDoor
open Go.RowKit W
open Pl (bval enc bv nb bv_nb nb_size_le nb_size_zero nb_size_mono nb_bv_size bv_lt cmpN nb_inj)
open Rq
theorem fld_raws {w : World} {g : Nat} {a0 b0 c0 : Bool} {a1 a2 b1 b2 c1 c2 : ByteArray} (h : Rx w g [.bool a0, .string a1, .string a2, .bool b0, .string b1, .string b2, .bool c0, .string c1, .string c2]) :
    RawsR w (.slice (some ⟨g, 0, none⟩) 3 3) [⟨a0, a1, a2⟩, ⟨b0, b1, b2⟩, ⟨c0, c1, c2⟩] := by
  refine ⟨_, _, rfl, fun _ => ⟨g, rfl, h.lt, fun i hi => ?_⟩⟩
  simp only [List.length_cons, List.length_nil] at hi
  rcases (show i = 0 ∨ i = 1 ∨ i = 2 by omega) with rfl | rfl | rfl
  · exact ⟨h.at 0 rfl, h.at 1 rfl, h.at 2 rfl⟩
  · exact ⟨h.at 3 rfl, h.at 4 rfl, h.at 5 rfl⟩
  · exact ⟨h.at 6 rfl, h.at 7 rfl, h.at 8 rfl⟩
theorem fld_same (q : Rat) : (q = 0 → decide (q.num < 0) = decide ((0 : Rat).num < 0) ∧ nb q.num.natAbs = nb (0 : Rat).num.natAbs ∧ nb q.den = nb (0 : Rat).den) ∧ (decide (q.num < 0) = decide ((0 : Rat).num < 0) ∧ nb q.num.natAbs = nb (0 : Rat).num.natAbs ∧ nb q.den = nb (0 : Rat).den → q = 0) := by
  constructor
  · rintro rfl; exact ⟨rfl, rfl, rfl⟩
  · intro h
    exact ext3 h.1 (nb_inj h.2.1) (nb_inj h.2.2)
theorem fld_bq (q : Rat) : (q = 0 → decide (q ≠ 0) = false) ∧ (¬ q = 0 → decide (q ≠ 0) = true) := ⟨fun h => by simp [h], fun h => by simp [h]⟩
theorem fld_quo (p q : Rat) (w : World) (hp : Sz p 24) (hq : Sz q 24) (hz : q ≠ 0) :
    Calls Tryz.prog 33 #[.agg #[.bool (quoN p q), .string (quoA p q), .string (quoD p q)], rv q] w fun e w' => e = .returned (rv p) ∧ Below w.heap.size w w' := by
  have := amul_any (p / q) q w ((Sz_div hp hq hz).mono (by decide)) (hq.mono (by decide))
  rw [Rat.div_mul_cancel hz] at this
  rw [quoN, quoA, quoD, if_neg hz, if_neg hz, if_neg hz]; exact this
set_option maxRecDepth 100000 in
set_option maxHeartbeats 16000000 in
theorem rfield_walk (x0 x1 x2 y0 y1 y2 z0 z1 z2 : Int) (w : World) (hx0 : -9223372036854775808 ≤ x0 ∧ x0 ≤ 9223372036854775807) (hx1 : -9223372036854775808 ≤ x1 ∧ x1 ≤ 9223372036854775807) (hy0 : -9223372036854775808 ≤ y0 ∧ y0 ≤ 9223372036854775807) (hy1 : -9223372036854775808 ≤ y1 ∧ y1 ≤ 9223372036854775807) (hz0 : -9223372036854775808 ≤ z0 ∧ z0 ≤ 9223372036854775807) (hz1 : -9223372036854775808 ≤ z1 ∧ z1 ≤ 9223372036854775807) (hG : GR w) :
    Calls Tryz.prog 7 #[.agg #[.int .i64 x0, .int .i64 x1, .int .i64 x2], .agg #[.int .i64 y0, .int .i64 y1, .int .i64 y2], .agg #[.int .i64 z0, .int .i64 z1, .int .i64 z2]] w fun e w' => e = .returned (.bool true) ∧ Below w.heap.size w w' := by
  go_enter Tryz.func7, Tryz.ntmps7
  have bX : Rx (((w.alloc (.cells #[.int .i64 x0, .int .i64 x1, .int .i64 x2] 22)).alloc (.cells #[.int .i64 y0, .int .i64 y1, .int .i64 y2] 22)).alloc (.cells #[.int .i64 z0, .int .i64 z1, .int .i64 z2] 22)) (w.heap.size) [.int .i64 x0, .int .i64 x1, .int .i64 x2] := (((Rx.new w _ rfl [.int .i64 x0, .int .i64 x1, .int .i64 x2] 22).alloc (.cells #[.int .i64 y0, .int .i64 y1, .int .i64 y2] 22)).alloc (.cells #[.int .i64 z0, .int .i64 z1, .int .i64 z2] 22))
  have bY : Rx (((w.alloc (.cells #[.int .i64 x0, .int .i64 x1, .int .i64 x2] 22)).alloc (.cells #[.int .i64 y0, .int .i64 y1, .int .i64 y2] 22)).alloc (.cells #[.int .i64 z0, .int .i64 z1, .int .i64 z2] 22)) (w.heap.size + 1) [.int .i64 y0, .int .i64 y1, .int .i64 y2] := ((Rx.new (w.alloc (.cells #[.int .i64 x0, .int .i64 x1, .int .i64 x2] 22)) _ (by simp) [.int .i64 y0, .int .i64 y1, .int .i64 y2] 22).alloc (.cells #[.int .i64 z0, .int .i64 z1, .int .i64 z2] 22))
  have bZ : Rx (((w.alloc (.cells #[.int .i64 x0, .int .i64 x1, .int .i64 x2] 22)).alloc (.cells #[.int .i64 y0, .int .i64 y1, .int .i64 y2] 22)).alloc (.cells #[.int .i64 z0, .int .i64 z1, .int .i64 z2] 22)) (w.heap.size + 1 + 1) [.int .i64 z0, .int .i64 z1, .int .i64 z2] := (Rx.new ((w.alloc (.cells #[.int .i64 x0, .int .i64 x1, .int .i64 x2] 22)).alloc (.cells #[.int .i64 y0, .int .i64 y1, .int .i64 y2] 22)) _ (by simp) [.int .i64 z0, .int .i64 z1, .int .i64 z2] 22)
  have hacc := ((((Below.refl w.heap.size w).alloc (Nat.le_refl w.heap.size) (.cells #[.int .i64 x0, .int .i64 x1, .int .i64 x2] 22)).alloc (by simp) (.cells #[.int .i64 y0, .int .i64 y1, .int .i64 y2] 22)).alloc (by simp; omega) (.cells #[.int .i64 z0, .int .i64 z1, .int .i64 z2] 22))
  go_upto_region 1 with fail
  generalize ((w.alloc (.cells #[.int .i64 x0, .int .i64 x1, .int .i64 x2] 22)).alloc (.cells #[.int .i64 y0, .int .i64 y1, .int .i64 y2] 22)).alloc (.cells #[.int .i64 z0, .int .i64 z1, .int .i64 z2] 22) = W0 at *
  generalize hgZ : w.heap.size + 1 + 1 = gZ at *
  generalize hgY : w.heap.size + 1 = gY at *
  obtain ⟨gX, hgX⟩ : ∃ g, g = w.heap.size := ⟨_, rfl⟩
  rw [← hgX] at bX
  simp only [← hgX]
  have ngXgY : gX ≠ gY := by omega
  have ngXgZ : gX ≠ gZ := by omega
  have ngYgZ : gY ≠ gZ := by omega
  have kgX : w.heap.size ≤ gX := by omega
  have kgY : w.heap.size ≤ gY := by omega
  have kgZ : w.heap.size ≤ gZ := by omega
  clear hgX hgY hgZ
  go_wp2_with fail
  with_reducible refine (sanity2_any _ (hG.below hacc)).mono ?_
  rintro e wZ ⟨rfl, hbX⟩
  replace hacc := hacc.trans (hbX.mono hacc.size)
  replace bX := bX.below hbX
  replace bY := bY.below hbX
  replace bZ := bZ.below hbX
  clear hbX
  have cgX0 := bX.at 0 rfl
  have fgX0 := bX.fr 0 rfl
  have cgX1 := bX.at 1 rfl
  have fgX1 := bX.fr 1 rfl
  have cgX2 := bX.at 2 rfl
  have fgX2 := bX.fr 2 rfl
  go_wp2_with fail
  clear cgX0 fgX0 cgX1 fgX1 cgX2 fgX2
  with_reducible refine (rmade2_any x0 x1 x2 _ hx0.1 hx0.2 hx1.1 hx1.2).mono ?_
  rintro e wZ ⟨⟨p, rfl, hp⟩, hbX⟩
  replace hacc := hacc.trans (hbX.mono hacc.size)
  replace bX := bX.below hbX
  replace bY := bY.below hbX
  replace bZ := bZ.below hbX
  clear hbX
  unfold rv
  have kgA := hacc.size
  replace hacc := hacc.alloc hacc.size (.cells #[.bool (decide (p.num < 0)), .string (nb p.num.natAbs), .string (nb p.den)] 27)
  have dgX := bX.lt
  have dgY := bY.lt
  have dgZ := bZ.lt
  replace bX := bX.alloc (.cells #[.bool (decide (p.num < 0)), .string (nb p.num.natAbs), .string (nb p.den)] 27)
  replace bY := bY.alloc (.cells #[.bool (decide (p.num < 0)), .string (nb p.num.natAbs), .string (nb p.den)] 27)
  replace bZ := bZ.alloc (.cells #[.bool (decide (p.num < 0)), .string (nb p.num.natAbs), .string (nb p.den)] 27)
  have bA : Rx (wZ.alloc (.cells #[.bool (decide (p.num < 0)), .string (nb p.num.natAbs), .string (nb p.den)] 27)) wZ.heap.size [.bool (decide (p.num < 0)), .string (nb p.num.natAbs), .string (nb p.den)] := Rx.new wZ _ rfl [.bool (decide (p.num < 0)), .string (nb p.num.natAbs), .string (nb p.den)] 27
  go_upto_region 3 with fail
  generalize wZ.heap.size = gA at *
  generalize wZ.alloc (.cells #[.bool (decide (p.num < 0)), .string (nb p.num.natAbs), .string (nb p.den)] 27) = WgA at *
  have ngXgA : gX ≠ gA := by omega
  have ngYgA : gY ≠ gA := by omega
  have ngZgA : gZ ≠ gA := by omega
  clear dgX dgY dgZ
  have cgY0 := bY.at 0 rfl
  have fgY0 := bY.fr 0 rfl
  have cgY1 := bY.at 1 rfl
  have fgY1 := bY.fr 1 rfl
  have cgY2 := bY.at 2 rfl
  have fgY2 := bY.fr 2 rfl
  go_wp2_with fail
  clear cgY0 fgY0 cgY1 fgY1 cgY2 fgY2
  with_reducible refine (rmade2_any y0 y1 y2 _ hy0.1 hy0.2 hy1.1 hy1.2).mono ?_
  rintro e wZ ⟨⟨q, rfl, hq⟩, hbX⟩
  replace hacc := hacc.trans (hbX.mono hacc.size)
  replace bX := bX.below hbX
  replace bY := bY.below hbX
  replace bZ := bZ.below hbX
  replace bA := bA.below hbX
  clear hbX
  unfold rv
  have kgB := hacc.size
  replace hacc := hacc.alloc hacc.size (.cells #[.bool (decide (q.num < 0)), .string (nb q.num.natAbs), .string (nb q.den)] 27)
  have dgX := bX.lt
  have dgY := bY.lt
  have dgZ := bZ.lt
  have dgA := bA.lt
  replace bX := bX.alloc (.cells #[.bool (decide (q.num < 0)), .string (nb q.num.natAbs), .string (nb q.den)] 27)
  replace bY := bY.alloc (.cells #[.bool (decide (q.num < 0)), .string (nb q.num.natAbs), .string (nb q.den)] 27)
  replace bZ := bZ.alloc (.cells #[.bool (decide (q.num < 0)), .string (nb q.num.natAbs), .string (nb q.den)] 27)
  replace bA := bA.alloc (.cells #[.bool (decide (q.num < 0)), .string (nb q.num.natAbs), .string (nb q.den)] 27)
  have bB : Rx (wZ.alloc (.cells #[.bool (decide (q.num < 0)), .string (nb q.num.natAbs), .string (nb q.den)] 27)) wZ.heap.size [.bool (decide (q.num < 0)), .string (nb q.num.natAbs), .string (nb q.den)] := Rx.new wZ _ rfl [.bool (decide (q.num < 0)), .string (nb q.num.natAbs), .string (nb q.den)] 27
  go_upto_region 4 with fail
  generalize wZ.heap.size = gB at *
  generalize wZ.alloc (.cells #[.bool (decide (q.num < 0)), .string (nb q.num.natAbs), .string (nb q.den)] 27) = WgB at *
  have ngXgB : gX ≠ gB := by omega
  have ngYgB : gY ≠ gB := by omega
  have ngZgB : gZ ≠ gB := by omega
  have ngAgB : gA ≠ gB := by omega
  clear dgX dgY dgZ dgA
  have cgZ0 := bZ.at 0 rfl
  have fgZ0 := bZ.fr 0 rfl
  have cgZ1 := bZ.at 1 rfl
  have fgZ1 := bZ.fr 1 rfl
  have cgZ2 := bZ.at 2 rfl
  have fgZ2 := bZ.fr 2 rfl
  go_wp2_with fail
  clear cgZ0 fgZ0 cgZ1 fgZ1 cgZ2 fgZ2
  with_reducible refine (rmade2_any z0 z1 z2 _ hz0.1 hz0.2 hz1.1 hz1.2).mono ?_
  rintro e wZ ⟨⟨r, rfl, hr⟩, hbX⟩
  replace hacc := hacc.trans (hbX.mono hacc.size)
  replace bX := bX.below hbX
  replace bY := bY.below hbX
  replace bZ := bZ.below hbX
  replace bA := bA.below hbX
  replace bB := bB.below hbX
  clear hbX
  unfold rv
  have kgC := hacc.size
  replace hacc := hacc.alloc hacc.size (.cells #[.bool (decide (r.num < 0)), .string (nb r.num.natAbs), .string (nb r.den)] 27)
  have dgX := bX.lt
  have dgY := bY.lt
  have dgZ := bZ.lt
  have dgA := bA.lt
  have dgB := bB.lt
  replace bX := bX.alloc (.cells #[.bool (decide (r.num < 0)), .string (nb r.num.natAbs), .string (nb r.den)] 27)
  replace bY := bY.alloc (.cells #[.bool (decide (r.num < 0)), .string (nb r.num.natAbs), .string (nb r.den)] 27)
  replace bZ := bZ.alloc (.cells #[.bool (decide (r.num < 0)), .string (nb r.num.natAbs), .string (nb r.den)] 27)
  replace bA := bA.alloc (.cells #[.bool (decide (r.num < 0)), .string (nb r.num.natAbs), .string (nb r.den)] 27)
  replace bB := bB.alloc (.cells #[.bool (decide (r.num < 0)), .string (nb r.num.natAbs), .string (nb r.den)] 27)
  have bC : Rx (wZ.alloc (.cells #[.bool (decide (r.num < 0)), .string (nb r.num.natAbs), .string (nb r.den)] 27)) wZ.heap.size [.bool (decide (r.num < 0)), .string (nb r.num.natAbs), .string (nb r.den)] := Rx.new wZ _ rfl [.bool (decide (r.num < 0)), .string (nb r.num.natAbs), .string (nb r.den)] 27
  go_upto_region 5 with fail
  generalize wZ.heap.size = gC at *
  generalize wZ.alloc (.cells #[.bool (decide (r.num < 0)), .string (nb r.num.natAbs), .string (nb r.den)] 27) = WgC at *
  have ngXgC : gX ≠ gC := by omega
  have ngYgC : gY ≠ gC := by omega
  have ngZgC : gZ ≠ gC := by omega
  have ngAgC : gA ≠ gC := by omega
  have ngBgC : gB ≠ gC := by omega
  clear dgX dgY dgZ dgA dgB
  clear bX bY bZ
  have mp : Sz p 33554432 := hp.mono (by decide)
  have mq : Sz q 33554432 := hq.mono (by decide)
  have mr : Sz r 33554432 := hr.mono (by decide)
  have ns : ∀ {x : Rat} {k : Nat}, Sz x k → k ≤ 33554432 → Sz x 33554432 := fun h hk => h.mono hk
  have m0 : Sz ((0 : Int) : Rat) 33554432 := (Sz_int (n := 0) (by decide) (by decide)).mono (by decide)
  have m1 : Sz ((1 : Int) : Rat) 33554432 := (Sz_int (n := 1) (by decide) (by decide)).mono (by decide)
  have O0 := Lib.hid (fun W => aof_any 0 W (by decide) (by decide))
  have O1 := Lib.hid (fun W => aof_any 1 W (by decide) (by decide))
  have A1 := Lib.hid (fun W => aadd_any p q W mp mq)
  have A2 := Lib.hid (fun W => aadd_any q p W mq mp)
  have M1 := Lib.hid (fun W => amul_any p q W mp mq)
  have M2 := Lib.hid (fun W => amul_any q p W mq mp)
  have A3 := Lib.hid (fun W => aadd_any (p + q) r W (ns (Sz_add hp hq) (by decide)) mr)
  have A4 := Lib.hid (fun W => aadd_any q r W mq mr)
  have A5 := Lib.hid (fun W => aadd_any p (q + r) W mp (ns (Sz_add hq hr) (by decide)))
  have M3 := Lib.hid (fun W => amul_any (p * q) r W (ns (Sz_mul hp hq) (by decide)) mr)
  have M4 := Lib.hid (fun W => amul_any q r W mq mr)
  have M5 := Lib.hid (fun W => amul_any p (q * r) W mp (ns (Sz_mul hq hr) (by decide)))
  have M6 := Lib.hid (fun W => amul_any p (q + r) W mp (ns (Sz_add hq hr) (by decide)))
  have M7 := Lib.hid (fun W => amul_any p r W mp mr)
  have A6 := Lib.hid (fun W => aadd_any (p * q) (p * r) W (ns (Sz_mul hp hq) (by decide)) (ns (Sz_mul hp hr) (by decide)))
  have A7 := Lib.hid (fun W => aadd_any p ((0 : Int) : Rat) W mp m0)
  have M8 := Lib.hid (fun W => amul_any p ((1 : Int) : Rat) W mp m1)
  have N1 := Lib.hid (fun W => aneg_any p W (hp.mono (by decide)))
  have A8 := Lib.hid (fun W => aadd_any p (-p) W mp (ns (Sz_neg hp) (by decide)))
  have S1 := Lib.hid (fun W => asub_any p q W mp mq)
  have N2 := Lib.hid (fun W => aneg_any q W (hq.mono (by decide)))
  have A9 := Lib.hid (fun W => aadd_any p (-q) W mp (ns (Sz_neg hq) (by decide)))
  have SU := Lib.hid (fun (v : Value) (W : World) h => asum_any [p, q, r] v W h (by simp) (by
    intro x hx
    simp only [List.mem_cons, List.not_mem_nil, or_false] at hx
    rcases hx with rfl | rfl | rfl <;> (first | exact hp.mono (by decide) | exact hq.mono (by decide) | exact hr.mono (by decide))))
  have QT := Lib.hid (fun W => quoT p q W mp mq)
  have MQ := Lib.hid (fun W (hz : q ≠ 0) => fld_quo p q W hp hq hz)
  have HB := Lib.hid (fld_bq q)
  rw [Rat.add_comm q p] at A2
  rw [Rat.mul_comm q p] at M2
  rw [← Rat.add_assoc] at A5
  rw [← Rat.mul_assoc] at M5
  rw [← Rat.mul_add] at A6
  rw [show ((0 : Int) : Rat) = 0 from rfl, Rat.add_zero] at A7
  rw [show ((0 : Int) : Rat) = 0 from rfl] at O0
  rw [show ((1 : Int) : Rat) = 1 from rfl, Rat.mul_one] at M8
  rw [show ((1 : Int) : Rat) = 1 from rfl] at O1
  rw [Rat.add_neg_cancel] at A8
  rw [← Rat.sub_eq_add_neg] at A9
  rw [show tot 0 [p, q, r] = p + q + r by simp only [tot, List.foldl_cons, List.foldl_nil, Rat.zero_add]] at SU
  rw [show [p, q, r].map rawQ = [rawQ p, rawQ q, rawQ r] from rfl] at SU
  have HE := Lib.hid (fld_same q)
  clear mp mq mr hp hq hr ns m0 m1
  generalize p + q + r = s1 at *
  generalize p * q * r = s2 at *
  generalize p * (q + r) = s3 at *
  generalize p + q = r1 at *
  generalize q + r = r2 at *
  generalize p * q = r3 at *
  generalize q * r = r4 at *
  generalize p * r = r5 at *
  generalize p - q = r6 at *
  generalize -p = r7 at *
  generalize -q = r8 at *
  generalize (0 : Rat) = o at *
  generalize (1 : Rat) = i1 at *
  generalize (decide (q ≠ o)) = bq at *
  generalize quoN p q = qn at *
  generalize quoA p q = qa at *
  generalize quoD p q = qd at *
  simp only [rv, rawQ] at O0 O1 A1 A2 M1 M2 A3 A4 A5 M3 M4 M5 M6 M7 A6 A7 M8 N1 A8 S1 N2 A9 SU QT MQ
  
  generalize decide (p.num < 0) = sp at *
  generalize nb p.num.natAbs = np at *
  generalize nb p.den = dp at *
  generalize decide (q.num < 0) = sq at *
  generalize nb q.num.natAbs = nq at *
  generalize nb q.den = dq at *
  generalize decide (r.num < 0) = sc at *
  generalize nb r.num.natAbs = nc at *
  generalize nb r.den = dc at *
  generalize decide (o.num < 0) = so at *
  generalize nb o.num.natAbs = no at *
  generalize nb o.den = do' at *
  generalize decide (i1.num < 0) = si at *
  generalize nb i1.num.natAbs = ni at *
  generalize nb i1.den = di at *
  go_wp2_with fail
  with_reducible refine (O0.out _).mono ?_
  rintro e wZ ⟨rfl, hbX⟩
  replace hacc := hacc.trans (hbX.mono hacc.size)
  replace bA := bA.below hbX
  replace bB := bB.below hbX
  replace bC := bC.below hbX
  clear hbX
  have kgO := hacc.size
  replace hacc := hacc.alloc hacc.size (.cells #[.bool so, .string no, .string do'] 27)
  have dgA := bA.lt
  have dgB := bB.lt
  have dgC := bC.lt
  replace bA := bA.alloc (.cells #[.bool so, .string no, .string do'] 27)
  replace bB := bB.alloc (.cells #[.bool so, .string no, .string do'] 27)
  replace bC := bC.alloc (.cells #[.bool so, .string no, .string do'] 27)
  have bO : Rx (wZ.alloc (.cells #[.bool so, .string no, .string do'] 27)) wZ.heap.size [.bool so, .string no, .string do'] := Rx.new wZ _ rfl [.bool so, .string no, .string do'] 27
  go_upto_region 6 with fail
  generalize wZ.heap.size = gO at *
  generalize wZ.alloc (.cells #[.bool so, .string no, .string do'] 27) = WgO at *
  have ngAgO : gA ≠ gO := by omega
  have ngBgO : gB ≠ gO := by omega
  have ngCgO : gC ≠ gO := by omega
  clear dgA dgB dgC
  go_wp2_with fail
  with_reducible refine (O1.out _).mono ?_
  rintro e wZ ⟨rfl, hbX⟩
  replace hacc := hacc.trans (hbX.mono hacc.size)
  replace bA := bA.below hbX
  replace bB := bB.below hbX
  replace bC := bC.below hbX
  replace bO := bO.below hbX
  clear hbX
  have kgI := hacc.size
  replace hacc := hacc.alloc hacc.size (.cells #[.bool si, .string ni, .string di] 27)
  have dgA := bA.lt
  have dgB := bB.lt
  have dgC := bC.lt
  have dgO := bO.lt
  replace bA := bA.alloc (.cells #[.bool si, .string ni, .string di] 27)
  replace bB := bB.alloc (.cells #[.bool si, .string ni, .string di] 27)
  replace bC := bC.alloc (.cells #[.bool si, .string ni, .string di] 27)
  replace bO := bO.alloc (.cells #[.bool si, .string ni, .string di] 27)
  have bI : Rx (wZ.alloc (.cells #[.bool si, .string ni, .string di] 27)) wZ.heap.size [.bool si, .string ni, .string di] := Rx.new wZ _ rfl [.bool si, .string ni, .string di] 27
  go_upto_region 7 with fail
  generalize wZ.heap.size = gI at *
  generalize wZ.alloc (.cells #[.bool si, .string ni, .string di] 27) = WgI at *
  have ngAgI : gA ≠ gI := by omega
  have ngBgI : gB ≠ gI := by omega
  have ngCgI : gC ≠ gI := by omega
  have ngOgI : gO ≠ gI := by omega
  clear dgA dgB dgC dgO
  go_cut [13] (fun s wx => s = .bool true ∧ Rx wx gA [.bool sp, .string np, .string dp] ∧ Rx wx gB [.bool sq, .string nq, .string dq] ∧ Rx wx gC [.bool sc, .string nc, .string dc] ∧ Rx wx gO [.bool so, .string no, .string do'] ∧ Rx wx gI [.bool si, .string ni, .string di] ∧ Below w.heap.size w wx)
  case first =>
    replace hacc := hacc.drew
    replace bA := bA.drew
    replace bB := bB.drew
    replace bC := bC.drew
    replace bO := bO.drew
    replace bI := bI.drew
    refine wp_held (S := (fun w' => w'.cell? ⟨gA, 0, none⟩ = some (.bool sp) ∧ w'.cell? ⟨gA, 1, none⟩ = some (.string np) ∧ w'.cell? ⟨gA, 2, none⟩ = some (.string dp) ∧ w'.cell? ⟨gB, 0, none⟩ = some (.bool sq) ∧ w'.cell? ⟨gB, 1, none⟩ = some (.string nq) ∧ w'.cell? ⟨gB, 2, none⟩ = some (.string dq) ∧ w'.cell? ⟨gC, 0, none⟩ = some (.bool sc) ∧ w'.cell? ⟨gC, 1, none⟩ = some (.string nc) ∧ w'.cell? ⟨gC, 2, none⟩ = some (.string dc))) (by kernel_rfl) (fun hP WD hWD => ?_)
    simp only [← hWD.out] at hacc bA bB bC bO bI
    clear hWD
    refine ⟨?_, fun hHeld => ?_⟩
    · try dsimp only
      with_reducible exact ⟨bA.at 0 rfl, bA.at 1 rfl, bA.at 2 rfl, bB.at 0 rfl, bB.at 1 rfl, bB.at 2 rfl, bC.at 0 rfl, bC.at 1 rfl, bC.at 2 rfl⟩
    refine tk (oi := ?_) (v := ?_) 0 hP (by kernel_rfl) ?_ ?_ ?_ hHeld ?_; rotate_left 2
    (conv => lhs; whnf; arg 1; whnf); kernel_rfl; focus (intro w hSw; (try dsimp only at hSw); go_simp; all_goals with_reducible rfl)
    simp only [Act.put, List.setIfInBounds_toArray, List.set_cons_zero, List.set_cons_succ]
    refine tk (oi := ?_) (v := ?_) 1 hP (by kernel_rfl) ?_ ?_ ?_ hHeld ?_; rotate_left 2
    (conv => lhs; whnf; arg 1; whnf); kernel_rfl; focus (intro w hSw; (try dsimp only at hSw); go_simp; all_goals with_reducible rfl)
    simp only [Act.put, List.setIfInBounds_toArray, List.set_cons_zero, List.set_cons_succ]
    refine tk (oi := ?_) (v := ?_) 3 hP (by kernel_rfl) ?_ ?_ ?_ hHeld ?_; rotate_left 2
    (conv => lhs; whnf; arg 1; whnf); kernel_rfl; focus (intro w hSw; (try dsimp only at hSw); go_simp; all_goals with_reducible rfl)
    simp only [Act.put, List.setIfInBounds_toArray, List.set_cons_zero, List.set_cons_succ]
    refine tk (oi := ?_) (v := ?_) 4 hP (by kernel_rfl) ?_ ?_ ?_ hHeld ?_; rotate_left 2
    (conv => lhs; whnf; arg 1; whnf); kernel_rfl; focus (intro w hSw; (try dsimp only at hSw); go_simp; all_goals with_reducible rfl)
    simp only [Act.put, List.setIfInBounds_toArray, List.set_cons_zero, List.set_cons_succ]
    refine st (oi := ?_) 2 (by kernel_rfl) ?_ (fun KK hK => ?_); rotate_left; (conv => lhs; whnf; arg 1; whnf)
    go_simp
    with_reducible refine (A1.out _).mono ?_
    rintro e wZ ⟨rfl, hbX⟩
    replace hacc := hacc.trans (hbX.mono hacc.size)
    replace bA := bA.below hbX
    replace bB := bB.below hbX
    replace bC := bC.below hbX
    replace bO := bO.below hbX
    replace bI := bI.below hbX
    clear hbX
    (first | refine hK.out _ _ ?_ (fun hHeldN => ?_) | (go_wp2_with fail; refine hK.out _ _ ?_ (fun hHeldN => ?_)))
    · try dsimp only
      with_reducible exact ⟨bA.at 0 rfl, bA.at 1 rfl, bA.at 2 rfl, bB.at 0 rfl, bB.at 1 rfl, bB.at 2 rfl, bC.at 0 rfl, bC.at 1 rfl, bC.at 2 rfl⟩
    clear hK KK hHeld
    have hHeld := hHeldN
    clear hHeldN
    try simp only [Act.put, List.setIfInBounds_toArray, List.set_cons_zero, List.set_cons_succ]
    refine st (oi := ?_) 5 (by kernel_rfl) ?_ (fun KK hK => ?_); rotate_left; (conv => lhs; whnf; arg 1; whnf)
    go_simp
    with_reducible refine (A2.out _).mono ?_
    rintro e wZ ⟨rfl, hbX⟩
    replace hacc := hacc.trans (hbX.mono hacc.size)
    replace bA := bA.below hbX
    replace bB := bB.below hbX
    replace bC := bC.below hbX
    replace bO := bO.below hbX
    replace bI := bI.below hbX
    clear hbX
    (first | refine hK.out _ _ ?_ (fun hHeldN => ?_) | (go_wp2_with fail; refine hK.out _ _ ?_ (fun hHeldN => ?_)))
    · try dsimp only
      with_reducible exact ⟨bA.at 0 rfl, bA.at 1 rfl, bA.at 2 rfl, bB.at 0 rfl, bB.at 1 rfl, bB.at 2 rfl, bC.at 0 rfl, bC.at 1 rfl, bC.at 2 rfl⟩
    clear hK KK hHeld
    have hHeld := hHeldN
    clear hHeldN
    try simp only [Act.put, List.setIfInBounds_toArray, List.set_cons_zero, List.set_cons_succ]
    refine tk (oi := ?_) (v := ?_) 6 hP (by kernel_rfl) ?_ ?_ ?_ hHeld ?_; rotate_left 2
    (conv => lhs; whnf; arg 1; whnf); kernel_rfl; focus (intro w hSw; (try dsimp only at hSw); go_simp; all_goals with_reducible rfl)
    simp only [Act.put, List.setIfInBounds_toArray, List.set_cons_zero, List.set_cons_succ]
    refine tk (oi := ?_) (v := ?_) 7 hP (by kernel_rfl) ?_ ?_ ?_ hHeld ?_; rotate_left 2
    (conv => lhs; whnf; arg 1; whnf); kernel_rfl; focus (intro w hSw; (try dsimp only at hSw); go_simp; all_goals with_reducible rfl)
    simp only [Act.put, List.setIfInBounds_toArray, List.set_cons_zero, List.set_cons_succ]
    refine tk (oi := ?_) (v := ?_) 8 hP (by kernel_rfl) ?_ ?_ ?_ hHeld ?_; rotate_left 2
    (conv => lhs; whnf; arg 1; whnf); kernel_rfl; focus (intro w hSw; (try dsimp only at hSw); go_simp; all_goals with_reducible rfl)
    simp only [Act.put, List.setIfInBounds_toArray, List.set_cons_zero, List.set_cons_succ]
    refine tk (oi := ?_) (v := ?_) 9 hP (by kernel_rfl) ?_ ?_ ?_ hHeld ?_; rotate_left 2
    (conv => lhs; whnf; arg 1; whnf); kernel_rfl; focus (intro w hSw; (try dsimp only at hSw); go_simp; all_goals with_reducible rfl)
    simp only [Act.put, List.setIfInBounds_toArray, List.set_cons_zero, List.set_cons_succ]
    refine tk (oi := ?_) (v := ?_) 11 hP (by kernel_rfl) ?_ ?_ ?_ hHeld ?_; rotate_left 2
    (conv => lhs; whnf; arg 1; whnf); kernel_rfl; focus (intro w hSw; (try dsimp only at hSw); go_simp; all_goals with_reducible rfl)
    simp only [Act.put, List.setIfInBounds_toArray, List.set_cons_zero, List.set_cons_succ]
    refine tk (oi := ?_) (v := ?_) 12 hP (by kernel_rfl) ?_ ?_ ?_ hHeld ?_; rotate_left 2
    (conv => lhs; whnf; arg 1; whnf); kernel_rfl; focus (intro w hSw; (try dsimp only at hSw); go_simp; all_goals with_reducible rfl)
    simp only [Act.put, List.setIfInBounds_toArray, List.set_cons_zero, List.set_cons_succ]
    refine st (oi := ?_) 10 (by kernel_rfl) ?_ (fun KK hK => ?_); rotate_left; (conv => lhs; whnf; arg 1; whnf)
    go_simp
    with_reducible refine (M1.out _).mono ?_
    rintro e wZ ⟨rfl, hbX⟩
    replace hacc := hacc.trans (hbX.mono hacc.size)
    replace bA := bA.below hbX
    replace bB := bB.below hbX
    replace bC := bC.below hbX
    replace bO := bO.below hbX
    replace bI := bI.below hbX
    clear hbX
    (first | refine hK.out _ _ ?_ (fun hHeldN => ?_) | (go_wp2_with fail; refine hK.out _ _ ?_ (fun hHeldN => ?_)))
    · try dsimp only
      with_reducible exact ⟨bA.at 0 rfl, bA.at 1 rfl, bA.at 2 rfl, bB.at 0 rfl, bB.at 1 rfl, bB.at 2 rfl, bC.at 0 rfl, bC.at 1 rfl, bC.at 2 rfl⟩
    clear hK KK hHeld
    have hHeld := hHeldN
    clear hHeldN
    try simp only [Act.put, List.setIfInBounds_toArray, List.set_cons_zero, List.set_cons_succ]
    refine st (oi := ?_) 13 (by kernel_rfl) ?_ (fun KK hK => ?_); rotate_left; (conv => lhs; whnf; arg 1; whnf)
    go_simp
    with_reducible refine (M2.out _).mono ?_
    rintro e wZ ⟨rfl, hbX⟩
    replace hacc := hacc.trans (hbX.mono hacc.size)
    replace bA := bA.below hbX
    replace bB := bB.below hbX
    replace bC := bC.below hbX
    replace bO := bO.below hbX
    replace bI := bI.below hbX
    clear hbX
    (first | refine hK.out _ _ ?_ (fun hHeldN => ?_) | (go_wp2_with fail; refine hK.out _ _ ?_ (fun hHeldN => ?_)))
    · try dsimp only
      with_reducible exact ⟨bA.at 0 rfl, bA.at 1 rfl, bA.at 2 rfl, bB.at 0 rfl, bB.at 1 rfl, bB.at 2 rfl, bC.at 0 rfl, bC.at 1 rfl, bC.at 2 rfl⟩
    clear hK KK hHeld
    have hHeld := hHeldN
    clear hHeldN
    try simp only [Act.put, List.setIfInBounds_toArray, List.set_cons_zero, List.set_cons_succ]
    refine tk (oi := ?_) (v := ?_) 14 hP (by kernel_rfl) ?_ ?_ ?_ hHeld ?_; rotate_left 2
    (conv => lhs; whnf; arg 1; whnf); kernel_rfl; focus (intro w hSw; (try dsimp only at hSw); go_simp; all_goals with_reducible rfl)
    simp only [Act.put, List.setIfInBounds_toArray, List.set_cons_zero, List.set_cons_succ]
    refine tk (oi := ?_) (v := ?_) 15 hP (by kernel_rfl) ?_ ?_ ?_ hHeld ?_; rotate_left 2
    (conv => lhs; whnf; arg 1; whnf); kernel_rfl; focus (intro w hSw; (try dsimp only at hSw); go_simp; all_goals with_reducible rfl)
    simp only [Act.put, List.setIfInBounds_toArray, List.set_cons_zero, List.set_cons_succ]
    refine tk (oi := ?_) (v := ?_) 16 hP (by kernel_rfl) ?_ ?_ ?_ hHeld ?_; rotate_left 2
    (conv => lhs; whnf; arg 1; whnf); kernel_rfl; focus (intro w hSw; (try dsimp only at hSw); go_simp; all_goals with_reducible rfl)
    simp only [Act.put, List.setIfInBounds_toArray, List.set_cons_zero, List.set_cons_succ]
    refine tk (oi := ?_) (v := ?_) 17 hP (by kernel_rfl) ?_ ?_ ?_ hHeld ?_; rotate_left 2
    (conv => lhs; whnf; arg 1; whnf); kernel_rfl; focus (intro w hSw; (try dsimp only at hSw); go_simp; all_goals with_reducible rfl)
    simp only [Act.put, List.setIfInBounds_toArray, List.set_cons_zero, List.set_cons_succ]
    refine tk (oi := ?_) (v := ?_) 18 hP (by kernel_rfl) ?_ ?_ ?_ hHeld ?_; rotate_left 2
    (conv => lhs; whnf; arg 1; whnf); kernel_rfl; focus (intro w hSw; (try dsimp only at hSw); go_simp; all_goals with_reducible rfl)
    simp only [Act.put, List.setIfInBounds_toArray, List.set_cons_zero, List.set_cons_succ]
    refine tk (oi := ?_) (v := ?_) 20 hP (by kernel_rfl) ?_ ?_ ?_ hHeld ?_; rotate_left 2
    (conv => lhs; whnf; arg 1; whnf); kernel_rfl; focus (intro w hSw; (try dsimp only at hSw); go_simp; all_goals with_reducible rfl)
    simp only [Act.put, List.setIfInBounds_toArray, List.set_cons_zero, List.set_cons_succ]
    refine tk (oi := ?_) (v := ?_) 22 hP (by kernel_rfl) ?_ ?_ ?_ hHeld ?_; rotate_left 2
    (conv => lhs; whnf; arg 1; whnf); kernel_rfl; focus (intro w hSw; (try dsimp only at hSw); go_simp; all_goals with_reducible rfl)
    simp only [Act.put, List.setIfInBounds_toArray, List.set_cons_zero, List.set_cons_succ]
    refine tk (oi := ?_) (v := ?_) 23 hP (by kernel_rfl) ?_ ?_ ?_ hHeld ?_; rotate_left 2
    (conv => lhs; whnf; arg 1; whnf); kernel_rfl; focus (intro w hSw; (try dsimp only at hSw); go_simp; all_goals with_reducible rfl)
    simp only [Act.put, List.setIfInBounds_toArray, List.set_cons_zero, List.set_cons_succ]
    refine tk (oi := ?_) (v := ?_) 24 hP (by kernel_rfl) ?_ ?_ ?_ hHeld ?_; rotate_left 2
    (conv => lhs; whnf; arg 1; whnf); kernel_rfl; focus (intro w hSw; (try dsimp only at hSw); go_simp; all_goals with_reducible rfl)
    simp only [Act.put, List.setIfInBounds_toArray, List.set_cons_zero, List.set_cons_succ]
    refine st (oi := ?_) 19 (by kernel_rfl) ?_ (fun KK hK => ?_); rotate_left; (conv => lhs; whnf; arg 1; whnf)
    go_simp
    with_reducible refine (A1.out _).mono ?_
    rintro e wZ ⟨rfl, hbX⟩
    replace hacc := hacc.trans (hbX.mono hacc.size)
    replace bA := bA.below hbX
    replace bB := bB.below hbX
    replace bC := bC.below hbX
    replace bO := bO.below hbX
    replace bI := bI.below hbX
    clear hbX
    (first | refine hK.out _ _ ?_ (fun hHeldN => ?_) | (go_wp2_with fail; refine hK.out _ _ ?_ (fun hHeldN => ?_)))
    · try dsimp only
      with_reducible exact ⟨bA.at 0 rfl, bA.at 1 rfl, bA.at 2 rfl, bB.at 0 rfl, bB.at 1 rfl, bB.at 2 rfl, bC.at 0 rfl, bC.at 1 rfl, bC.at 2 rfl⟩
    clear hK KK hHeld
    have hHeld := hHeldN
    clear hHeldN
    try simp only [Act.put, List.setIfInBounds_toArray, List.set_cons_zero, List.set_cons_succ]
    refine st (oi := ?_) 21 (by kernel_rfl) ?_ (fun KK hK => ?_); rotate_left; (conv => lhs; whnf; arg 1; whnf)
    go_simp
    with_reducible refine (A3.out _).mono ?_
    rintro e wZ ⟨rfl, hbX⟩
    replace hacc := hacc.trans (hbX.mono hacc.size)
    replace bA := bA.below hbX
    replace bB := bB.below hbX
    replace bC := bC.below hbX
    replace bO := bO.below hbX
    replace bI := bI.below hbX
    clear hbX
    (first | refine hK.out _ _ ?_ (fun hHeldN => ?_) | (go_wp2_with fail; refine hK.out _ _ ?_ (fun hHeldN => ?_)))
    · try dsimp only
      with_reducible exact ⟨bA.at 0 rfl, bA.at 1 rfl, bA.at 2 rfl, bB.at 0 rfl, bB.at 1 rfl, bB.at 2 rfl, bC.at 0 rfl, bC.at 1 rfl, bC.at 2 rfl⟩
    clear hK KK hHeld
    have hHeld := hHeldN
    clear hHeldN
    try simp only [Act.put, List.setIfInBounds_toArray, List.set_cons_zero, List.set_cons_succ]
    refine st (oi := ?_) 25 (by kernel_rfl) ?_ (fun KK hK => ?_); rotate_left; (conv => lhs; whnf; arg 1; whnf)
    go_simp
    with_reducible refine (A4.out _).mono ?_
    rintro e wZ ⟨rfl, hbX⟩
    replace hacc := hacc.trans (hbX.mono hacc.size)
    replace bA := bA.below hbX
    replace bB := bB.below hbX
    replace bC := bC.below hbX
    replace bO := bO.below hbX
    replace bI := bI.below hbX
    clear hbX
    (first | refine hK.out _ _ ?_ (fun hHeldN => ?_) | (go_wp2_with fail; refine hK.out _ _ ?_ (fun hHeldN => ?_)))
    · try dsimp only
      with_reducible exact ⟨bA.at 0 rfl, bA.at 1 rfl, bA.at 2 rfl, bB.at 0 rfl, bB.at 1 rfl, bB.at 2 rfl, bC.at 0 rfl, bC.at 1 rfl, bC.at 2 rfl⟩
    clear hK KK hHeld
    have hHeld := hHeldN
    clear hHeldN
    try simp only [Act.put, List.setIfInBounds_toArray, List.set_cons_zero, List.set_cons_succ]
    refine st (oi := ?_) 26 (by kernel_rfl) ?_ (fun KK hK => ?_); rotate_left; (conv => lhs; whnf; arg 1; whnf)
    go_simp
    with_reducible refine (A5.out _).mono ?_
    rintro e wZ ⟨rfl, hbX⟩
    replace hacc := hacc.trans (hbX.mono hacc.size)
    replace bA := bA.below hbX
    replace bB := bB.below hbX
    replace bC := bC.below hbX
    replace bO := bO.below hbX
    replace bI := bI.below hbX
    clear hbX
    (first | refine hK.out _ _ ?_ (fun hHeldN => ?_) | (go_wp2_with fail; refine hK.out _ _ ?_ (fun hHeldN => ?_)))
    · try dsimp only
      with_reducible exact ⟨bA.at 0 rfl, bA.at 1 rfl, bA.at 2 rfl, bB.at 0 rfl, bB.at 1 rfl, bB.at 2 rfl, bC.at 0 rfl, bC.at 1 rfl, bC.at 2 rfl⟩
    clear hK KK hHeld
    have hHeld := hHeldN
    clear hHeldN
    try simp only [Act.put, List.setIfInBounds_toArray, List.set_cons_zero, List.set_cons_succ]
    refine tk (oi := ?_) (v := ?_) 27 hP (by kernel_rfl) ?_ ?_ ?_ hHeld ?_; rotate_left 2
    (conv => lhs; whnf; arg 1; whnf); kernel_rfl; focus (intro w hSw; (try dsimp only at hSw); go_simp; all_goals with_reducible rfl)
    simp only [Act.put, List.setIfInBounds_toArray, List.set_cons_zero, List.set_cons_succ]
    refine tk (oi := ?_) (v := ?_) 28 hP (by kernel_rfl) ?_ ?_ ?_ hHeld ?_; rotate_left 2
    (conv => lhs; whnf; arg 1; whnf); kernel_rfl; focus (intro w hSw; (try dsimp only at hSw); go_simp; all_goals with_reducible rfl)
    simp only [Act.put, List.setIfInBounds_toArray, List.set_cons_zero, List.set_cons_succ]
    refine tk (oi := ?_) (v := ?_) 29 hP (by kernel_rfl) ?_ ?_ ?_ hHeld ?_; rotate_left 2
    (conv => lhs; whnf; arg 1; whnf); kernel_rfl; focus (intro w hSw; (try dsimp only at hSw); go_simp; all_goals with_reducible rfl)
    simp only [Act.put, List.setIfInBounds_toArray, List.set_cons_zero, List.set_cons_succ]
    refine tk (oi := ?_) (v := ?_) 30 hP (by kernel_rfl) ?_ ?_ ?_ hHeld ?_; rotate_left 2
    (conv => lhs; whnf; arg 1; whnf); kernel_rfl; focus (intro w hSw; (try dsimp only at hSw); go_simp; all_goals with_reducible rfl)
    simp only [Act.put, List.setIfInBounds_toArray, List.set_cons_zero, List.set_cons_succ]
    refine tk (oi := ?_) (v := ?_) 31 hP (by kernel_rfl) ?_ ?_ ?_ hHeld ?_; rotate_left 2
    (conv => lhs; whnf; arg 1; whnf); kernel_rfl; focus (intro w hSw; (try dsimp only at hSw); go_simp; all_goals with_reducible rfl)
    simp only [Act.put, List.setIfInBounds_toArray, List.set_cons_zero, List.set_cons_succ]
    refine tk (oi := ?_) (v := ?_) 33 hP (by kernel_rfl) ?_ ?_ ?_ hHeld ?_; rotate_left 2
    (conv => lhs; whnf; arg 1; whnf); kernel_rfl; focus (intro w hSw; (try dsimp only at hSw); go_simp; all_goals with_reducible rfl)
    simp only [Act.put, List.setIfInBounds_toArray, List.set_cons_zero, List.set_cons_succ]
    refine tk (oi := ?_) (v := ?_) 35 hP (by kernel_rfl) ?_ ?_ ?_ hHeld ?_; rotate_left 2
    (conv => lhs; whnf; arg 1; whnf); kernel_rfl; focus (intro w hSw; (try dsimp only at hSw); go_simp; all_goals with_reducible rfl)
    simp only [Act.put, List.setIfInBounds_toArray, List.set_cons_zero, List.set_cons_succ]
    refine tk (oi := ?_) (v := ?_) 36 hP (by kernel_rfl) ?_ ?_ ?_ hHeld ?_; rotate_left 2
    (conv => lhs; whnf; arg 1; whnf); kernel_rfl; focus (intro w hSw; (try dsimp only at hSw); go_simp; all_goals with_reducible rfl)
    simp only [Act.put, List.setIfInBounds_toArray, List.set_cons_zero, List.set_cons_succ]
    refine tk (oi := ?_) (v := ?_) 37 hP (by kernel_rfl) ?_ ?_ ?_ hHeld ?_; rotate_left 2
    (conv => lhs; whnf; arg 1; whnf); kernel_rfl; focus (intro w hSw; (try dsimp only at hSw); go_simp; all_goals with_reducible rfl)
    simp only [Act.put, List.setIfInBounds_toArray, List.set_cons_zero, List.set_cons_succ]
    refine st (oi := ?_) 32 (by kernel_rfl) ?_ (fun KK hK => ?_); rotate_left; (conv => lhs; whnf; arg 1; whnf)
    go_simp
    with_reducible refine (M1.out _).mono ?_
    rintro e wZ ⟨rfl, hbX⟩
    replace hacc := hacc.trans (hbX.mono hacc.size)
    replace bA := bA.below hbX
    replace bB := bB.below hbX
    replace bC := bC.below hbX
    replace bO := bO.below hbX
    replace bI := bI.below hbX
    clear hbX
    (first | refine hK.out _ _ ?_ (fun hHeldN => ?_) | (go_wp2_with fail; refine hK.out _ _ ?_ (fun hHeldN => ?_)))
    · try dsimp only
      with_reducible exact ⟨bA.at 0 rfl, bA.at 1 rfl, bA.at 2 rfl, bB.at 0 rfl, bB.at 1 rfl, bB.at 2 rfl, bC.at 0 rfl, bC.at 1 rfl, bC.at 2 rfl⟩
    clear hK KK hHeld
    have hHeld := hHeldN
    clear hHeldN
    try simp only [Act.put, List.setIfInBounds_toArray, List.set_cons_zero, List.set_cons_succ]
    refine st (oi := ?_) 34 (by kernel_rfl) ?_ (fun KK hK => ?_); rotate_left; (conv => lhs; whnf; arg 1; whnf)
    go_simp
    with_reducible refine (M3.out _).mono ?_
    rintro e wZ ⟨rfl, hbX⟩
    replace hacc := hacc.trans (hbX.mono hacc.size)
    replace bA := bA.below hbX
    replace bB := bB.below hbX
    replace bC := bC.below hbX
    replace bO := bO.below hbX
    replace bI := bI.below hbX
    clear hbX
    (first | refine hK.out _ _ ?_ (fun hHeldN => ?_) | (go_wp2_with fail; refine hK.out _ _ ?_ (fun hHeldN => ?_)))
    · try dsimp only
      with_reducible exact ⟨bA.at 0 rfl, bA.at 1 rfl, bA.at 2 rfl, bB.at 0 rfl, bB.at 1 rfl, bB.at 2 rfl, bC.at 0 rfl, bC.at 1 rfl, bC.at 2 rfl⟩
    clear hK KK hHeld
    have hHeld := hHeldN
    clear hHeldN
    try simp only [Act.put, List.setIfInBounds_toArray, List.set_cons_zero, List.set_cons_succ]
    refine st (oi := ?_) 38 (by kernel_rfl) ?_ (fun KK hK => ?_); rotate_left; (conv => lhs; whnf; arg 1; whnf)
    go_simp
    with_reducible refine (M4.out _).mono ?_
    rintro e wZ ⟨rfl, hbX⟩
    replace hacc := hacc.trans (hbX.mono hacc.size)
    replace bA := bA.below hbX
    replace bB := bB.below hbX
    replace bC := bC.below hbX
    replace bO := bO.below hbX
    replace bI := bI.below hbX
    clear hbX
    (first | refine hK.out _ _ ?_ (fun hHeldN => ?_) | (go_wp2_with fail; refine hK.out _ _ ?_ (fun hHeldN => ?_)))
    · try dsimp only
      with_reducible exact ⟨bA.at 0 rfl, bA.at 1 rfl, bA.at 2 rfl, bB.at 0 rfl, bB.at 1 rfl, bB.at 2 rfl, bC.at 0 rfl, bC.at 1 rfl, bC.at 2 rfl⟩
    clear hK KK hHeld
    have hHeld := hHeldN
    clear hHeldN
    try simp only [Act.put, List.setIfInBounds_toArray, List.set_cons_zero, List.set_cons_succ]
    refine st (oi := ?_) 39 (by kernel_rfl) ?_ (fun KK hK => ?_); rotate_left; (conv => lhs; whnf; arg 1; whnf)
    go_simp
    with_reducible refine (M5.out _).mono ?_
    rintro e wZ ⟨rfl, hbX⟩
    replace hacc := hacc.trans (hbX.mono hacc.size)
    replace bA := bA.below hbX
    replace bB := bB.below hbX
    replace bC := bC.below hbX
    replace bO := bO.below hbX
    replace bI := bI.below hbX
    clear hbX
    (first | refine hK.out _ _ ?_ (fun hHeldN => ?_) | (go_wp2_with fail; refine hK.out _ _ ?_ (fun hHeldN => ?_)))
    · try dsimp only
      with_reducible exact ⟨bA.at 0 rfl, bA.at 1 rfl, bA.at 2 rfl, bB.at 0 rfl, bB.at 1 rfl, bB.at 2 rfl, bC.at 0 rfl, bC.at 1 rfl, bC.at 2 rfl⟩
    clear hK KK hHeld
    have hHeld := hHeldN
    clear hHeldN
    try simp only [Act.put, List.setIfInBounds_toArray, List.set_cons_zero, List.set_cons_succ]
    refine tk (oi := ?_) (v := ?_) 40 hP (by kernel_rfl) ?_ ?_ ?_ hHeld ?_; rotate_left 2
    (conv => lhs; whnf; arg 1; whnf); kernel_rfl; focus (intro w hSw; (try dsimp only at hSw); go_simp; all_goals with_reducible rfl)
    simp only [Act.put, List.setIfInBounds_toArray, List.set_cons_zero, List.set_cons_succ]
    refine tk (oi := ?_) (v := ?_) 41 hP (by kernel_rfl) ?_ ?_ ?_ hHeld ?_; rotate_left 2
    (conv => lhs; whnf; arg 1; whnf); kernel_rfl; focus (intro w hSw; (try dsimp only at hSw); go_simp; all_goals with_reducible rfl)
    simp only [Act.put, List.setIfInBounds_toArray, List.set_cons_zero, List.set_cons_succ]
    refine tk (oi := ?_) (v := ?_) 42 hP (by kernel_rfl) ?_ ?_ ?_ hHeld ?_; rotate_left 2
    (conv => lhs; whnf; arg 1; whnf); kernel_rfl; focus (intro w hSw; (try dsimp only at hSw); go_simp; all_goals with_reducible rfl)
    simp only [Act.put, List.setIfInBounds_toArray, List.set_cons_zero, List.set_cons_succ]
    refine wpAnyH_done (by kernel_rfl) ?_ _
    refine NoPanic.normal ?_
    all_goals
      go_wp2_with fail
      go_meet
      exact ⟨rfl, bA, bB, bC, bO, bI, hacc⟩
  case rest =>
    obtain ⟨rfl, bA, bB, bC, bO, bI, hacc⟩ := hcut
    go_upto_region 8 with fail
    go_cut [14] (fun s wx => s = .bool true ∧ Rx wx gA [.bool sp, .string np, .string dp] ∧ Rx wx gB [.bool sq, .string nq, .string dq] ∧ Rx wx gC [.bool sc, .string nc, .string dc] ∧ Rx wx gO [.bool so, .string no, .string do'] ∧ Rx wx gI [.bool si, .string ni, .string di] ∧ Below w.heap.size w wx)
    case first =>
      replace hacc := hacc.drew
      replace bA := bA.drew
      replace bB := bB.drew
      replace bC := bC.drew
      replace bO := bO.drew
      replace bI := bI.drew
      refine wp_held (S := (fun w' => w'.cell? ⟨gA, 0, none⟩ = some (.bool sp) ∧ w'.cell? ⟨gA, 1, none⟩ = some (.string np) ∧ w'.cell? ⟨gA, 2, none⟩ = some (.string dp) ∧ w'.cell? ⟨gB, 0, none⟩ = some (.bool sq) ∧ w'.cell? ⟨gB, 1, none⟩ = some (.string nq) ∧ w'.cell? ⟨gB, 2, none⟩ = some (.string dq) ∧ w'.cell? ⟨gC, 0, none⟩ = some (.bool sc) ∧ w'.cell? ⟨gC, 1, none⟩ = some (.string nc) ∧ w'.cell? ⟨gC, 2, none⟩ = some (.string dc) ∧ w'.cell? ⟨gO, 0, none⟩ = some (.bool so) ∧ w'.cell? ⟨gO, 1, none⟩ = some (.string no) ∧ w'.cell? ⟨gO, 2, none⟩ = some (.string do') ∧ w'.cell? ⟨gI, 0, none⟩ = some (.bool si) ∧ w'.cell? ⟨gI, 1, none⟩ = some (.string ni) ∧ w'.cell? ⟨gI, 2, none⟩ = some (.string di))) (by kernel_rfl) (fun hP WD hWD => ?_)
      simp only [← hWD.out] at hacc bA bB bC bO bI
      clear hWD
      refine ⟨?_, fun hHeld => ?_⟩
      · try dsimp only
        with_reducible exact ⟨bA.at 0 rfl, bA.at 1 rfl, bA.at 2 rfl, bB.at 0 rfl, bB.at 1 rfl, bB.at 2 rfl, bC.at 0 rfl, bC.at 1 rfl, bC.at 2 rfl, bO.at 0 rfl, bO.at 1 rfl, bO.at 2 rfl, bI.at 0 rfl, bI.at 1 rfl, bI.at 2 rfl⟩
      refine tk (oi := ?_) (v := ?_) 0 hP (by kernel_rfl) ?_ ?_ ?_ hHeld ?_; rotate_left 2
      (conv => lhs; whnf; arg 1; whnf); kernel_rfl; focus (intro w hSw; (try dsimp only at hSw); go_simp; all_goals with_reducible rfl)
      simp only [Act.put, List.setIfInBounds_toArray, List.set_cons_zero, List.set_cons_succ]
      refine tk (oi := ?_) (v := ?_) 1 hP (by kernel_rfl) ?_ ?_ ?_ hHeld ?_; rotate_left 2
      (conv => lhs; whnf; arg 1; whnf); kernel_rfl; focus (intro w hSw; (try dsimp only at hSw); go_simp; all_goals with_reducible rfl)
      simp only [Act.put, List.setIfInBounds_toArray, List.set_cons_zero, List.set_cons_succ]
      refine tk (oi := ?_) (v := ?_) 2 hP (by kernel_rfl) ?_ ?_ ?_ hHeld ?_; rotate_left 2
      (conv => lhs; whnf; arg 1; whnf); kernel_rfl; focus (intro w hSw; (try dsimp only at hSw); go_simp; all_goals with_reducible rfl)
      simp only [Act.put, List.setIfInBounds_toArray, List.set_cons_zero, List.set_cons_succ]
      refine tk (oi := ?_) (v := ?_) 5 hP (by kernel_rfl) ?_ ?_ ?_ hHeld ?_; rotate_left 2
      (conv => lhs; whnf; arg 1; whnf); kernel_rfl; focus (intro w hSw; (try dsimp only at hSw); go_simp; all_goals with_reducible rfl)
      simp only [Act.put, List.setIfInBounds_toArray, List.set_cons_zero, List.set_cons_succ]
      refine tk (oi := ?_) (v := ?_) 6 hP (by kernel_rfl) ?_ ?_ ?_ hHeld ?_; rotate_left 2
      (conv => lhs; whnf; arg 1; whnf); kernel_rfl; focus (intro w hSw; (try dsimp only at hSw); go_simp; all_goals with_reducible rfl)
      simp only [Act.put, List.setIfInBounds_toArray, List.set_cons_zero, List.set_cons_succ]
      refine tk (oi := ?_) (v := ?_) 8 hP (by kernel_rfl) ?_ ?_ ?_ hHeld ?_; rotate_left 2
      (conv => lhs; whnf; arg 1; whnf); kernel_rfl; focus (intro w hSw; (try dsimp only at hSw); go_simp; all_goals with_reducible rfl)
      simp only [Act.put, List.setIfInBounds_toArray, List.set_cons_zero, List.set_cons_succ]
      refine tk (oi := ?_) (v := ?_) 9 hP (by kernel_rfl) ?_ ?_ ?_ hHeld ?_; rotate_left 2
      (conv => lhs; whnf; arg 1; whnf); kernel_rfl; focus (intro w hSw; (try dsimp only at hSw); go_simp; all_goals with_reducible rfl)
      simp only [Act.put, List.setIfInBounds_toArray, List.set_cons_zero, List.set_cons_succ]
      refine st (oi := ?_) 3 (by kernel_rfl) ?_ (fun KK hK => ?_); rotate_left; (conv => lhs; whnf; arg 1; whnf)
      go_simp
      with_reducible refine (A4.out _).mono ?_
      rintro e wZ ⟨rfl, hbX⟩
      replace hacc := hacc.trans (hbX.mono hacc.size)
      replace bA := bA.below hbX
      replace bB := bB.below hbX
      replace bC := bC.below hbX
      replace bO := bO.below hbX
      replace bI := bI.below hbX
      clear hbX
      (first | refine hK.out _ _ ?_ (fun hHeldN => ?_) | (go_wp2_with fail; refine hK.out _ _ ?_ (fun hHeldN => ?_)))
      · try dsimp only
        with_reducible exact ⟨bA.at 0 rfl, bA.at 1 rfl, bA.at 2 rfl, bB.at 0 rfl, bB.at 1 rfl, bB.at 2 rfl, bC.at 0 rfl, bC.at 1 rfl, bC.at 2 rfl, bO.at 0 rfl, bO.at 1 rfl, bO.at 2 rfl, bI.at 0 rfl, bI.at 1 rfl, bI.at 2 rfl⟩
      clear hK KK hHeld
      have hHeld := hHeldN
      clear hHeldN
      try simp only [Act.put, List.setIfInBounds_toArray, List.set_cons_zero, List.set_cons_succ]
      refine st (oi := ?_) 4 (by kernel_rfl) ?_ (fun KK hK => ?_); rotate_left; (conv => lhs; whnf; arg 1; whnf)
      go_simp
      with_reducible refine (M6.out _).mono ?_
      rintro e wZ ⟨rfl, hbX⟩
      replace hacc := hacc.trans (hbX.mono hacc.size)
      replace bA := bA.below hbX
      replace bB := bB.below hbX
      replace bC := bC.below hbX
      replace bO := bO.below hbX
      replace bI := bI.below hbX
      clear hbX
      (first | refine hK.out _ _ ?_ (fun hHeldN => ?_) | (go_wp2_with fail; refine hK.out _ _ ?_ (fun hHeldN => ?_)))
      · try dsimp only
        with_reducible exact ⟨bA.at 0 rfl, bA.at 1 rfl, bA.at 2 rfl, bB.at 0 rfl, bB.at 1 rfl, bB.at 2 rfl, bC.at 0 rfl, bC.at 1 rfl, bC.at 2 rfl, bO.at 0 rfl, bO.at 1 rfl, bO.at 2 rfl, bI.at 0 rfl, bI.at 1 rfl, bI.at 2 rfl⟩
      clear hK KK hHeld
      have hHeld := hHeldN
      clear hHeldN
      try simp only [Act.put, List.setIfInBounds_toArray, List.set_cons_zero, List.set_cons_succ]
      refine st (oi := ?_) 7 (by kernel_rfl) ?_ (fun KK hK => ?_); rotate_left; (conv => lhs; whnf; arg 1; whnf)
      go_simp
      with_reducible refine (M1.out _).mono ?_
      rintro e wZ ⟨rfl, hbX⟩
      replace hacc := hacc.trans (hbX.mono hacc.size)
      replace bA := bA.below hbX
      replace bB := bB.below hbX
      replace bC := bC.below hbX
      replace bO := bO.below hbX
      replace bI := bI.below hbX
      clear hbX
      (first | refine hK.out _ _ ?_ (fun hHeldN => ?_) | (go_wp2_with fail; refine hK.out _ _ ?_ (fun hHeldN => ?_)))
      · try dsimp only
        with_reducible exact ⟨bA.at 0 rfl, bA.at 1 rfl, bA.at 2 rfl, bB.at 0 rfl, bB.at 1 rfl, bB.at 2 rfl, bC.at 0 rfl, bC.at 1 rfl, bC.at 2 rfl, bO.at 0 rfl, bO.at 1 rfl, bO.at 2 rfl, bI.at 0 rfl, bI.at 1 rfl, bI.at 2 rfl⟩
      clear hK KK hHeld
      have hHeld := hHeldN
      clear hHeldN
      try simp only [Act.put, List.setIfInBounds_toArray, List.set_cons_zero, List.set_cons_succ]
      refine st (oi := ?_) 10 (by kernel_rfl) ?_ (fun KK hK => ?_); rotate_left; (conv => lhs; whnf; arg 1; whnf)
      go_simp
      with_reducible refine (M7.out _).mono ?_
      rintro e wZ ⟨rfl, hbX⟩
      replace hacc := hacc.trans (hbX.mono hacc.size)
      replace bA := bA.below hbX
      replace bB := bB.below hbX
      replace bC := bC.below hbX
      replace bO := bO.below hbX
      replace bI := bI.below hbX
      clear hbX
      (first | refine hK.out _ _ ?_ (fun hHeldN => ?_) | (go_wp2_with fail; refine hK.out _ _ ?_ (fun hHeldN => ?_)))
      · try dsimp only
        with_reducible exact ⟨bA.at 0 rfl, bA.at 1 rfl, bA.at 2 rfl, bB.at 0 rfl, bB.at 1 rfl, bB.at 2 rfl, bC.at 0 rfl, bC.at 1 rfl, bC.at 2 rfl, bO.at 0 rfl, bO.at 1 rfl, bO.at 2 rfl, bI.at 0 rfl, bI.at 1 rfl, bI.at 2 rfl⟩
      clear hK KK hHeld
      have hHeld := hHeldN
      clear hHeldN
      try simp only [Act.put, List.setIfInBounds_toArray, List.set_cons_zero, List.set_cons_succ]
      refine st (oi := ?_) 11 (by kernel_rfl) ?_ (fun KK hK => ?_); rotate_left; (conv => lhs; whnf; arg 1; whnf)
      go_simp
      with_reducible refine (A6.out _).mono ?_
      rintro e wZ ⟨rfl, hbX⟩
      replace hacc := hacc.trans (hbX.mono hacc.size)
      replace bA := bA.below hbX
      replace bB := bB.below hbX
      replace bC := bC.below hbX
      replace bO := bO.below hbX
      replace bI := bI.below hbX
      clear hbX
      (first | refine hK.out _ _ ?_ (fun hHeldN => ?_) | (go_wp2_with fail; refine hK.out _ _ ?_ (fun hHeldN => ?_)))
      · try dsimp only
        with_reducible exact ⟨bA.at 0 rfl, bA.at 1 rfl, bA.at 2 rfl, bB.at 0 rfl, bB.at 1 rfl, bB.at 2 rfl, bC.at 0 rfl, bC.at 1 rfl, bC.at 2 rfl, bO.at 0 rfl, bO.at 1 rfl, bO.at 2 rfl, bI.at 0 rfl, bI.at 1 rfl, bI.at 2 rfl⟩
      clear hK KK hHeld
      have hHeld := hHeldN
      clear hHeldN
      try simp only [Act.put, List.setIfInBounds_toArray, List.set_cons_zero, List.set_cons_succ]
      refine tk (oi := ?_) (v := ?_) 12 hP (by kernel_rfl) ?_ ?_ ?_ hHeld ?_; rotate_left 2
      (conv => lhs; whnf; arg 1; whnf); kernel_rfl; focus (intro w hSw; (try dsimp only at hSw); go_simp; all_goals with_reducible rfl)
      simp only [Act.put, List.setIfInBounds_toArray, List.set_cons_zero, List.set_cons_succ]
      refine tk (oi := ?_) (v := ?_) 13 hP (by kernel_rfl) ?_ ?_ ?_ hHeld ?_; rotate_left 2
      (conv => lhs; whnf; arg 1; whnf); kernel_rfl; focus (intro w hSw; (try dsimp only at hSw); go_simp; all_goals with_reducible rfl)
      simp only [Act.put, List.setIfInBounds_toArray, List.set_cons_zero, List.set_cons_succ]
      refine tk (oi := ?_) (v := ?_) 14 hP (by kernel_rfl) ?_ ?_ ?_ hHeld ?_; rotate_left 2
      (conv => lhs; whnf; arg 1; whnf); kernel_rfl; focus (intro w hSw; (try dsimp only at hSw); go_simp; all_goals with_reducible rfl)
      simp only [Act.put, List.setIfInBounds_toArray, List.set_cons_zero, List.set_cons_succ]
      refine tk (oi := ?_) (v := ?_) 15 hP (by kernel_rfl) ?_ ?_ ?_ hHeld ?_; rotate_left 2
      (conv => lhs; whnf; arg 1; whnf); kernel_rfl; focus (intro w hSw; (try dsimp only at hSw); go_simp; all_goals with_reducible rfl)
      simp only [Act.put, List.setIfInBounds_toArray, List.set_cons_zero, List.set_cons_succ]
      refine tk (oi := ?_) (v := ?_) 17 hP (by kernel_rfl) ?_ ?_ ?_ hHeld ?_; rotate_left 2
      (conv => lhs; whnf; arg 1; whnf); kernel_rfl; focus (intro w hSw; (try dsimp only at hSw); go_simp; all_goals with_reducible rfl)
      simp only [Act.put, List.setIfInBounds_toArray, List.set_cons_zero, List.set_cons_succ]
      refine st (oi := ?_) 16 (by kernel_rfl) ?_ (fun KK hK => ?_); rotate_left; (conv => lhs; whnf; arg 1; whnf)
      go_simp
      with_reducible refine (A7.out _).mono ?_
      rintro e wZ ⟨rfl, hbX⟩
      replace hacc := hacc.trans (hbX.mono hacc.size)
      replace bA := bA.below hbX
      replace bB := bB.below hbX
      replace bC := bC.below hbX
      replace bO := bO.below hbX
      replace bI := bI.below hbX
      clear hbX
      (first | refine hK.out _ _ ?_ (fun hHeldN => ?_) | (go_wp2_with fail; refine hK.out _ _ ?_ (fun hHeldN => ?_)))
      · try dsimp only
        with_reducible exact ⟨bA.at 0 rfl, bA.at 1 rfl, bA.at 2 rfl, bB.at 0 rfl, bB.at 1 rfl, bB.at 2 rfl, bC.at 0 rfl, bC.at 1 rfl, bC.at 2 rfl, bO.at 0 rfl, bO.at 1 rfl, bO.at 2 rfl, bI.at 0 rfl, bI.at 1 rfl, bI.at 2 rfl⟩
      clear hK KK hHeld
      have hHeld := hHeldN
      clear hHeldN
      try simp only [Act.put, List.setIfInBounds_toArray, List.set_cons_zero, List.set_cons_succ]
      refine tk (oi := ?_) (v := ?_) 18 hP (by kernel_rfl) ?_ ?_ ?_ hHeld ?_; rotate_left 2
      (conv => lhs; whnf; arg 1; whnf); kernel_rfl; focus (intro w hSw; (try dsimp only at hSw); go_simp; all_goals with_reducible rfl)
      simp only [Act.put, List.setIfInBounds_toArray, List.set_cons_zero, List.set_cons_succ]
      refine tk (oi := ?_) (v := ?_) 19 hP (by kernel_rfl) ?_ ?_ ?_ hHeld ?_; rotate_left 2
      (conv => lhs; whnf; arg 1; whnf); kernel_rfl; focus (intro w hSw; (try dsimp only at hSw); go_simp; all_goals with_reducible rfl)
      simp only [Act.put, List.setIfInBounds_toArray, List.set_cons_zero, List.set_cons_succ]
      refine tk (oi := ?_) (v := ?_) 20 hP (by kernel_rfl) ?_ ?_ ?_ hHeld ?_; rotate_left 2
      (conv => lhs; whnf; arg 1; whnf); kernel_rfl; focus (intro w hSw; (try dsimp only at hSw); go_simp; all_goals with_reducible rfl)
      simp only [Act.put, List.setIfInBounds_toArray, List.set_cons_zero, List.set_cons_succ]
      refine tk (oi := ?_) (v := ?_) 21 hP (by kernel_rfl) ?_ ?_ ?_ hHeld ?_; rotate_left 2
      (conv => lhs; whnf; arg 1; whnf); kernel_rfl; focus (intro w hSw; (try dsimp only at hSw); go_simp; all_goals with_reducible rfl)
      simp only [Act.put, List.setIfInBounds_toArray, List.set_cons_zero, List.set_cons_succ]
      refine tk (oi := ?_) (v := ?_) 22 hP (by kernel_rfl) ?_ ?_ ?_ hHeld ?_; rotate_left 2
      (conv => lhs; whnf; arg 1; whnf); kernel_rfl; focus (intro w hSw; (try dsimp only at hSw); go_simp; all_goals with_reducible rfl)
      simp only [Act.put, List.setIfInBounds_toArray, List.set_cons_zero, List.set_cons_succ]
      refine tk (oi := ?_) (v := ?_) 24 hP (by kernel_rfl) ?_ ?_ ?_ hHeld ?_; rotate_left 2
      (conv => lhs; whnf; arg 1; whnf); kernel_rfl; focus (intro w hSw; (try dsimp only at hSw); go_simp; all_goals with_reducible rfl)
      simp only [Act.put, List.setIfInBounds_toArray, List.set_cons_zero, List.set_cons_succ]
      refine st (oi := ?_) 23 (by kernel_rfl) ?_ (fun KK hK => ?_); rotate_left; (conv => lhs; whnf; arg 1; whnf)
      go_simp
      with_reducible refine (M8.out _).mono ?_
      rintro e wZ ⟨rfl, hbX⟩
      replace hacc := hacc.trans (hbX.mono hacc.size)
      replace bA := bA.below hbX
      replace bB := bB.below hbX
      replace bC := bC.below hbX
      replace bO := bO.below hbX
      replace bI := bI.below hbX
      clear hbX
      (first | refine hK.out _ _ ?_ (fun hHeldN => ?_) | (go_wp2_with fail; refine hK.out _ _ ?_ (fun hHeldN => ?_)))
      · try dsimp only
        with_reducible exact ⟨bA.at 0 rfl, bA.at 1 rfl, bA.at 2 rfl, bB.at 0 rfl, bB.at 1 rfl, bB.at 2 rfl, bC.at 0 rfl, bC.at 1 rfl, bC.at 2 rfl, bO.at 0 rfl, bO.at 1 rfl, bO.at 2 rfl, bI.at 0 rfl, bI.at 1 rfl, bI.at 2 rfl⟩
      clear hK KK hHeld
      have hHeld := hHeldN
      clear hHeldN
      try simp only [Act.put, List.setIfInBounds_toArray, List.set_cons_zero, List.set_cons_succ]
      refine tk (oi := ?_) (v := ?_) 25 hP (by kernel_rfl) ?_ ?_ ?_ hHeld ?_; rotate_left 2
      (conv => lhs; whnf; arg 1; whnf); kernel_rfl; focus (intro w hSw; (try dsimp only at hSw); go_simp; all_goals with_reducible rfl)
      simp only [Act.put, List.setIfInBounds_toArray, List.set_cons_zero, List.set_cons_succ]
      refine tk (oi := ?_) (v := ?_) 26 hP (by kernel_rfl) ?_ ?_ ?_ hHeld ?_; rotate_left 2
      (conv => lhs; whnf; arg 1; whnf); kernel_rfl; focus (intro w hSw; (try dsimp only at hSw); go_simp; all_goals with_reducible rfl)
      simp only [Act.put, List.setIfInBounds_toArray, List.set_cons_zero, List.set_cons_succ]
      refine tk (oi := ?_) (v := ?_) 27 hP (by kernel_rfl) ?_ ?_ ?_ hHeld ?_; rotate_left 2
      (conv => lhs; whnf; arg 1; whnf); kernel_rfl; focus (intro w hSw; (try dsimp only at hSw); go_simp; all_goals with_reducible rfl)
      simp only [Act.put, List.setIfInBounds_toArray, List.set_cons_zero, List.set_cons_succ]
      refine tk (oi := ?_) (v := ?_) 28 hP (by kernel_rfl) ?_ ?_ ?_ hHeld ?_; rotate_left 2
      (conv => lhs; whnf; arg 1; whnf); kernel_rfl; focus (intro w hSw; (try dsimp only at hSw); go_simp; all_goals with_reducible rfl)
      simp only [Act.put, List.setIfInBounds_toArray, List.set_cons_zero, List.set_cons_succ]
      refine tk (oi := ?_) (v := ?_) 29 hP (by kernel_rfl) ?_ ?_ ?_ hHeld ?_; rotate_left 2
      (conv => lhs; whnf; arg 1; whnf); kernel_rfl; focus (intro w hSw; (try dsimp only at hSw); go_simp; all_goals with_reducible rfl)
      simp only [Act.put, List.setIfInBounds_toArray, List.set_cons_zero, List.set_cons_succ]
      refine tk (oi := ?_) (v := ?_) 32 hP (by kernel_rfl) ?_ ?_ ?_ hHeld ?_; rotate_left 2
      (conv => lhs; whnf; arg 1; whnf); kernel_rfl; focus (intro w hSw; (try dsimp only at hSw); go_simp; all_goals with_reducible rfl)
      simp only [Act.put, List.setIfInBounds_toArray, List.set_cons_zero, List.set_cons_succ]
      refine st (oi := ?_) 30 (by kernel_rfl) ?_ (fun KK hK => ?_); rotate_left; (conv => lhs; whnf; arg 1; whnf)
      go_simp
      with_reducible refine (N1.out _).mono ?_
      rintro e wZ ⟨rfl, hbX⟩
      replace hacc := hacc.trans (hbX.mono hacc.size)
      replace bA := bA.below hbX
      replace bB := bB.below hbX
      replace bC := bC.below hbX
      replace bO := bO.below hbX
      replace bI := bI.below hbX
      clear hbX
      (first | refine hK.out _ _ ?_ (fun hHeldN => ?_) | (go_wp2_with fail; refine hK.out _ _ ?_ (fun hHeldN => ?_)))
      · try dsimp only
        with_reducible exact ⟨bA.at 0 rfl, bA.at 1 rfl, bA.at 2 rfl, bB.at 0 rfl, bB.at 1 rfl, bB.at 2 rfl, bC.at 0 rfl, bC.at 1 rfl, bC.at 2 rfl, bO.at 0 rfl, bO.at 1 rfl, bO.at 2 rfl, bI.at 0 rfl, bI.at 1 rfl, bI.at 2 rfl⟩
      clear hK KK hHeld
      have hHeld := hHeldN
      clear hHeldN
      try simp only [Act.put, List.setIfInBounds_toArray, List.set_cons_zero, List.set_cons_succ]
      refine st (oi := ?_) 31 (by kernel_rfl) ?_ (fun KK hK => ?_); rotate_left; (conv => lhs; whnf; arg 1; whnf)
      go_simp
      with_reducible refine (A8.out _).mono ?_
      rintro e wZ ⟨rfl, hbX⟩
      replace hacc := hacc.trans (hbX.mono hacc.size)
      replace bA := bA.below hbX
      replace bB := bB.below hbX
      replace bC := bC.below hbX
      replace bO := bO.below hbX
      replace bI := bI.below hbX
      clear hbX
      (first | refine hK.out _ _ ?_ (fun hHeldN => ?_) | (go_wp2_with fail; refine hK.out _ _ ?_ (fun hHeldN => ?_)))
      · try dsimp only
        with_reducible exact ⟨bA.at 0 rfl, bA.at 1 rfl, bA.at 2 rfl, bB.at 0 rfl, bB.at 1 rfl, bB.at 2 rfl, bC.at 0 rfl, bC.at 1 rfl, bC.at 2 rfl, bO.at 0 rfl, bO.at 1 rfl, bO.at 2 rfl, bI.at 0 rfl, bI.at 1 rfl, bI.at 2 rfl⟩
      clear hK KK hHeld
      have hHeld := hHeldN
      clear hHeldN
      try simp only [Act.put, List.setIfInBounds_toArray, List.set_cons_zero, List.set_cons_succ]
      refine tk (oi := ?_) (v := ?_) 33 hP (by kernel_rfl) ?_ ?_ ?_ hHeld ?_; rotate_left 2
      (conv => lhs; whnf; arg 1; whnf); kernel_rfl; focus (intro w hSw; (try dsimp only at hSw); go_simp; all_goals with_reducible rfl)
      simp only [Act.put, List.setIfInBounds_toArray, List.set_cons_zero, List.set_cons_succ]
      refine tk (oi := ?_) (v := ?_) 34 hP (by kernel_rfl) ?_ ?_ ?_ hHeld ?_; rotate_left 2
      (conv => lhs; whnf; arg 1; whnf); kernel_rfl; focus (intro w hSw; (try dsimp only at hSw); go_simp; all_goals with_reducible rfl)
      simp only [Act.put, List.setIfInBounds_toArray, List.set_cons_zero, List.set_cons_succ]
      refine tk (oi := ?_) (v := ?_) 35 hP (by kernel_rfl) ?_ ?_ ?_ hHeld ?_; rotate_left 2
      (conv => lhs; whnf; arg 1; whnf); kernel_rfl; focus (intro w hSw; (try dsimp only at hSw); go_simp; all_goals with_reducible rfl)
      simp only [Act.put, List.setIfInBounds_toArray, List.set_cons_zero, List.set_cons_succ]
      refine wpAnyH_done (by kernel_rfl) ?_ _
      refine NoPanic.normal ?_
      all_goals
        go_wp2_with fail
        go_meet
        exact ⟨rfl, bA, bB, bC, bO, bI, hacc⟩
    case rest =>
      obtain ⟨rfl, bA, bB, bC, bO, bI, hacc⟩ := hcut
      go_upto_region 9 with fail
      have cgA0 := bA.at 0 rfl
      have fgA0 := bA.fr 0 rfl
      have cgA1 := bA.at 1 rfl
      have fgA1 := bA.fr 1 rfl
      have cgA2 := bA.at 2 rfl
      have fgA2 := bA.fr 2 rfl
      have cgB0 := bB.at 0 rfl
      have fgB0 := bB.fr 0 rfl
      have cgB1 := bB.at 1 rfl
      have fgB1 := bB.fr 1 rfl
      have cgB2 := bB.at 2 rfl
      have fgB2 := bB.fr 2 rfl
      go_wp2_with fail
      clear cgA0 fgA0 cgA1 fgA1 cgA2 fgA2 cgB0 fgB0 cgB1 fgB1 cgB2 fgB2
      with_reducible refine (QT.out _).mono ?_
      rintro e wZ ⟨rfl, hbX⟩
      replace hacc := hacc.trans (hbX.mono hacc.size)
      replace bA := bA.below hbX
      replace bB := bB.below hbX
      replace bC := bC.below hbX
      replace bO := bO.below hbX
      replace bI := bI.below hbX
      clear hbX
      have kgQ := hacc.size
      replace hacc := hacc.alloc hacc.size (.cells #[.bool qn, .string qa, .string qd] 27)
      have dgA := bA.lt
      have dgB := bB.lt
      have dgC := bC.lt
      have dgO := bO.lt
      have dgI := bI.lt
      replace bA := bA.alloc (.cells #[.bool qn, .string qa, .string qd] 27)
      replace bB := bB.alloc (.cells #[.bool qn, .string qa, .string qd] 27)
      replace bC := bC.alloc (.cells #[.bool qn, .string qa, .string qd] 27)
      replace bO := bO.alloc (.cells #[.bool qn, .string qa, .string qd] 27)
      replace bI := bI.alloc (.cells #[.bool qn, .string qa, .string qd] 27)
      have bQ : Rx (wZ.alloc (.cells #[.bool qn, .string qa, .string qd] 27)) wZ.heap.size [.bool qn, .string qa, .string qd] := Rx.new wZ _ rfl [.bool qn, .string qa, .string qd] 27
      go_upto_region 10 with fail
      generalize wZ.heap.size = gQ at *
      generalize wZ.alloc (.cells #[.bool qn, .string qa, .string qd] 27) = WgQ at *
      have ngAgQ : gA ≠ gQ := by omega
      have ngBgQ : gB ≠ gQ := by omega
      have ngCgQ : gC ≠ gQ := by omega
      have ngOgQ : gO ≠ gQ := by omega
      have ngIgQ : gI ≠ gQ := by omega
      clear dgA dgB dgC dgO dgI
      go_cut [17] (fun s wx => s = .bool true ∧ Rx wx gA [.bool sp, .string np, .string dp] ∧ Rx wx gB [.bool sq, .string nq, .string dq] ∧ Rx wx gC [.bool sc, .string nc, .string dc] ∧ Rx wx gO [.bool so, .string no, .string do'] ∧ Rx wx gI [.bool si, .string ni, .string di] ∧ Below w.heap.size w wx)
      case first =>
        clear O0 O1 A1 A2 M1 M2 A3 A4 A5 M3 M4 M5 M6 M7 A6 A7 M8 N1 A8 S1 N2 A9 SU QT
        by_cases hz : q = o
        · obtain ⟨e1, e2, e3⟩ := HE.out.1 hz
          have e4 := HB.out.1 hz
          clear HE HB MQ hz
          subst e1 e2 e3 e4
          replace hacc := hacc.drew
          replace bA := bA.drew
          replace bB := bB.drew
          replace bC := bC.drew
          replace bO := bO.drew
          replace bI := bI.drew
          replace bQ := bQ.drew
          refine wp_held (S := (fun w' => w'.cell? ⟨gA, 0, none⟩ = some (.bool sp) ∧ w'.cell? ⟨gA, 1, none⟩ = some (.string np) ∧ w'.cell? ⟨gA, 2, none⟩ = some (.string dp) ∧ w'.cell? ⟨gB, 0, none⟩ = some (.bool sq) ∧ w'.cell? ⟨gB, 1, none⟩ = some (.string nq) ∧ w'.cell? ⟨gB, 2, none⟩ = some (.string dq) ∧ w'.cell? ⟨gO, 0, none⟩ = some (.bool sq) ∧ w'.cell? ⟨gO, 1, none⟩ = some (.string nq) ∧ w'.cell? ⟨gO, 2, none⟩ = some (.string dq) ∧ w'.cell? ⟨gQ, 0, none⟩ = some (.bool qn) ∧ w'.cell? ⟨gQ, 1, none⟩ = some (.string qa) ∧ w'.cell? ⟨gQ, 2, none⟩ = some (.string qd))) (by kernel_rfl) (fun hP WD hWD => ?_)
          simp only [← hWD.out] at hacc bA bB bC bO bI bQ
          clear hWD
          refine ⟨?_, fun hHeld => ?_⟩
          · try dsimp only
            with_reducible exact ⟨bA.at 0 rfl, bA.at 1 rfl, bA.at 2 rfl, bB.at 0 rfl, bB.at 1 rfl, bB.at 2 rfl, bO.at 0 rfl, bO.at 1 rfl, bO.at 2 rfl, bQ.at 0 rfl, bQ.at 1 rfl, bQ.at 2 rfl⟩
          refine tk (oi := ?_) (v := ?_) 0 hP (by kernel_rfl) ?_ ?_ ?_ hHeld ?_; rotate_left 2
          (conv => lhs; whnf; arg 1; whnf); kernel_rfl; focus (intro w hSw; (try dsimp only at hSw); go_simp; all_goals with_reducible rfl)
          simp only [Act.put, List.setIfInBounds_toArray, List.set_cons_zero, List.set_cons_succ]
          refine tk (oi := ?_) (v := ?_) 1 hP (by kernel_rfl) ?_ ?_ ?_ hHeld ?_; rotate_left 2
          (conv => lhs; whnf; arg 1; whnf); kernel_rfl; focus (intro w hSw; (try dsimp only at hSw); go_simp; all_goals with_reducible rfl)
          simp only [Act.put, List.setIfInBounds_toArray, List.set_cons_zero, List.set_cons_succ]
          refine tk (oi := ?_) (v := ?_) 2 hP (by kernel_rfl) ?_ ?_ ?_ hHeld ?_; rotate_left 2
          (conv => lhs; whnf; arg 1; whnf); kernel_rfl; focus (intro w hSw; (try dsimp only at hSw); go_simp; all_goals with_reducible rfl)
          simp only [Act.put, List.setIfInBounds_toArray, List.set_cons_zero, List.set_cons_succ]
          refine tk (oi := ?_) (v := ?_) 3 hP (by kernel_rfl) ?_ ?_ ?_ hHeld ?_; rotate_left 2
          (conv => lhs; whnf; arg 1; whnf); kernel_rfl; focus (intro w hSw; (try dsimp only at hSw); go_simp; all_goals with_reducible rfl)
          simp only [Act.put, List.setIfInBounds_toArray, List.set_cons_zero, List.set_cons_succ]
          refine tk (oi := ?_) (v := ?_) 4 hP (by kernel_rfl) ?_ ?_ ?_ hHeld ?_; rotate_left 2
          (conv => lhs; whnf; arg 1; whnf); kernel_rfl; focus (intro w hSw; (try dsimp only at hSw); go_simp; all_goals with_reducible rfl)
          simp only [Act.put, List.setIfInBounds_toArray, List.set_cons_zero, List.set_cons_succ]
          refine tk (oi := ?_) (v := ?_) 5 hP (by kernel_rfl) ?_ ?_ ?_ hHeld ?_; rotate_left 2
          (conv => lhs; whnf; arg 1; whnf); kernel_rfl; focus (intro w hSw; (try dsimp only at hSw); go_simp; all_goals with_reducible rfl)
          simp only [Act.put, List.setIfInBounds_toArray, List.set_cons_zero, List.set_cons_succ]
          refine tk (oi := ?_) (v := ?_) 6 hP (by kernel_rfl) ?_ ?_ ?_ hHeld ?_; rotate_left 2
          (conv => lhs; whnf; arg 1; whnf); kernel_rfl; focus (intro w hSw; (try dsimp only at hSw); go_simp; all_goals with_reducible rfl)
          simp only [Act.put, List.setIfInBounds_toArray, List.set_cons_zero, List.set_cons_succ]
          refine tk (oi := ?_) (v := ?_) 7 hP (by kernel_rfl) ?_ ?_ ?_ hHeld ?_; rotate_left 2
          (conv => lhs; whnf; arg 1; whnf); kernel_rfl; focus (intro w hSw; (try dsimp only at hSw); go_simp; all_goals with_reducible rfl)
          simp only [Act.put, List.setIfInBounds_toArray, List.set_cons_zero, List.set_cons_succ]
          refine tk (oi := ?_) (v := ?_) 8 hP (by kernel_rfl) ?_ ?_ ?_ hHeld ?_; rotate_left 2
          (conv => lhs; whnf; arg 1; whnf); kernel_rfl; focus (intro w hSw; (try dsimp only at hSw); go_simp; all_goals with_reducible rfl)
          simp only [Act.put, List.setIfInBounds_toArray, List.set_cons_zero, List.set_cons_succ]
          refine sk (oi := ?_) 9 hP (by kernel_rfl) ?_ ?_ hHeld ?_; rotate_left; (conv => lhs; whnf; arg 1; whnf); kernel_rfl
          simp only [Act.put, List.setIfInBounds_toArray, List.set_cons_zero, List.set_cons_succ]
          refine sk (oi := ?_) 10 hP (by kernel_rfl) ?_ ?_ hHeld ?_; rotate_left; (conv => lhs; whnf; arg 1; whnf); kernel_rfl
          simp only [Act.put, List.setIfInBounds_toArray, List.set_cons_zero, List.set_cons_succ]
          refine sk (oi := ?_) 11 hP (by kernel_rfl) ?_ ?_ hHeld ?_; rotate_left; (conv => lhs; whnf; arg 1; whnf); kernel_rfl
          simp only [Act.put, List.setIfInBounds_toArray, List.set_cons_zero, List.set_cons_succ]
          refine sk (oi := ?_) 12 hP (by kernel_rfl) ?_ ?_ hHeld ?_; rotate_left; (conv => lhs; whnf; arg 1; whnf); kernel_rfl
          simp only [Act.put, List.setIfInBounds_toArray, List.set_cons_zero, List.set_cons_succ]
          refine sk (oi := ?_) 13 hP (by kernel_rfl) ?_ ?_ hHeld ?_; rotate_left; (conv => lhs; whnf; arg 1; whnf); kernel_rfl
          simp only [Act.put, List.setIfInBounds_toArray, List.set_cons_zero, List.set_cons_succ]
          refine tk (oi := ?_) (v := ?_) 14 hP (by kernel_rfl) ?_ ?_ ?_ hHeld ?_; rotate_left 2
          (conv => lhs; whnf; arg 1; whnf); kernel_rfl; focus (intro w hSw; (try dsimp only at hSw); go_simp; all_goals with_reducible rfl)
          simp only [Act.put, List.setIfInBounds_toArray, List.set_cons_zero, List.set_cons_succ]
          refine tk (oi := ?_) (v := ?_) 15 hP (by kernel_rfl) ?_ ?_ ?_ hHeld ?_; rotate_left 2
          (conv => lhs; whnf; arg 1; whnf); kernel_rfl; focus (intro w hSw; (try dsimp only at hSw); go_simp; all_goals with_reducible rfl)
          simp only [Act.put, List.setIfInBounds_toArray, List.set_cons_zero, List.set_cons_succ]
          refine tk (oi := ?_) (v := ?_) 16 hP (by kernel_rfl) ?_ ?_ ?_ hHeld ?_; rotate_left 2
          (conv => lhs; whnf; arg 1; whnf); kernel_rfl; focus (intro w hSw; (try dsimp only at hSw); go_simp; all_goals with_reducible rfl)
          simp only [Act.put, List.setIfInBounds_toArray, List.set_cons_zero, List.set_cons_succ]
          refine wpAnyH_done (by kernel_rfl) ?_ _
          refine NoPanic.normal ?_
          all_goals
            go_wp2_with fail
            go_meet
            exact ⟨rfl, bA, bB, bC, bO, bI, hacc⟩
        · have e4 := HB.out.2 hz
          subst e4
          by_cases h1 : sq = so
          · subst h1
            by_cases h2 : nq = no
            · subst h2
              by_cases h3 : dq = do'
              · exact absurd (HE.out.2 ⟨rfl, rfl, h3⟩) hz
              · have h4 := str_ne h3
                have h5 := str_neB h3
                clear h3 HE HB
                replace hacc := hacc.drew
                replace bA := bA.drew
                replace bB := bB.drew
                replace bC := bC.drew
                replace bO := bO.drew
                replace bI := bI.drew
                replace bQ := bQ.drew
                refine wp_held (S := (fun w' => w'.cell? ⟨gA, 0, none⟩ = some (.bool sp) ∧ w'.cell? ⟨gA, 1, none⟩ = some (.string np) ∧ w'.cell? ⟨gA, 2, none⟩ = some (.string dp) ∧ w'.cell? ⟨gB, 0, none⟩ = some (.bool sq) ∧ w'.cell? ⟨gB, 1, none⟩ = some (.string nq) ∧ w'.cell? ⟨gB, 2, none⟩ = some (.string dq) ∧ w'.cell? ⟨gO, 0, none⟩ = some (.bool sq) ∧ w'.cell? ⟨gO, 1, none⟩ = some (.string nq) ∧ w'.cell? ⟨gO, 2, none⟩ = some (.string do') ∧ w'.cell? ⟨gQ, 0, none⟩ = some (.bool qn) ∧ w'.cell? ⟨gQ, 1, none⟩ = some (.string qa) ∧ w'.cell? ⟨gQ, 2, none⟩ = some (.string qd))) (by kernel_rfl) (fun hP WD hWD => ?_)
                simp only [← hWD.out] at hacc bA bB bC bO bI bQ
                clear hWD
                refine ⟨?_, fun hHeld => ?_⟩
                · try dsimp only
                  with_reducible exact ⟨bA.at 0 rfl, bA.at 1 rfl, bA.at 2 rfl, bB.at 0 rfl, bB.at 1 rfl, bB.at 2 rfl, bO.at 0 rfl, bO.at 1 rfl, bO.at 2 rfl, bQ.at 0 rfl, bQ.at 1 rfl, bQ.at 2 rfl⟩
                refine tk (oi := ?_) (v := ?_) 0 hP (by kernel_rfl) ?_ ?_ ?_ hHeld ?_; rotate_left 2
                (conv => lhs; whnf; arg 1; whnf); kernel_rfl; focus (intro w hSw; (try dsimp only at hSw); go_simp; all_goals with_reducible rfl)
                simp only [Act.put, List.setIfInBounds_toArray, List.set_cons_zero, List.set_cons_succ]
                refine tk (oi := ?_) (v := ?_) 1 hP (by kernel_rfl) ?_ ?_ ?_ hHeld ?_; rotate_left 2
                (conv => lhs; whnf; arg 1; whnf); kernel_rfl; focus (intro w hSw; (try dsimp only at hSw); go_simp; all_goals with_reducible rfl)
                simp only [Act.put, List.setIfInBounds_toArray, List.set_cons_zero, List.set_cons_succ]
                refine tk (oi := ?_) (v := ?_) 2 hP (by kernel_rfl) ?_ ?_ ?_ hHeld ?_; rotate_left 2
                (conv => lhs; whnf; arg 1; whnf); kernel_rfl; focus (intro w hSw; (try dsimp only at hSw); go_simp; all_goals with_reducible rfl)
                simp only [Act.put, List.setIfInBounds_toArray, List.set_cons_zero, List.set_cons_succ]
                refine tk (oi := ?_) (v := ?_) 3 hP (by kernel_rfl) ?_ ?_ ?_ hHeld ?_; rotate_left 2
                (conv => lhs; whnf; arg 1; whnf); kernel_rfl; focus (intro w hSw; (try dsimp only at hSw); go_simp; all_goals with_reducible rfl)
                simp only [Act.put, List.setIfInBounds_toArray, List.set_cons_zero, List.set_cons_succ]
                refine tk (oi := ?_) (v := ?_) 4 hP (by kernel_rfl) ?_ ?_ ?_ hHeld ?_; rotate_left 2
                (conv => lhs; whnf; arg 1; whnf); kernel_rfl; focus (intro w hSw; (try dsimp only at hSw); go_simp; all_goals with_reducible rfl)
                simp only [Act.put, List.setIfInBounds_toArray, List.set_cons_zero, List.set_cons_succ]
                refine tk (oi := ?_) (v := ?_) 5 hP (by kernel_rfl) ?_ ?_ ?_ hHeld ?_; rotate_left 2
                (conv => lhs; whnf; arg 1; whnf); kernel_rfl; focus (intro w hSw; (try dsimp only at hSw); go_simp; all_goals with_reducible rfl)
                simp only [Act.put, List.setIfInBounds_toArray, List.set_cons_zero, List.set_cons_succ]
                refine tk (oi := ?_) (v := ?_) 6 hP (by kernel_rfl) ?_ ?_ ?_ hHeld ?_; rotate_left 2
                (conv => lhs; whnf; arg 1; whnf); kernel_rfl; focus (intro w hSw; (try dsimp only at hSw); go_simp; all_goals with_reducible rfl)
                simp only [Act.put, List.setIfInBounds_toArray, List.set_cons_zero, List.set_cons_succ]
                refine tk (oi := ?_) (v := ?_) 7 hP (by kernel_rfl) ?_ ?_ ?_ hHeld ?_; rotate_left 2
                (conv => lhs; whnf; arg 1; whnf); kernel_rfl; focus (intro w hSw; (try dsimp only at hSw); go_simp; all_goals with_reducible rfl)
                simp only [Act.put, List.setIfInBounds_toArray, List.set_cons_zero, List.set_cons_succ]
                refine tk (oi := ?_) (v := ?_) 8 hP (by kernel_rfl) ?_ ?_ ?_ hHeld ?_; rotate_left 2
                (conv => lhs; whnf; arg 1; whnf); kernel_rfl; focus (intro w hSw; (try dsimp only at hSw); go_simp; all_goals with_reducible rfl)
                simp only [Act.put, List.setIfInBounds_toArray, List.set_cons_zero, List.set_cons_succ]
                refine tk (oi := ?_) (v := ?_) 9 hP (by kernel_rfl) ?_ ?_ ?_ hHeld ?_; rotate_left 2
                (conv => lhs; whnf; arg 1; whnf); kernel_rfl; focus (intro w hSw; (try dsimp only at hSw); go_simp; all_goals with_reducible rfl)
                simp only [Act.put, List.setIfInBounds_toArray, List.set_cons_zero, List.set_cons_succ]
                refine tk (oi := ?_) (v := ?_) 10 hP (by kernel_rfl) ?_ ?_ ?_ hHeld ?_; rotate_left 2
                (conv => lhs; whnf; arg 1; whnf); kernel_rfl; focus (intro w hSw; (try dsimp only at hSw); go_simp; all_goals with_reducible rfl)
                simp only [Act.put, List.setIfInBounds_toArray, List.set_cons_zero, List.set_cons_succ]
                refine tk (oi := ?_) (v := ?_) 12 hP (by kernel_rfl) ?_ ?_ ?_ hHeld ?_; rotate_left 2
                (conv => lhs; whnf; arg 1; whnf); kernel_rfl; focus (intro w hSw; (try dsimp only at hSw); go_simp; all_goals with_reducible rfl)
                simp only [Act.put, List.setIfInBounds_toArray, List.set_cons_zero, List.set_cons_succ]
                refine st (oi := ?_) 11 (by kernel_rfl) ?_ (fun KK hK => ?_); rotate_left; (conv => lhs; whnf; arg 1; whnf)
                go_simp
                with_reducible refine (MQ.out _ hz).mono ?_
                rintro e wZ ⟨rfl, hbX⟩
                replace hacc := hacc.trans (hbX.mono hacc.size)
                replace bA := bA.below hbX
                replace bB := bB.below hbX
                replace bC := bC.below hbX
                replace bO := bO.below hbX
                replace bI := bI.below hbX
                replace bQ := bQ.below hbX
                clear hbX
                (first | refine hK.out _ _ ?_ (fun hHeldN => ?_) | (go_wp2_with fail; refine hK.out _ _ ?_ (fun hHeldN => ?_)))
                · try dsimp only
                  with_reducible exact ⟨bA.at 0 rfl, bA.at 1 rfl, bA.at 2 rfl, bB.at 0 rfl, bB.at 1 rfl, bB.at 2 rfl, bO.at 0 rfl, bO.at 1 rfl, bO.at 2 rfl, bQ.at 0 rfl, bQ.at 1 rfl, bQ.at 2 rfl⟩
                clear hK KK hHeld
                have hHeld := hHeldN
                clear hHeldN
                try simp only [Act.put, List.setIfInBounds_toArray, List.set_cons_zero, List.set_cons_succ]
                refine tk (oi := ?_) (v := ?_) 13 hP (by kernel_rfl) ?_ ?_ ?_ hHeld ?_; rotate_left 2
                (conv => lhs; whnf; arg 1; whnf); kernel_rfl; focus (intro w hSw; (try dsimp only at hSw); go_simp; all_goals with_reducible rfl)
                simp only [Act.put, List.setIfInBounds_toArray, List.set_cons_zero, List.set_cons_succ]
                refine tk (oi := ?_) (v := ?_) 14 hP (by kernel_rfl) ?_ ?_ ?_ hHeld ?_; rotate_left 2
                (conv => lhs; whnf; arg 1; whnf); kernel_rfl; focus (intro w hSw; (try dsimp only at hSw); go_simp; all_goals with_reducible rfl)
                simp only [Act.put, List.setIfInBounds_toArray, List.set_cons_zero, List.set_cons_succ]
                refine tk (oi := ?_) (v := ?_) 15 hP (by kernel_rfl) ?_ ?_ ?_ hHeld ?_; rotate_left 2
                (conv => lhs; whnf; arg 1; whnf); kernel_rfl; focus (intro w hSw; (try dsimp only at hSw); go_simp; all_goals with_reducible rfl)
                simp only [Act.put, List.setIfInBounds_toArray, List.set_cons_zero, List.set_cons_succ]
                refine tk (oi := ?_) (v := ?_) 16 hP (by kernel_rfl) ?_ ?_ ?_ hHeld ?_; rotate_left 2
                (conv => lhs; whnf; arg 1; whnf); kernel_rfl; focus (intro w hSw; (try dsimp only at hSw); go_simp; all_goals with_reducible rfl)
                simp only [Act.put, List.setIfInBounds_toArray, List.set_cons_zero, List.set_cons_succ]
                refine wpAnyH_done (by kernel_rfl) ?_ _
                refine NoPanic.normal ?_
                all_goals
                  go_wp2_with fail
                  go_meet
                  exact ⟨rfl, bA, bB, bC, bO, bI, hacc⟩
            · have h4 := str_ne h2
              have h5 := str_neB h2
              clear h2 HE HB
              replace hacc := hacc.drew
              replace bA := bA.drew
              replace bB := bB.drew
              replace bC := bC.drew
              replace bO := bO.drew
              replace bI := bI.drew
              replace bQ := bQ.drew
              refine wp_held (S := (fun w' => w'.cell? ⟨gA, 0, none⟩ = some (.bool sp) ∧ w'.cell? ⟨gA, 1, none⟩ = some (.string np) ∧ w'.cell? ⟨gA, 2, none⟩ = some (.string dp) ∧ w'.cell? ⟨gB, 0, none⟩ = some (.bool sq) ∧ w'.cell? ⟨gB, 1, none⟩ = some (.string nq) ∧ w'.cell? ⟨gB, 2, none⟩ = some (.string dq) ∧ w'.cell? ⟨gO, 0, none⟩ = some (.bool sq) ∧ w'.cell? ⟨gO, 1, none⟩ = some (.string no) ∧ w'.cell? ⟨gO, 2, none⟩ = some (.string do') ∧ w'.cell? ⟨gQ, 0, none⟩ = some (.bool qn) ∧ w'.cell? ⟨gQ, 1, none⟩ = some (.string qa) ∧ w'.cell? ⟨gQ, 2, none⟩ = some (.string qd))) (by kernel_rfl) (fun hP WD hWD => ?_)
              simp only [← hWD.out] at hacc bA bB bC bO bI bQ
              clear hWD
              refine ⟨?_, fun hHeld => ?_⟩
              · try dsimp only
                with_reducible exact ⟨bA.at 0 rfl, bA.at 1 rfl, bA.at 2 rfl, bB.at 0 rfl, bB.at 1 rfl, bB.at 2 rfl, bO.at 0 rfl, bO.at 1 rfl, bO.at 2 rfl, bQ.at 0 rfl, bQ.at 1 rfl, bQ.at 2 rfl⟩
              refine tk (oi := ?_) (v := ?_) 0 hP (by kernel_rfl) ?_ ?_ ?_ hHeld ?_; rotate_left 2
              (conv => lhs; whnf; arg 1; whnf); kernel_rfl; focus (intro w hSw; (try dsimp only at hSw); go_simp; all_goals with_reducible rfl)
              simp only [Act.put, List.setIfInBounds_toArray, List.set_cons_zero, List.set_cons_succ]
              refine tk (oi := ?_) (v := ?_) 1 hP (by kernel_rfl) ?_ ?_ ?_ hHeld ?_; rotate_left 2
              (conv => lhs; whnf; arg 1; whnf); kernel_rfl; focus (intro w hSw; (try dsimp only at hSw); go_simp; all_goals with_reducible rfl)
              simp only [Act.put, List.setIfInBounds_toArray, List.set_cons_zero, List.set_cons_succ]
              refine tk (oi := ?_) (v := ?_) 2 hP (by kernel_rfl) ?_ ?_ ?_ hHeld ?_; rotate_left 2
              (conv => lhs; whnf; arg 1; whnf); kernel_rfl; focus (intro w hSw; (try dsimp only at hSw); go_simp; all_goals with_reducible rfl)
              simp only [Act.put, List.setIfInBounds_toArray, List.set_cons_zero, List.set_cons_succ]
              refine tk (oi := ?_) (v := ?_) 3 hP (by kernel_rfl) ?_ ?_ ?_ hHeld ?_; rotate_left 2
              (conv => lhs; whnf; arg 1; whnf); kernel_rfl; focus (intro w hSw; (try dsimp only at hSw); go_simp; all_goals with_reducible rfl)
              simp only [Act.put, List.setIfInBounds_toArray, List.set_cons_zero, List.set_cons_succ]
              refine tk (oi := ?_) (v := ?_) 4 hP (by kernel_rfl) ?_ ?_ ?_ hHeld ?_; rotate_left 2
              (conv => lhs; whnf; arg 1; whnf); kernel_rfl; focus (intro w hSw; (try dsimp only at hSw); go_simp; all_goals with_reducible rfl)
              simp only [Act.put, List.setIfInBounds_toArray, List.set_cons_zero, List.set_cons_succ]
              refine tk (oi := ?_) (v := ?_) 5 hP (by kernel_rfl) ?_ ?_ ?_ hHeld ?_; rotate_left 2
              (conv => lhs; whnf; arg 1; whnf); kernel_rfl; focus (intro w hSw; (try dsimp only at hSw); go_simp; all_goals with_reducible rfl)
              simp only [Act.put, List.setIfInBounds_toArray, List.set_cons_zero, List.set_cons_succ]
              refine tk (oi := ?_) (v := ?_) 6 hP (by kernel_rfl) ?_ ?_ ?_ hHeld ?_; rotate_left 2
              (conv => lhs; whnf; arg 1; whnf); kernel_rfl; focus (intro w hSw; (try dsimp only at hSw); go_simp; all_goals with_reducible rfl)
              simp only [Act.put, List.setIfInBounds_toArray, List.set_cons_zero, List.set_cons_succ]
              refine tk (oi := ?_) (v := ?_) 7 hP (by kernel_rfl) ?_ ?_ ?_ hHeld ?_; rotate_left 2
              (conv => lhs; whnf; arg 1; whnf); kernel_rfl; focus (intro w hSw; (try dsimp only at hSw); go_simp; all_goals with_reducible rfl)
              simp only [Act.put, List.setIfInBounds_toArray, List.set_cons_zero, List.set_cons_succ]
              refine tk (oi := ?_) (v := ?_) 8 hP (by kernel_rfl) ?_ ?_ ?_ hHeld ?_; rotate_left 2
              (conv => lhs; whnf; arg 1; whnf); kernel_rfl; focus (intro w hSw; (try dsimp only at hSw); go_simp; all_goals with_reducible rfl)
              simp only [Act.put, List.setIfInBounds_toArray, List.set_cons_zero, List.set_cons_succ]
              refine tk (oi := ?_) (v := ?_) 9 hP (by kernel_rfl) ?_ ?_ ?_ hHeld ?_; rotate_left 2
              (conv => lhs; whnf; arg 1; whnf); kernel_rfl; focus (intro w hSw; (try dsimp only at hSw); go_simp; all_goals with_reducible rfl)
              simp only [Act.put, List.setIfInBounds_toArray, List.set_cons_zero, List.set_cons_succ]
              refine tk (oi := ?_) (v := ?_) 10 hP (by kernel_rfl) ?_ ?_ ?_ hHeld ?_; rotate_left 2
              (conv => lhs; whnf; arg 1; whnf); kernel_rfl; focus (intro w hSw; (try dsimp only at hSw); go_simp; all_goals with_reducible rfl)
              simp only [Act.put, List.setIfInBounds_toArray, List.set_cons_zero, List.set_cons_succ]
              refine tk (oi := ?_) (v := ?_) 12 hP (by kernel_rfl) ?_ ?_ ?_ hHeld ?_; rotate_left 2
              (conv => lhs; whnf; arg 1; whnf); kernel_rfl; focus (intro w hSw; (try dsimp only at hSw); go_simp; all_goals with_reducible rfl)
              simp only [Act.put, List.setIfInBounds_toArray, List.set_cons_zero, List.set_cons_succ]
              refine st (oi := ?_) 11 (by kernel_rfl) ?_ (fun KK hK => ?_); rotate_left; (conv => lhs; whnf; arg 1; whnf)
              go_simp
              with_reducible refine (MQ.out _ hz).mono ?_
              rintro e wZ ⟨rfl, hbX⟩
              replace hacc := hacc.trans (hbX.mono hacc.size)
              replace bA := bA.below hbX
              replace bB := bB.below hbX
              replace bC := bC.below hbX
              replace bO := bO.below hbX
              replace bI := bI.below hbX
              replace bQ := bQ.below hbX
              clear hbX
              (first | refine hK.out _ _ ?_ (fun hHeldN => ?_) | (go_wp2_with fail; refine hK.out _ _ ?_ (fun hHeldN => ?_)))
              · try dsimp only
                with_reducible exact ⟨bA.at 0 rfl, bA.at 1 rfl, bA.at 2 rfl, bB.at 0 rfl, bB.at 1 rfl, bB.at 2 rfl, bO.at 0 rfl, bO.at 1 rfl, bO.at 2 rfl, bQ.at 0 rfl, bQ.at 1 rfl, bQ.at 2 rfl⟩
              clear hK KK hHeld
              have hHeld := hHeldN
              clear hHeldN
              try simp only [Act.put, List.setIfInBounds_toArray, List.set_cons_zero, List.set_cons_succ]
              refine tk (oi := ?_) (v := ?_) 13 hP (by kernel_rfl) ?_ ?_ ?_ hHeld ?_; rotate_left 2
              (conv => lhs; whnf; arg 1; whnf); kernel_rfl; focus (intro w hSw; (try dsimp only at hSw); go_simp; all_goals with_reducible rfl)
              simp only [Act.put, List.setIfInBounds_toArray, List.set_cons_zero, List.set_cons_succ]
              refine tk (oi := ?_) (v := ?_) 14 hP (by kernel_rfl) ?_ ?_ ?_ hHeld ?_; rotate_left 2
              (conv => lhs; whnf; arg 1; whnf); kernel_rfl; focus (intro w hSw; (try dsimp only at hSw); go_simp; all_goals with_reducible rfl)
              simp only [Act.put, List.setIfInBounds_toArray, List.set_cons_zero, List.set_cons_succ]
              refine tk (oi := ?_) (v := ?_) 15 hP (by kernel_rfl) ?_ ?_ ?_ hHeld ?_; rotate_left 2
              (conv => lhs; whnf; arg 1; whnf); kernel_rfl; focus (intro w hSw; (try dsimp only at hSw); go_simp; all_goals with_reducible rfl)
              simp only [Act.put, List.setIfInBounds_toArray, List.set_cons_zero, List.set_cons_succ]
              refine tk (oi := ?_) (v := ?_) 16 hP (by kernel_rfl) ?_ ?_ ?_ hHeld ?_; rotate_left 2
              (conv => lhs; whnf; arg 1; whnf); kernel_rfl; focus (intro w hSw; (try dsimp only at hSw); go_simp; all_goals with_reducible rfl)
              simp only [Act.put, List.setIfInBounds_toArray, List.set_cons_zero, List.set_cons_succ]
              refine wpAnyH_done (by kernel_rfl) ?_ _
              refine NoPanic.normal ?_
              all_goals
                go_wp2_with fail
                go_meet
                exact ⟨rfl, bA, bB, bC, bO, bI, hacc⟩
          · clear HE HB
            cases sq <;> cases so
            · exact absurd rfl h1
            · clear h1
              replace hacc := hacc.drew
              replace bA := bA.drew
              replace bB := bB.drew
              replace bC := bC.drew
              replace bO := bO.drew
              replace bI := bI.drew
              replace bQ := bQ.drew
              refine wp_held (S := (fun w' => w'.cell? ⟨gA, 0, none⟩ = some (.bool sp) ∧ w'.cell? ⟨gA, 1, none⟩ = some (.string np) ∧ w'.cell? ⟨gA, 2, none⟩ = some (.string dp) ∧ w'.cell? ⟨gB, 0, none⟩ = some (.bool false) ∧ w'.cell? ⟨gB, 1, none⟩ = some (.string nq) ∧ w'.cell? ⟨gB, 2, none⟩ = some (.string dq) ∧ w'.cell? ⟨gO, 0, none⟩ = some (.bool true) ∧ w'.cell? ⟨gO, 1, none⟩ = some (.string no) ∧ w'.cell? ⟨gO, 2, none⟩ = some (.string do') ∧ w'.cell? ⟨gQ, 0, none⟩ = some (.bool qn) ∧ w'.cell? ⟨gQ, 1, none⟩ = some (.string qa) ∧ w'.cell? ⟨gQ, 2, none⟩ = some (.string qd))) (by kernel_rfl) (fun hP WD hWD => ?_)
              simp only [← hWD.out] at hacc bA bB bC bO bI bQ
              clear hWD
              refine ⟨?_, fun hHeld => ?_⟩
              · try dsimp only
                with_reducible exact ⟨bA.at 0 rfl, bA.at 1 rfl, bA.at 2 rfl, bB.at 0 rfl, bB.at 1 rfl, bB.at 2 rfl, bO.at 0 rfl, bO.at 1 rfl, bO.at 2 rfl, bQ.at 0 rfl, bQ.at 1 rfl, bQ.at 2 rfl⟩
              refine tk (oi := ?_) (v := ?_) 0 hP (by kernel_rfl) ?_ ?_ ?_ hHeld ?_; rotate_left 2
              (conv => lhs; whnf; arg 1; whnf); kernel_rfl; focus (intro w hSw; (try dsimp only at hSw); go_simp; all_goals with_reducible rfl)
              simp only [Act.put, List.setIfInBounds_toArray, List.set_cons_zero, List.set_cons_succ]
              refine tk (oi := ?_) (v := ?_) 1 hP (by kernel_rfl) ?_ ?_ ?_ hHeld ?_; rotate_left 2
              (conv => lhs; whnf; arg 1; whnf); kernel_rfl; focus (intro w hSw; (try dsimp only at hSw); go_simp; all_goals with_reducible rfl)
              simp only [Act.put, List.setIfInBounds_toArray, List.set_cons_zero, List.set_cons_succ]
              refine tk (oi := ?_) (v := ?_) 2 hP (by kernel_rfl) ?_ ?_ ?_ hHeld ?_; rotate_left 2
              (conv => lhs; whnf; arg 1; whnf); kernel_rfl; focus (intro w hSw; (try dsimp only at hSw); go_simp; all_goals with_reducible rfl)
              simp only [Act.put, List.setIfInBounds_toArray, List.set_cons_zero, List.set_cons_succ]
              refine tk (oi := ?_) (v := ?_) 3 hP (by kernel_rfl) ?_ ?_ ?_ hHeld ?_; rotate_left 2
              (conv => lhs; whnf; arg 1; whnf); kernel_rfl; focus (intro w hSw; (try dsimp only at hSw); go_simp; all_goals with_reducible rfl)
              simp only [Act.put, List.setIfInBounds_toArray, List.set_cons_zero, List.set_cons_succ]
              refine tk (oi := ?_) (v := ?_) 4 hP (by kernel_rfl) ?_ ?_ ?_ hHeld ?_; rotate_left 2
              (conv => lhs; whnf; arg 1; whnf); kernel_rfl; focus (intro w hSw; (try dsimp only at hSw); go_simp; all_goals with_reducible rfl)
              simp only [Act.put, List.setIfInBounds_toArray, List.set_cons_zero, List.set_cons_succ]
              refine tk (oi := ?_) (v := ?_) 5 hP (by kernel_rfl) ?_ ?_ ?_ hHeld ?_; rotate_left 2
              (conv => lhs; whnf; arg 1; whnf); kernel_rfl; focus (intro w hSw; (try dsimp only at hSw); go_simp; all_goals with_reducible rfl)
              simp only [Act.put, List.setIfInBounds_toArray, List.set_cons_zero, List.set_cons_succ]
              refine tk (oi := ?_) (v := ?_) 6 hP (by kernel_rfl) ?_ ?_ ?_ hHeld ?_; rotate_left 2
              (conv => lhs; whnf; arg 1; whnf); kernel_rfl; focus (intro w hSw; (try dsimp only at hSw); go_simp; all_goals with_reducible rfl)
              simp only [Act.put, List.setIfInBounds_toArray, List.set_cons_zero, List.set_cons_succ]
              refine tk (oi := ?_) (v := ?_) 7 hP (by kernel_rfl) ?_ ?_ ?_ hHeld ?_; rotate_left 2
              (conv => lhs; whnf; arg 1; whnf); kernel_rfl; focus (intro w hSw; (try dsimp only at hSw); go_simp; all_goals with_reducible rfl)
              simp only [Act.put, List.setIfInBounds_toArray, List.set_cons_zero, List.set_cons_succ]
              refine tk (oi := ?_) (v := ?_) 8 hP (by kernel_rfl) ?_ ?_ ?_ hHeld ?_; rotate_left 2
              (conv => lhs; whnf; arg 1; whnf); kernel_rfl; focus (intro w hSw; (try dsimp only at hSw); go_simp; all_goals with_reducible rfl)
              simp only [Act.put, List.setIfInBounds_toArray, List.set_cons_zero, List.set_cons_succ]
              refine tk (oi := ?_) (v := ?_) 9 hP (by kernel_rfl) ?_ ?_ ?_ hHeld ?_; rotate_left 2
              (conv => lhs; whnf; arg 1; whnf); kernel_rfl; focus (intro w hSw; (try dsimp only at hSw); go_simp; all_goals with_reducible rfl)
              simp only [Act.put, List.setIfInBounds_toArray, List.set_cons_zero, List.set_cons_succ]
              refine tk (oi := ?_) (v := ?_) 10 hP (by kernel_rfl) ?_ ?_ ?_ hHeld ?_; rotate_left 2
              (conv => lhs; whnf; arg 1; whnf); kernel_rfl; focus (intro w hSw; (try dsimp only at hSw); go_simp; all_goals with_reducible rfl)
              simp only [Act.put, List.setIfInBounds_toArray, List.set_cons_zero, List.set_cons_succ]
              refine tk (oi := ?_) (v := ?_) 12 hP (by kernel_rfl) ?_ ?_ ?_ hHeld ?_; rotate_left 2
              (conv => lhs; whnf; arg 1; whnf); kernel_rfl; focus (intro w hSw; (try dsimp only at hSw); go_simp; all_goals with_reducible rfl)
              simp only [Act.put, List.setIfInBounds_toArray, List.set_cons_zero, List.set_cons_succ]
              refine st (oi := ?_) 11 (by kernel_rfl) ?_ (fun KK hK => ?_); rotate_left; (conv => lhs; whnf; arg 1; whnf)
              go_simp
              with_reducible refine (MQ.out _ hz).mono ?_
              rintro e wZ ⟨rfl, hbX⟩
              replace hacc := hacc.trans (hbX.mono hacc.size)
              replace bA := bA.below hbX
              replace bB := bB.below hbX
              replace bC := bC.below hbX
              replace bO := bO.below hbX
              replace bI := bI.below hbX
              replace bQ := bQ.below hbX
              clear hbX
              (first | refine hK.out _ _ ?_ (fun hHeldN => ?_) | (go_wp2_with fail; refine hK.out _ _ ?_ (fun hHeldN => ?_)))
              · try dsimp only
                with_reducible exact ⟨bA.at 0 rfl, bA.at 1 rfl, bA.at 2 rfl, bB.at 0 rfl, bB.at 1 rfl, bB.at 2 rfl, bO.at 0 rfl, bO.at 1 rfl, bO.at 2 rfl, bQ.at 0 rfl, bQ.at 1 rfl, bQ.at 2 rfl⟩
              clear hK KK hHeld
              have hHeld := hHeldN
              clear hHeldN
              try simp only [Act.put, List.setIfInBounds_toArray, List.set_cons_zero, List.set_cons_succ]
              refine tk (oi := ?_) (v := ?_) 13 hP (by kernel_rfl) ?_ ?_ ?_ hHeld ?_; rotate_left 2
              (conv => lhs; whnf; arg 1; whnf); kernel_rfl; focus (intro w hSw; (try dsimp only at hSw); go_simp; all_goals with_reducible rfl)
              simp only [Act.put, List.setIfInBounds_toArray, List.set_cons_zero, List.set_cons_succ]
              refine tk (oi := ?_) (v := ?_) 14 hP (by kernel_rfl) ?_ ?_ ?_ hHeld ?_; rotate_left 2
              (conv => lhs; whnf; arg 1; whnf); kernel_rfl; focus (intro w hSw; (try dsimp only at hSw); go_simp; all_goals with_reducible rfl)
              simp only [Act.put, List.setIfInBounds_toArray, List.set_cons_zero, List.set_cons_succ]
              refine tk (oi := ?_) (v := ?_) 15 hP (by kernel_rfl) ?_ ?_ ?_ hHeld ?_; rotate_left 2
              (conv => lhs; whnf; arg 1; whnf); kernel_rfl; focus (intro w hSw; (try dsimp only at hSw); go_simp; all_goals with_reducible rfl)
              simp only [Act.put, List.setIfInBounds_toArray, List.set_cons_zero, List.set_cons_succ]
              refine tk (oi := ?_) (v := ?_) 16 hP (by kernel_rfl) ?_ ?_ ?_ hHeld ?_; rotate_left 2
              (conv => lhs; whnf; arg 1; whnf); kernel_rfl; focus (intro w hSw; (try dsimp only at hSw); go_simp; all_goals with_reducible rfl)
              simp only [Act.put, List.setIfInBounds_toArray, List.set_cons_zero, List.set_cons_succ]
              refine wpAnyH_done (by kernel_rfl) ?_ _
              refine NoPanic.normal ?_
              all_goals
                go_wp2_with fail
                go_meet
                exact ⟨rfl, bA, bB, bC, bO, bI, hacc⟩
            · clear h1
              replace hacc := hacc.drew
              replace bA := bA.drew
              replace bB := bB.drew
              replace bC := bC.drew
              replace bO := bO.drew
              replace bI := bI.drew
              replace bQ := bQ.drew
              refine wp_held (S := (fun w' => w'.cell? ⟨gA, 0, none⟩ = some (.bool sp) ∧ w'.cell? ⟨gA, 1, none⟩ = some (.string np) ∧ w'.cell? ⟨gA, 2, none⟩ = some (.string dp) ∧ w'.cell? ⟨gB, 0, none⟩ = some (.bool true) ∧ w'.cell? ⟨gB, 1, none⟩ = some (.string nq) ∧ w'.cell? ⟨gB, 2, none⟩ = some (.string dq) ∧ w'.cell? ⟨gO, 0, none⟩ = some (.bool false) ∧ w'.cell? ⟨gO, 1, none⟩ = some (.string no) ∧ w'.cell? ⟨gO, 2, none⟩ = some (.string do') ∧ w'.cell? ⟨gQ, 0, none⟩ = some (.bool qn) ∧ w'.cell? ⟨gQ, 1, none⟩ = some (.string qa) ∧ w'.cell? ⟨gQ, 2, none⟩ = some (.string qd))) (by kernel_rfl) (fun hP WD hWD => ?_)
              simp only [← hWD.out] at hacc bA bB bC bO bI bQ
              clear hWD
              refine ⟨?_, fun hHeld => ?_⟩
              · try dsimp only
                with_reducible exact ⟨bA.at 0 rfl, bA.at 1 rfl, bA.at 2 rfl, bB.at 0 rfl, bB.at 1 rfl, bB.at 2 rfl, bO.at 0 rfl, bO.at 1 rfl, bO.at 2 rfl, bQ.at 0 rfl, bQ.at 1 rfl, bQ.at 2 rfl⟩
              refine tk (oi := ?_) (v := ?_) 0 hP (by kernel_rfl) ?_ ?_ ?_ hHeld ?_; rotate_left 2
              (conv => lhs; whnf; arg 1; whnf); kernel_rfl; focus (intro w hSw; (try dsimp only at hSw); go_simp; all_goals with_reducible rfl)
              simp only [Act.put, List.setIfInBounds_toArray, List.set_cons_zero, List.set_cons_succ]
              refine tk (oi := ?_) (v := ?_) 1 hP (by kernel_rfl) ?_ ?_ ?_ hHeld ?_; rotate_left 2
              (conv => lhs; whnf; arg 1; whnf); kernel_rfl; focus (intro w hSw; (try dsimp only at hSw); go_simp; all_goals with_reducible rfl)
              simp only [Act.put, List.setIfInBounds_toArray, List.set_cons_zero, List.set_cons_succ]
              refine tk (oi := ?_) (v := ?_) 2 hP (by kernel_rfl) ?_ ?_ ?_ hHeld ?_; rotate_left 2
              (conv => lhs; whnf; arg 1; whnf); kernel_rfl; focus (intro w hSw; (try dsimp only at hSw); go_simp; all_goals with_reducible rfl)
              simp only [Act.put, List.setIfInBounds_toArray, List.set_cons_zero, List.set_cons_succ]
              refine tk (oi := ?_) (v := ?_) 3 hP (by kernel_rfl) ?_ ?_ ?_ hHeld ?_; rotate_left 2
              (conv => lhs; whnf; arg 1; whnf); kernel_rfl; focus (intro w hSw; (try dsimp only at hSw); go_simp; all_goals with_reducible rfl)
              simp only [Act.put, List.setIfInBounds_toArray, List.set_cons_zero, List.set_cons_succ]
              refine tk (oi := ?_) (v := ?_) 4 hP (by kernel_rfl) ?_ ?_ ?_ hHeld ?_; rotate_left 2
              (conv => lhs; whnf; arg 1; whnf); kernel_rfl; focus (intro w hSw; (try dsimp only at hSw); go_simp; all_goals with_reducible rfl)
              simp only [Act.put, List.setIfInBounds_toArray, List.set_cons_zero, List.set_cons_succ]
              refine tk (oi := ?_) (v := ?_) 5 hP (by kernel_rfl) ?_ ?_ ?_ hHeld ?_; rotate_left 2
              (conv => lhs; whnf; arg 1; whnf); kernel_rfl; focus (intro w hSw; (try dsimp only at hSw); go_simp; all_goals with_reducible rfl)
              simp only [Act.put, List.setIfInBounds_toArray, List.set_cons_zero, List.set_cons_succ]
              refine tk (oi := ?_) (v := ?_) 6 hP (by kernel_rfl) ?_ ?_ ?_ hHeld ?_; rotate_left 2
              (conv => lhs; whnf; arg 1; whnf); kernel_rfl; focus (intro w hSw; (try dsimp only at hSw); go_simp; all_goals with_reducible rfl)
              simp only [Act.put, List.setIfInBounds_toArray, List.set_cons_zero, List.set_cons_succ]
              refine tk (oi := ?_) (v := ?_) 7 hP (by kernel_rfl) ?_ ?_ ?_ hHeld ?_; rotate_left 2
              (conv => lhs; whnf; arg 1; whnf); kernel_rfl; focus (intro w hSw; (try dsimp only at hSw); go_simp; all_goals with_reducible rfl)
              simp only [Act.put, List.setIfInBounds_toArray, List.set_cons_zero, List.set_cons_succ]
              refine tk (oi := ?_) (v := ?_) 8 hP (by kernel_rfl) ?_ ?_ ?_ hHeld ?_; rotate_left 2
              (conv => lhs; whnf; arg 1; whnf); kernel_rfl; focus (intro w hSw; (try dsimp only at hSw); go_simp; all_goals with_reducible rfl)
              simp only [Act.put, List.setIfInBounds_toArray, List.set_cons_zero, List.set_cons_succ]
              refine tk (oi := ?_) (v := ?_) 9 hP (by kernel_rfl) ?_ ?_ ?_ hHeld ?_; rotate_left 2
              (conv => lhs; whnf; arg 1; whnf); kernel_rfl; focus (intro w hSw; (try dsimp only at hSw); go_simp; all_goals with_reducible rfl)
              simp only [Act.put, List.setIfInBounds_toArray, List.set_cons_zero, List.set_cons_succ]
              refine tk (oi := ?_) (v := ?_) 10 hP (by kernel_rfl) ?_ ?_ ?_ hHeld ?_; rotate_left 2
              (conv => lhs; whnf; arg 1; whnf); kernel_rfl; focus (intro w hSw; (try dsimp only at hSw); go_simp; all_goals with_reducible rfl)
              simp only [Act.put, List.setIfInBounds_toArray, List.set_cons_zero, List.set_cons_succ]
              refine tk (oi := ?_) (v := ?_) 12 hP (by kernel_rfl) ?_ ?_ ?_ hHeld ?_; rotate_left 2
              (conv => lhs; whnf; arg 1; whnf); kernel_rfl; focus (intro w hSw; (try dsimp only at hSw); go_simp; all_goals with_reducible rfl)
              simp only [Act.put, List.setIfInBounds_toArray, List.set_cons_zero, List.set_cons_succ]
              refine st (oi := ?_) 11 (by kernel_rfl) ?_ (fun KK hK => ?_); rotate_left; (conv => lhs; whnf; arg 1; whnf)
              go_simp
              with_reducible refine (MQ.out _ hz).mono ?_
              rintro e wZ ⟨rfl, hbX⟩
              replace hacc := hacc.trans (hbX.mono hacc.size)
              replace bA := bA.below hbX
              replace bB := bB.below hbX
              replace bC := bC.below hbX
              replace bO := bO.below hbX
              replace bI := bI.below hbX
              replace bQ := bQ.below hbX
              clear hbX
              (first | refine hK.out _ _ ?_ (fun hHeldN => ?_) | (go_wp2_with fail; refine hK.out _ _ ?_ (fun hHeldN => ?_)))
              · try dsimp only
                with_reducible exact ⟨bA.at 0 rfl, bA.at 1 rfl, bA.at 2 rfl, bB.at 0 rfl, bB.at 1 rfl, bB.at 2 rfl, bO.at 0 rfl, bO.at 1 rfl, bO.at 2 rfl, bQ.at 0 rfl, bQ.at 1 rfl, bQ.at 2 rfl⟩
              clear hK KK hHeld
              have hHeld := hHeldN
              clear hHeldN
              try simp only [Act.put, List.setIfInBounds_toArray, List.set_cons_zero, List.set_cons_succ]
              refine tk (oi := ?_) (v := ?_) 13 hP (by kernel_rfl) ?_ ?_ ?_ hHeld ?_; rotate_left 2
              (conv => lhs; whnf; arg 1; whnf); kernel_rfl; focus (intro w hSw; (try dsimp only at hSw); go_simp; all_goals with_reducible rfl)
              simp only [Act.put, List.setIfInBounds_toArray, List.set_cons_zero, List.set_cons_succ]
              refine tk (oi := ?_) (v := ?_) 14 hP (by kernel_rfl) ?_ ?_ ?_ hHeld ?_; rotate_left 2
              (conv => lhs; whnf; arg 1; whnf); kernel_rfl; focus (intro w hSw; (try dsimp only at hSw); go_simp; all_goals with_reducible rfl)
              simp only [Act.put, List.setIfInBounds_toArray, List.set_cons_zero, List.set_cons_succ]
              refine tk (oi := ?_) (v := ?_) 15 hP (by kernel_rfl) ?_ ?_ ?_ hHeld ?_; rotate_left 2
              (conv => lhs; whnf; arg 1; whnf); kernel_rfl; focus (intro w hSw; (try dsimp only at hSw); go_simp; all_goals with_reducible rfl)
              simp only [Act.put, List.setIfInBounds_toArray, List.set_cons_zero, List.set_cons_succ]
              refine tk (oi := ?_) (v := ?_) 16 hP (by kernel_rfl) ?_ ?_ ?_ hHeld ?_; rotate_left 2
              (conv => lhs; whnf; arg 1; whnf); kernel_rfl; focus (intro w hSw; (try dsimp only at hSw); go_simp; all_goals with_reducible rfl)
              simp only [Act.put, List.setIfInBounds_toArray, List.set_cons_zero, List.set_cons_succ]
              refine wpAnyH_done (by kernel_rfl) ?_ _
              refine NoPanic.normal ?_
              all_goals
                go_wp2_with fail
                go_meet
                exact ⟨rfl, bA, bB, bC, bO, bI, hacc⟩
            · exact absurd rfl h1
      case rest =>
        obtain ⟨rfl, bA, bB, bC, bO, bI, hacc⟩ := hcut
        go_upto_region 11 with fail
        clear bO bI O0 O1 A2 M1 M2 A4 A5 M3 M4 M5 M6 M7 A6 A7 M8 N1 A8 QT MQ HE HB
        replace hacc := hacc.drew
        replace bA := bA.drew
        replace bB := bB.drew
        replace bC := bC.drew
        refine wp_held (S := (fun w' => w'.cell? ⟨gA, 0, none⟩ = some (.bool sp) ∧ w'.cell? ⟨gA, 1, none⟩ = some (.string np) ∧ w'.cell? ⟨gA, 2, none⟩ = some (.string dp) ∧ w'.cell? ⟨gB, 0, none⟩ = some (.bool sq) ∧ w'.cell? ⟨gB, 1, none⟩ = some (.string nq) ∧ w'.cell? ⟨gB, 2, none⟩ = some (.string dq) ∧ w'.cell? ⟨gC, 0, none⟩ = some (.bool sc) ∧ w'.cell? ⟨gC, 1, none⟩ = some (.string nc) ∧ w'.cell? ⟨gC, 2, none⟩ = some (.string dc))) (by kernel_rfl) (fun hP WD hWD => ?_)
        simp only [← hWD.out] at hacc bA bB bC
        clear hWD
        refine ⟨?_, fun hHeld => ?_⟩
        · try dsimp only
          with_reducible exact ⟨bA.at 0 rfl, bA.at 1 rfl, bA.at 2 rfl, bB.at 0 rfl, bB.at 1 rfl, bB.at 2 rfl, bC.at 0 rfl, bC.at 1 rfl, bC.at 2 rfl⟩
        refine tk (oi := ?_) (v := ?_) 0 hP (by kernel_rfl) ?_ ?_ ?_ hHeld ?_; rotate_left 2
        (conv => lhs; whnf; arg 1; whnf); kernel_rfl; focus (intro w hSw; (try dsimp only at hSw); go_simp; all_goals with_reducible rfl)
        simp only [Act.put, List.setIfInBounds_toArray, List.set_cons_zero, List.set_cons_succ]
        refine tk (oi := ?_) (v := ?_) 1 hP (by kernel_rfl) ?_ ?_ ?_ hHeld ?_; rotate_left 2
        (conv => lhs; whnf; arg 1; whnf); kernel_rfl; focus (intro w hSw; (try dsimp only at hSw); go_simp; all_goals with_reducible rfl)
        simp only [Act.put, List.setIfInBounds_toArray, List.set_cons_zero, List.set_cons_succ]
        refine tk (oi := ?_) (v := ?_) 2 hP (by kernel_rfl) ?_ ?_ ?_ hHeld ?_; rotate_left 2
        (conv => lhs; whnf; arg 1; whnf); kernel_rfl; focus (intro w hSw; (try dsimp only at hSw); go_simp; all_goals with_reducible rfl)
        simp only [Act.put, List.setIfInBounds_toArray, List.set_cons_zero, List.set_cons_succ]
        refine tk (oi := ?_) (v := ?_) 3 hP (by kernel_rfl) ?_ ?_ ?_ hHeld ?_; rotate_left 2
        (conv => lhs; whnf; arg 1; whnf); kernel_rfl; focus (intro w hSw; (try dsimp only at hSw); go_simp; all_goals with_reducible rfl)
        simp only [Act.put, List.setIfInBounds_toArray, List.set_cons_zero, List.set_cons_succ]
        refine tk (oi := ?_) (v := ?_) 4 hP (by kernel_rfl) ?_ ?_ ?_ hHeld ?_; rotate_left 2
        (conv => lhs; whnf; arg 1; whnf); kernel_rfl; focus (intro w hSw; (try dsimp only at hSw); go_simp; all_goals with_reducible rfl)
        simp only [Act.put, List.setIfInBounds_toArray, List.set_cons_zero, List.set_cons_succ]
        refine tk (oi := ?_) (v := ?_) 5 hP (by kernel_rfl) ?_ ?_ ?_ hHeld ?_; rotate_left 2
        (conv => lhs; whnf; arg 1; whnf); kernel_rfl; focus (intro w hSw; (try dsimp only at hSw); go_simp; all_goals with_reducible rfl)
        simp only [Act.put, List.setIfInBounds_toArray, List.set_cons_zero, List.set_cons_succ]
        refine tk (oi := ?_) (v := ?_) 6 hP (by kernel_rfl) ?_ ?_ ?_ hHeld ?_; rotate_left 2
        (conv => lhs; whnf; arg 1; whnf); kernel_rfl; focus (intro w hSw; (try dsimp only at hSw); go_simp; all_goals with_reducible rfl)
        simp only [Act.put, List.setIfInBounds_toArray, List.set_cons_zero, List.set_cons_succ]
        refine tk (oi := ?_) (v := ?_) 7 hP (by kernel_rfl) ?_ ?_ ?_ hHeld ?_; rotate_left 2
        (conv => lhs; whnf; arg 1; whnf); kernel_rfl; focus (intro w hSw; (try dsimp only at hSw); go_simp; all_goals with_reducible rfl)
        simp only [Act.put, List.setIfInBounds_toArray, List.set_cons_zero, List.set_cons_succ]
        refine tk (oi := ?_) (v := ?_) 8 hP (by kernel_rfl) ?_ ?_ ?_ hHeld ?_; rotate_left 2
        (conv => lhs; whnf; arg 1; whnf); kernel_rfl; focus (intro w hSw; (try dsimp only at hSw); go_simp; all_goals with_reducible rfl)
        simp only [Act.put, List.setIfInBounds_toArray, List.set_cons_zero, List.set_cons_succ]
        refine tk (oi := ?_) (v := ?_) 9 hP (by kernel_rfl) ?_ ?_ ?_ hHeld ?_; rotate_left 2
        (conv => lhs; whnf; arg 1; whnf); kernel_rfl; focus (intro w hSw; (try dsimp only at hSw); go_simp; all_goals with_reducible rfl)
        simp only [Act.put, List.setIfInBounds_toArray, List.set_cons_zero, List.set_cons_succ]
        refine tk (oi := ?_) (v := ?_) 10 hP (by kernel_rfl) ?_ ?_ ?_ hHeld ?_; rotate_left 2
        (conv => lhs; whnf; arg 1; whnf); kernel_rfl; focus (intro w hSw; (try dsimp only at hSw); go_simp; all_goals with_reducible rfl)
        simp only [Act.put, List.setIfInBounds_toArray, List.set_cons_zero, List.set_cons_succ]
        refine tk (oi := ?_) (v := ?_) 11 hP (by kernel_rfl) ?_ ?_ ?_ hHeld ?_; rotate_left 2
        (conv => lhs; whnf; arg 1; whnf); kernel_rfl; focus (intro w hSw; (try dsimp only at hSw); go_simp; all_goals with_reducible rfl)
        simp only [Act.put, List.setIfInBounds_toArray, List.set_cons_zero, List.set_cons_succ]
        refine tk (oi := ?_) (v := ?_) 12 hP (by kernel_rfl) ?_ ?_ ?_ hHeld ?_; rotate_left 2
        (conv => lhs; whnf; arg 1; whnf); kernel_rfl; focus (intro w hSw; (try dsimp only at hSw); go_simp; all_goals with_reducible rfl)
        simp only [Act.put, List.setIfInBounds_toArray, List.set_cons_zero, List.set_cons_succ]
        refine tk (oi := ?_) (v := ?_) 14 hP (by kernel_rfl) ?_ ?_ ?_ hHeld ?_; rotate_left 2
        (conv => lhs; whnf; arg 1; whnf); kernel_rfl; focus (intro w hSw; (try dsimp only at hSw); go_simp; all_goals with_reducible rfl)
        simp only [Act.put, List.setIfInBounds_toArray, List.set_cons_zero, List.set_cons_succ]
        refine tk (oi := ?_) (v := ?_) 15 hP (by kernel_rfl) ?_ ?_ ?_ hHeld ?_; rotate_left 2
        (conv => lhs; whnf; arg 1; whnf); kernel_rfl; focus (intro w hSw; (try dsimp only at hSw); go_simp; all_goals with_reducible rfl)
        simp only [Act.put, List.setIfInBounds_toArray, List.set_cons_zero, List.set_cons_succ]
        refine st (oi := ?_) 13 (by kernel_rfl) ?_ (fun KK hK => ?_); rotate_left; (conv => lhs; whnf; arg 1; whnf)
        go_simp
        with_reducible refine (S1.out _).mono ?_
        rintro e wZ ⟨rfl, hbX⟩
        replace hacc := hacc.trans (hbX.mono hacc.size)
        replace bA := bA.below hbX
        replace bB := bB.below hbX
        replace bC := bC.below hbX
        clear hbX
        (first | refine hK.out _ _ ?_ (fun hHeldN => ?_) | (go_wp2_with fail; refine hK.out _ _ ?_ (fun hHeldN => ?_)))
        · try dsimp only
          with_reducible exact ⟨bA.at 0 rfl, bA.at 1 rfl, bA.at 2 rfl, bB.at 0 rfl, bB.at 1 rfl, bB.at 2 rfl, bC.at 0 rfl, bC.at 1 rfl, bC.at 2 rfl⟩
        clear hK KK hHeld
        have hHeld := hHeldN
        clear hHeldN
        try simp only [Act.put, List.setIfInBounds_toArray, List.set_cons_zero, List.set_cons_succ]
        refine st (oi := ?_) 16 (by kernel_rfl) ?_ (fun KK hK => ?_); rotate_left; (conv => lhs; whnf; arg 1; whnf)
        go_simp
        with_reducible refine (N2.out _).mono ?_
        rintro e wZ ⟨rfl, hbX⟩
        replace hacc := hacc.trans (hbX.mono hacc.size)
        replace bA := bA.below hbX
        replace bB := bB.below hbX
        replace bC := bC.below hbX
        clear hbX
        (first | refine hK.out _ _ ?_ (fun hHeldN => ?_) | (go_wp2_with fail; refine hK.out _ _ ?_ (fun hHeldN => ?_)))
        · try dsimp only
          with_reducible exact ⟨bA.at 0 rfl, bA.at 1 rfl, bA.at 2 rfl, bB.at 0 rfl, bB.at 1 rfl, bB.at 2 rfl, bC.at 0 rfl, bC.at 1 rfl, bC.at 2 rfl⟩
        clear hK KK hHeld
        have hHeld := hHeldN
        clear hHeldN
        try simp only [Act.put, List.setIfInBounds_toArray, List.set_cons_zero, List.set_cons_succ]
        refine st (oi := ?_) 17 (by kernel_rfl) ?_ (fun KK hK => ?_); rotate_left; (conv => lhs; whnf; arg 1; whnf)
        go_simp
        with_reducible refine (A9.out _).mono ?_
        rintro e wZ ⟨rfl, hbX⟩
        replace hacc := hacc.trans (hbX.mono hacc.size)
        replace bA := bA.below hbX
        replace bB := bB.below hbX
        replace bC := bC.below hbX
        clear hbX
        (first | refine hK.out _ _ ?_ (fun hHeldN => ?_) | (go_wp2_with fail; refine hK.out _ _ ?_ (fun hHeldN => ?_)))
        · try dsimp only
          with_reducible exact ⟨bA.at 0 rfl, bA.at 1 rfl, bA.at 2 rfl, bB.at 0 rfl, bB.at 1 rfl, bB.at 2 rfl, bC.at 0 rfl, bC.at 1 rfl, bC.at 2 rfl⟩
        clear hK KK hHeld
        have hHeld := hHeldN
        clear hHeldN
        try simp only [Act.put, List.setIfInBounds_toArray, List.set_cons_zero, List.set_cons_succ]
        refine tk (oi := ?_) (v := ?_) 18 hP (by kernel_rfl) ?_ ?_ ?_ hHeld ?_; rotate_left 2
        (conv => lhs; whnf; arg 1; whnf); kernel_rfl; focus (intro w hSw; (try dsimp only at hSw); go_simp; all_goals with_reducible rfl)
        simp only [Act.put, List.setIfInBounds_toArray, List.set_cons_zero, List.set_cons_succ]
        refine tk (oi := ?_) (v := ?_) 19 hP (by kernel_rfl) ?_ ?_ ?_ hHeld ?_; rotate_left 2
        (conv => lhs; whnf; arg 1; whnf); kernel_rfl; focus (intro w hSw; (try dsimp only at hSw); go_simp; all_goals with_reducible rfl)
        simp only [Act.put, List.setIfInBounds_toArray, List.set_cons_zero, List.set_cons_succ]
        refine tk (oi := ?_) (v := ?_) 20 hP (by kernel_rfl) ?_ ?_ ?_ hHeld ?_; rotate_left 2
        (conv => lhs; whnf; arg 1; whnf); kernel_rfl; focus (intro w hSw; (try dsimp only at hSw); go_simp; all_goals with_reducible rfl)
        simp only [Act.put, List.setIfInBounds_toArray, List.set_cons_zero, List.set_cons_succ]
        refine tk (oi := ?_) (v := ?_) 21 hP (by kernel_rfl) ?_ ?_ ?_ hHeld ?_; rotate_left 2
        (conv => lhs; whnf; arg 1; whnf); kernel_rfl; focus (intro w hSw; (try dsimp only at hSw); go_simp; all_goals with_reducible rfl)
        simp only [Act.put, List.setIfInBounds_toArray, List.set_cons_zero, List.set_cons_succ]
        refine tk (oi := ?_) (v := ?_) 22 hP (by kernel_rfl) ?_ ?_ ?_ hHeld ?_; rotate_left 2
        (conv => lhs; whnf; arg 1; whnf); kernel_rfl; focus (intro w hSw; (try dsimp only at hSw); go_simp; all_goals with_reducible rfl)
        simp only [Act.put, List.setIfInBounds_toArray, List.set_cons_zero, List.set_cons_succ]
        refine tk (oi := ?_) (v := ?_) 23 hP (by kernel_rfl) ?_ ?_ ?_ hHeld ?_; rotate_left 2
        (conv => lhs; whnf; arg 1; whnf); kernel_rfl; focus (intro w hSw; (try dsimp only at hSw); go_simp; all_goals with_reducible rfl)
        simp only [Act.put, List.setIfInBounds_toArray, List.set_cons_zero, List.set_cons_succ]
        refine tk (oi := ?_) (v := ?_) 26 hP (by kernel_rfl) ?_ ?_ ?_ hHeld ?_; rotate_left 2
        (conv => lhs; whnf; arg 1; whnf); kernel_rfl; focus (intro w hSw; (try dsimp only at hSw); go_simp; all_goals with_reducible rfl)
        simp only [Act.put, List.setIfInBounds_toArray, List.set_cons_zero, List.set_cons_succ]
        refine tk (oi := ?_) (v := ?_) 27 hP (by kernel_rfl) ?_ ?_ ?_ hHeld ?_; rotate_left 2
        (conv => lhs; whnf; arg 1; whnf); kernel_rfl; focus (intro w hSw; (try dsimp only at hSw); go_simp; all_goals with_reducible rfl)
        simp only [Act.put, List.setIfInBounds_toArray, List.set_cons_zero, List.set_cons_succ]
        refine tk (oi := ?_) (v := ?_) 29 hP (by kernel_rfl) ?_ ?_ ?_ hHeld ?_; rotate_left 2
        (conv => lhs; whnf; arg 1; whnf); kernel_rfl; focus (intro w hSw; (try dsimp only at hSw); go_simp; all_goals with_reducible rfl)
        simp only [Act.put, List.setIfInBounds_toArray, List.set_cons_zero, List.set_cons_succ]
        refine st (oi := ?_) 24 (by kernel_rfl) ?_ (fun KK hK => ?_); rotate_left; (conv => lhs; whnf; arg 1; whnf)
        go_simp
        have kgL := hacc.size
        replace hacc := hacc.alloc hacc.size (.cells #[.bool sp, .string np, .string dp, .bool sq, .string nq, .string dq, .bool sc, .string nc, .string dc] 27)
        replace bA := bA.alloc (.cells #[.bool sp, .string np, .string dp, .bool sq, .string nq, .string dq, .bool sc, .string nc, .string dc] 27)
        replace bB := bB.alloc (.cells #[.bool sp, .string np, .string dp, .bool sq, .string nq, .string dq, .bool sc, .string nc, .string dc] 27)
        replace bC := bC.alloc (.cells #[.bool sp, .string np, .string dp, .bool sq, .string nq, .string dq, .bool sc, .string nc, .string dc] 27)
        have bL := Rx.new (wZ) _ rfl [.bool sp, .string np, .string dp, .bool sq, .string nq, .string dq, .bool sc, .string nc, .string dc] 27
        generalize wZ.heap.size = gL at *
        generalize wZ.alloc (.cells #[.bool sp, .string np, .string dp, .bool sq, .string nq, .string dq, .bool sc, .string nc, .string dc] 27) = WgL at *
        (first | refine hK.out _ _ ?_ (fun hHeldN => ?_) | (go_wp2_with fail; refine hK.out _ _ ?_ (fun hHeldN => ?_)))
        · try dsimp only
          with_reducible exact ⟨bA.at 0 rfl, bA.at 1 rfl, bA.at 2 rfl, bB.at 0 rfl, bB.at 1 rfl, bB.at 2 rfl, bC.at 0 rfl, bC.at 1 rfl, bC.at 2 rfl⟩
        clear hK KK hHeld
        have hHeld := hHeldN
        clear hHeldN
        try simp only [Act.put, List.setIfInBounds_toArray, List.set_cons_zero, List.set_cons_succ]
        refine st (oi := ?_) 25 (by kernel_rfl) ?_ (fun KK hK => ?_); rotate_left; (conv => lhs; whnf; arg 1; whnf)
        go_simp
        with_reducible refine (SU.out _ _ (fld_raws bL)).mono ?_
        rintro e wZ ⟨rfl, hbX⟩
        replace hacc := hacc.trans (hbX.mono hacc.size)
        replace bA := bA.below hbX
        replace bB := bB.below hbX
        replace bC := bC.below hbX
        replace bL := bL.below hbX
        clear hbX
        (first | refine hK.out _ _ ?_ (fun hHeldN => ?_) | (go_wp2_with fail; refine hK.out _ _ ?_ (fun hHeldN => ?_)))
        · try dsimp only
          with_reducible exact ⟨bA.at 0 rfl, bA.at 1 rfl, bA.at 2 rfl, bB.at 0 rfl, bB.at 1 rfl, bB.at 2 rfl, bC.at 0 rfl, bC.at 1 rfl, bC.at 2 rfl⟩
        clear hK KK hHeld
        have hHeld := hHeldN
        clear hHeldN
        try simp only [Act.put, List.setIfInBounds_toArray, List.set_cons_zero, List.set_cons_succ]
        refine st (oi := ?_) 28 (by kernel_rfl) ?_ (fun KK hK => ?_); rotate_left; (conv => lhs; whnf; arg 1; whnf)
        go_simp
        with_reducible refine (A1.out _).mono ?_
        rintro e wZ ⟨rfl, hbX⟩
        replace hacc := hacc.trans (hbX.mono hacc.size)
        replace bA := bA.below hbX
        replace bB := bB.below hbX
        replace bC := bC.below hbX
        replace bL := bL.below hbX
        clear hbX
        (first | refine hK.out _ _ ?_ (fun hHeldN => ?_) | (go_wp2_with fail; refine hK.out _ _ ?_ (fun hHeldN => ?_)))
        · try dsimp only
          with_reducible exact ⟨bA.at 0 rfl, bA.at 1 rfl, bA.at 2 rfl, bB.at 0 rfl, bB.at 1 rfl, bB.at 2 rfl, bC.at 0 rfl, bC.at 1 rfl, bC.at 2 rfl⟩
        clear hK KK hHeld
        have hHeld := hHeldN
        clear hHeldN
        try simp only [Act.put, List.setIfInBounds_toArray, List.set_cons_zero, List.set_cons_succ]
        refine st (oi := ?_) 30 (by kernel_rfl) ?_ (fun KK hK => ?_); rotate_left; (conv => lhs; whnf; arg 1; whnf)
        go_simp
        with_reducible refine (A3.out _).mono ?_
        rintro e wZ ⟨rfl, hbX⟩
        replace hacc := hacc.trans (hbX.mono hacc.size)
        replace bA := bA.below hbX
        replace bB := bB.below hbX
        replace bC := bC.below hbX
        replace bL := bL.below hbX
        clear hbX
        (first | refine hK.out _ _ ?_ (fun hHeldN => ?_) | (go_wp2_with fail; refine hK.out _ _ ?_ (fun hHeldN => ?_)))
        · try dsimp only
          with_reducible exact ⟨bA.at 0 rfl, bA.at 1 rfl, bA.at 2 rfl, bB.at 0 rfl, bB.at 1 rfl, bB.at 2 rfl, bC.at 0 rfl, bC.at 1 rfl, bC.at 2 rfl⟩
        clear hK KK hHeld
        have hHeld := hHeldN
        clear hHeldN
        try simp only [Act.put, List.setIfInBounds_toArray, List.set_cons_zero, List.set_cons_succ]
        refine tk (oi := ?_) (v := ?_) 31 hP (by kernel_rfl) ?_ ?_ ?_ hHeld ?_; rotate_left 2
        (conv => lhs; whnf; arg 1; whnf); kernel_rfl; focus (intro w hSw; (try dsimp only at hSw); go_simp; all_goals with_reducible rfl)
        simp only [Act.put, List.setIfInBounds_toArray, List.set_cons_zero, List.set_cons_succ]
        refine tk (oi := ?_) (v := ?_) 32 hP (by kernel_rfl) ?_ ?_ ?_ hHeld ?_; rotate_left 2
        (conv => lhs; whnf; arg 1; whnf); kernel_rfl; focus (intro w hSw; (try dsimp only at hSw); go_simp; all_goals with_reducible rfl)
        simp only [Act.put, List.setIfInBounds_toArray, List.set_cons_zero, List.set_cons_succ]
        refine tk (oi := ?_) (v := ?_) 33 hP (by kernel_rfl) ?_ ?_ ?_ hHeld ?_; rotate_left 2
        (conv => lhs; whnf; arg 1; whnf); kernel_rfl; focus (intro w hSw; (try dsimp only at hSw); go_simp; all_goals with_reducible rfl)
        simp only [Act.put, List.setIfInBounds_toArray, List.set_cons_zero, List.set_cons_succ]
        refine wpAnyH_done (by kernel_rfl) ?_ _
        refine NoPanic.normal ?_
        go_wp2_with fail
        go_ret
        exact ⟨rfl, hacc⟩
end Go.Proofs.YtfbjboehniakcaaGreatDoor
