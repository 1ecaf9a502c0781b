/- The walk of RatioCommon. -/
import Derived.Test.YtfbjboehniakcaaGreatDoorIf
import Derived.Test.YtfbjboehniakcaaGreatDoorIq
import Derived.Test.YtfbjboehniakcaaGreatDoorIo
namespace Go.Proofs.YtfbjboehniakcaaGreatDoor
open Go.RowKit W
open Pl (bval enc bv nb bv_nb nb_size_le nb_size_zero nb_size_mono nb_bv_size bv_lt cmpN nb_inj)
open Rq
/-- what was known of a world is known behind whatever leaves its blocks alone -/
theorem chk {p : World → Prop} {w : World} (h : ∀ W', Below w.heap.size w W' → p W') : ∃ W2, Below W2.heap.size W2 w ∧ Hid (∀ W', Below W2.heap.size W2 W' → p W') := ⟨w, Below.refl _ _, Lib.hid h⟩
/-- the value without its sign -/
def ab (q : Rat) : Rat := mk false q.num.natAbs q.den
theorem ab_num (q : Rat) : (ab q).num = (q.num.natAbs : Int) := by
  rw [ab, mk_num q.den_pos, show Nat.gcd q.num.natAbs q.den = 1 from q.reduced, Nat.div_one]; rfl
theorem ab_den (q : Rat) : (ab q).den = q.den := by
  rw [ab, mk_den q.den_pos, show Nat.gcd q.num.natAbs q.den = 1 from q.reduced, Nat.div_one]
/-- a number without its sign, as parts -/
def gd (x : Raw) : Raw := ⟨false, x.s, x.t⟩
theorem ab_raw (q : Rat) : rawQ (ab q) = gd (rawQ q) := by
  unfold rawQ gd
  rw [ab_num, ab_den, Int.natAbs_natCast]
  rw [decide_eq_false (p := (q.num.natAbs : Int) < 0) (by omega)]
theorem ab_raws (l : List Rat) : (l.map ab).map rawQ = (l.map rawQ).map gd := by
  simp only [List.map_map]; congr 1; funext q; exact ab_raw q
theorem Sz_ab {q : Rat} {k : Nat} (h : Sz q k) : Sz (ab q) k := ⟨by rw [ab_num, Int.natAbs_natCast]; exact h.n, by rw [ab_den]; exact h.d⟩
theorem com_ab : ∀ (l : List Rat) (d k : Nat), 0 < d → (nb d).size ≤ k → (∀ q ∈ l, Sz q 24) → ∃ D, comD ((l.map ab).map rawQ) d = some D ∧ 0 < D ∧ d ∣ D ∧ (∀ q ∈ l, q.den ∣ D) ∧ (nb D).size ≤ k + 24 * l.length
  | [], d, k, h, hk, _ => ⟨d, rfl, h, Nat.dvd_refl _, by simp, by simpa using hk⟩
  | q :: l, d, k, h, hk, hz => by
    have hb : rawB (rawQ (ab q)).neg (rawQ (ab q)).s (rawQ (ab q)).t = true := rawB_rat (ab q)
    have hn : (rawQ (ab q)).neg = false := by rw [ab_raw]; rfl
    have ht : bv (rawQ (ab q)).t = q.den := by rw [ab_raw]; exact bv_nb _
    have hg : 0 < Nat.gcd d q.den := Nat.gcd_pos_of_pos_left _ h
    have hd : q.den / Nat.gcd d q.den * Nat.gcd d q.den = q.den := Nat.div_mul_cancel (Nat.gcd_dvd_right _ _)
    have hq := q.den_pos
    have h2 : 0 < d * (q.den / Nat.gcd d q.den) := Nat.mul_pos h (Nat.div_pos (Nat.le_of_dvd hq (Nat.gcd_dvd_right _ _)) hg)
    have h3 : (nb (d * (q.den / Nat.gcd d q.den))).size ≤ k + 24 := size_mul hk (div_size (hz q (by simp)).d)
    have hdv : q.den ∣ d * (q.den / Nat.gcd d q.den) := by
      obtain ⟨c, hc⟩ := Nat.gcd_dvd_left d q.den
      refine ⟨c, ?_⟩
      calc d * (q.den / Nat.gcd d q.den) = (Nat.gcd d q.den * c) * (q.den / Nat.gcd d q.den) := by rw [← hc]
        _ = (q.den / Nat.gcd d q.den * Nat.gcd d q.den) * c := by rw [Nat.mul_comm (Nat.gcd d q.den) c, Nat.mul_assoc, Nat.mul_comm c, Nat.mul_comm (Nat.gcd d q.den)]
        _ = q.den * c := by rw [hd]
    obtain ⟨D, e1, e2, e3, e4, e5⟩ := com_ab l _ _ h2 h3 (fun x hx => hz x (by simp [hx]))
    refine ⟨D, ?_, e2, Nat.dvd_trans (Nat.dvd_mul_right _ _) e3, ?_, by simp only [List.length_cons]; omega⟩
    · simp only [List.map_cons]
      rw [comD, if_pos ⟨hb, hn⟩, ht]
      exact e1
    · intro x hx
      rcases List.mem_cons.1 hx with rfl | hx
      · exact Nat.dvd_trans hdv e3
      · exact e4 x hx
theorem ab_whole (q : Rat) {D : Nat} (hD : 0 < D) (h : q.den ∣ D) : mk false (q.num.natAbs * (D / q.den)) D = ab q := by
  obtain ⟨c, rfl⟩ := h
  have hq := q.den_pos
  have hc : c ≠ 0 := by rintro rfl; simp at hD
  rw [Nat.mul_div_cancel_left _ hq]
  unfold ab mk
  rw [show sgN false (q.num.natAbs * c) = sgN false q.num.natAbs * (c : Int) by simp [sgN]]
  exact Rat.mkRat_mul_right hc
theorem Rx.kept {w w' : World} {g : Nat} {vs : List Value} {row : Option Nat} (h : Rx w g vs) (hg : w.grownBy w' row) (hne : row ≠ some g) : Rx w' g vs :=
  ⟨Nat.lt_of_lt_of_le h.1 hg.size, fun i _ hv => ⟨(World.cell?_of_block (hg.block g h.1 (fun e => hne e.symm))).trans (h.at i hv), (World.frozen?_of_block (hg.block g h.1 (fun e => hne e.symm))).trans (h.fr i hv)⟩⟩
theorem grown_set (w : World) (p : Addr) (u : Value) : w.grownBy (w.setCell p u) (some p.block) := by
  have h := (Below.refl 0 w).setCell (p := p) (Nat.zero_le _) u
  exact ⟨h.os, h.tape, h.output, h.size, fun k _ hk => Below.heap_setCell w p u k (fun e => hk (by rw [e]))⟩
theorem Rats.other {w : World} {B : Nat} {v : Value} {l : List Raw} (h : Rats w B v l) {p : Addr} (hne : ∀ k, v.ownBlock = some k → k ≠ p.block) (u : Value) : Rats (w.setCell p u) B v l :=
  h.kept (grown_set w p u) (fun k hk e => hne k hk (by simpa using e.symm))
theorem rx3 {w : World} {g : Nat} {a b c : Value} (h : Rx w g [a, b, c]) : w.cell? ⟨g, 0, none⟩ = some a ∧ w.cell? ⟨g, 1, none⟩ = some b ∧ w.cell? ⟨g, 2, none⟩ = some c := ⟨h.at 0 rfl, h.at 1 rfl, h.at 2 rfl⟩
theorem RawsR.alloc {w : World} {v : Value} {l : List Raw} (h : RawsR w v l) (o : Obj) : RawsR (w.alloc o) v l := h.below ((Below.refl _ _).alloc (Nat.le_refl _) _)
theorem comL_len (l : List Raw) : (comL l).length ≤ l.length := by
  unfold comL
  split
  · simp
  · simp
/-- three cells of a row -/
structure Cl3 (w : World) (b o : Nat) (x y z : Value) : Prop where
  c0 : w.cell? ⟨b, o, none⟩ = some x
  c1 : w.cell? ⟨b, o + 1, none⟩ = some y
  c2 : w.cell? ⟨b, o + 1 + 1, none⟩ = some z
theorem Cl3.below {w w' : World} {b o : Nat} {x y z : Value} (h : Cl3 w b o x y z) (hb : Below w.heap.size w w') : Cl3 w' b o x y z :=
  have hl : b < w.heap.size := World.block_lt_of_cell? w _ h.c0
  ⟨(hb.cell (p := ⟨b, _, none⟩) hl).trans h.c0, (hb.cell (p := ⟨b, _, none⟩) hl).trans h.c1, (hb.cell (p := ⟨b, _, none⟩) hl).trans h.c2⟩
theorem Cl3.alloc {w : World} {b o' : Nat} {x y z : Value} (h : Cl3 w b o' x y z) (o : Obj) : Cl3 (w.alloc o) b o' x y z := h.below ((Below.refl _ _).alloc (Nat.le_refl _) _)
theorem Cl3.drew {w : World} {b o : Nat} {x y z : Value} (h : Cl3 w b o x y z) : Cl3 w.drew b o x y z := h.below ((Below.refl _ _).drew)
theorem gd_take (l : List Raw) (k : Nat) (hk : k < l.length) : (l.map gd).take (k + 1) = (l.map gd).take k ++ [⟨false, l[k].s, l[k].t⟩] := take_map_succ l gd k hk
set_option maxRecDepth 100000 in
set_option maxHeartbeats 16000000 in
theorem rcomm_walk (l : List T3) (v : Value) (rn : Bool) (rs rt : ByteArray) (w : World) (hT : TripR w v l) (hG : GR w) :
    Calls Tryz.prog 5 #[v, .agg #[.bool rn, .string rs, .string rt]] w fun e w' => e = .returned (.bool true) ∧ Below w.heap.size w w' := by
  go_enter Tryz.func5, Tryz.ntmps5
  have bW : Rx (w.alloc (.cells #[.bool rn, .string rs, .string rt] 27)) (w.heap.size) [.bool rn, .string rs, .string rt] := (Rx.new w _ rfl [.bool rn, .string rs, .string rt] 27)
  have hacc := ((Below.refl w.heap.size w).alloc (Nat.le_refl w.heap.size) (.cells #[.bool rn, .string rs, .string rt] 27))
  go_upto_region 1 with fail
  generalize w.alloc (.cells #[.bool rn, .string rs, .string rt] 27) = W0 at *
  obtain ⟨gW, hgW⟩ : ∃ g, g = w.heap.size := ⟨_, rfl⟩
  rw [← hgW] at bW
  simp only [← hgW]
  have kgW : w.heap.size ≤ gW := by omega
  clear hgW
  go_wp2_with fail
  with_reducible refine (sanity2_any _ (hG.below hacc)).mono ?_
  rintro e wZ ⟨rfl, hbX⟩
  replace hacc := hacc.trans (hbX.mono hacc.size)
  replace bW := bW.below hbX
  clear hbX
  obtain ⟨r1, hr1, hr1l, hr11⟩ : ∃ r : Nat, min (rs.size : Int) 10 = r ∧ r ≤ rs.size ∧ r ≤ 10 := ⟨min rs.size 10, by omega, by omega, by omega⟩
  have hr10 : (0 : Int) ≤ (r1 : Int) := by omega
  have hr12 : (r1 : Int) ≤ (rs.size : Int) := by omega
  obtain ⟨r2, hr2, hr2l, hr21⟩ : ∃ r : Nat, min (rt.size : Int) 10 = r ∧ r ≤ rt.size ∧ r ≤ 10 := ⟨min rt.size 10, by omega, by omega, by omega⟩
  have hr20 : (0 : Int) ≤ (r2 : Int) := by omega
  have hr22 : (r2 : Int) ≤ (rt.size : Int) := by omega
  have cgW0 := bW.at 0 rfl
  have fgW0 := bW.fr 0 rfl
  have cgW1 := bW.at 1 rfl
  have fgW1 := bW.fr 1 rfl
  have cgW2 := bW.at 2 rfl
  have fgW2 := bW.fr 2 rfl
  go_upto_region 2 with fail
  replace hacc := hacc.setCell (p := ⟨gW, 1, none⟩) kgW (.string (rs.extract 0 r1))
  replace bW := bW.put 1 (.string (rs.extract 0 r1)) (by simp)
  simp only [List.set] at bW
  go_upto_region 3 with fail
  clear cgW0 fgW0 cgW1 fgW1 cgW2 fgW2
  generalize wZ.setCell ⟨gW, 1, none⟩ (.string (rs.extract 0 r1)) = WS at *
  have cgW0 := bW.at 0 rfl
  have fgW0 := bW.fr 0 rfl
  have cgW1 := bW.at 1 rfl
  have fgW1 := bW.fr 1 rfl
  have cgW2 := bW.at 2 rfl
  have fgW2 := bW.fr 2 rfl
  replace hacc := hacc.setCell (p := ⟨gW, 2, none⟩) kgW (.string (rt.extract 0 r2))
  replace bW := bW.put 2 (.string (rt.extract 0 r2)) (by simp)
  simp only [List.set] at bW
  go_upto_region 4 with fail
  clear cgW0 fgW0 cgW1 fgW1 cgW2 fgW2
  generalize WS.setCell ⟨gW, 2, none⟩ (.string (rt.extract 0 r2)) = WS at *
  have sr1 : (rs.extract 0 r1).size ≤ 10 := by simp; omega
  have sr2 : (rt.extract 0 r2).size ≤ 10 := by simp; omega
  generalize rs.extract 0 r1 = s1 at *
  generalize rt.extract 0 r2 = s2 at *
  clear hr1 hr1l hr11 hr10 hr12 hr2 hr2l hr21 hr20 hr22
  have hsz := hacc.size
  go_wp2_with fail
  with_reducible refine (rlist_any l v _ (hT.below hacc)).mono ?_
  rintro e wZ ⟨⟨va, qs, rfl, hA, hql, hqz⟩, hbX⟩
  replace hacc := hacc.trans (hbX.mono hacc.size)
  replace bW := bW.below hbX
  clear hbX
  replace hA := hA.mono hsz
  clear hsz hT
  obtain ⟨D, hD1, hD2, _, hD4, hD5⟩ := com_ab qs 1 8 (by decide) (nbs (by decide) (by decide)) hqz
  have hC := Lib.hid (com_some hD1)
  rw [ab_raws] at hC
  have HSU := Lib.hid (fun (u : Value) (W : World) (h : RawsR W u ((qs.map ab).map rawQ)) => asum_any (qs.map ab) u W h (by rw [List.length_map]; omega) (by
    intro x hx
    obtain ⟨q, hq, rfl⟩ := List.mem_map.1 hx
    exact (Sz_ab (hqz q hq)).mono (by decide)))
  rw [ab_raws] at HSU
  have HTS := Lib.hid (Sz_tot 0 (qs.map ab) (by exact (Sz_int (n := 0) (by decide) (by decide)).mono (by decide)) (by
    intro x hx
    obtain ⟨q, hq, rfl⟩ := List.mem_map.1 hx
    exact (Sz_ab (hqz q hq)).mono (by decide)))
  have HTT := Lib.hid (tot_take 0 (qs.map ab))
  have hEL : ∀ k (hk : k < qs.length) (x : Raw), (qs.map rawQ)[k]? = some x → nb (bv x.s * (D / bv x.t)) = nb (qs[k].num.natAbs * (D / qs[k].den)) ∧ mk false (qs[k].num.natAbs * (D / qs[k].den)) D = ab qs[k] ∧ Sz (ab qs[k]) 24 ∧ (nb (qs[k].num.natAbs * (D / qs[k].den))).size ≤ 1000 ∧ gd x = rawQ (ab qs[k]) := by
    intro k hk x hx
    have hm : qs[k] ∈ qs := List.getElem_mem _
    simp only [List.getElem?_map, List.getElem?_eq_getElem hk, Option.map_some, Option.some.injEq] at hx
    subst hx
    refine ⟨?_, ab_whole _ hD2 (hD4 _ hm), Sz_ab (hqz _ hm), ?_, (ab_raw _).symm⟩
    · simp only [rawQ, bv_nb]
    · have := size_mul (hqz _ hm).n (div_size (y := qs[k].den) hD5)
      omega
  have hDs : (nb D).size ≤ 1000 := by omega
  have hLs : ∀ x ∈ qs.map rawQ, x.s.size ≤ 1000 ∧ x.t.size ≤ 1000 := by
    intro x hx
    obtain ⟨q, hq, rfl⟩ := List.mem_map.1 hx
    exact ⟨Nat.le_trans (hqz q hq).n (by decide), Nat.le_trans (hqz q hq).d (by decide)⟩
  clear hD1 hD4 hD5 hqz
  have hLL : (qs.map rawQ).length = qs.length := List.length_map _
  obtain ⟨L, hL⟩ : ∃ L, L = qs.map rawQ := ⟨_, rfl⟩
  rw [← hL] at hA hC HSU hLs hLL
  simp only [← hL] at hEL
  have HEL := Lib.hid hEL
  have HLs := Lib.hid hLs
  clear hL hEL hLs
  have hLn : L.length ≤ 12 := by omega
  have HLQ := Lib.hid hLL
  clear hLL hql
  obtain ⟨aA, cA, rfl⟩ := hA.form
  go_wp2_with fail
  obtain ⟨W1, hW1⟩ : ∃ W1, W1 = wZ := ⟨_, rfl⟩
  rw [← hW1]
  simp only [← hW1] at hA bW hacc
  clear hW1
  go_loopw [7, 8] (fun o i wr => ∃ k : Nat, k ≤ L.length ∧ i = .int .i64 k ∧ Rats wr W1.heap.size o ((L.map gd).take k) ∧ Below W1.heap.size W1 wr) (fun _ i _ => L.length - (intOf i).toNat)
  case atStart => exact ⟨0, by omega, rfl, Rats.nil _ _, Below.refl _ _⟩
  case round =>
    obtain ⟨k, hk, rfl, hR, hb1⟩ := hrel
    by_cases hlt : k < L.length
    · obtain ⟨b, hba, hbl, hc⟩ : ∃ b, aA = some ⟨b, 0, none⟩ ∧ b < wr.heap.size ∧ (wr.cell? ⟨b, k * 3, none⟩ = some (.bool L[k].neg) ∧ wr.cell? ⟨b, k * 3 + 1, none⟩ = some (.string L[k].s) ∧ wr.cell? ⟨b, k * 3 + 1 + 1, none⟩ = some (.string L[k].t)) := by
        obtain ⟨a, c, e, h⟩ := (hA.below hb1).raws
        cases e
        obtain ⟨b, e, hl, hc⟩ := h (by omega)
        exact ⟨b, e, hl, hc k hlt⟩
      subst hba
      obtain ⟨c0, c1, c2⟩ := hc
      have hT := Lib.hid (gd_take L k hlt)
      have hln : ((L.map gd).take k).length < 900000000 := by simp; omega
      generalize hM : (L.map gd).take k = M at *
      clear hM
      generalize L[k].neg = xn at *
      generalize L[k].s = xs at *
      generalize L[k].t = xt at *
      have hk0 : (0 : Int) ≤ (k : Int) := by omega
      have hk1 : (k : Int) < (L.length : Int) := by omega
      have haccO := Lib.hid hacc
      clear hacc
      obtain ⟨W2, hacc, HK⟩ := chk (w := wr) (fun W' h => And.intro (hR.below h) (hb1.trans (h.mono hb1.size)))
      clear hR hb1
      have kgX := hacc.size
      replace hacc := hacc.alloc hacc.size (.cells #[.bool xn, .string xs, .string xt] 27)
      have bX : Rx (wr.alloc (.cells #[.bool xn, .string xs, .string xt] 27)) wr.heap.size [.bool xn, .string xs, .string xt] := Rx.new wr _ rfl [.bool xn, .string xs, .string xt] 27
      have d0 := bX.at 0 rfl
      have d1 := bX.at 1 rfl
      have d2 := bX.at 2 rfl
      go_upto_region 10 with fail
      generalize wr.heap.size = gX at *
      generalize wr.alloc (.cells #[.bool xn, .string xs, .string xt] 27) = WgX at *
      clear d0 d1 d2 c0 c1 c2
      have cgX0 := bX.at 0 rfl
      have fgX0 := bX.fr 0 rfl
      have cgX1 := bX.at 1 rfl
      have fgX1 := bX.fr 1 rfl
      have cgX2 := bX.at 2 rfl
      have fgX2 := bX.fr 2 rfl
      replace hacc := hacc.setCell (p := ⟨gX, 0, none⟩) kgX (.bool false)
      replace bX := bX.put 0 (.bool false) (by simp)
      simp only [List.set] at bX
      go_upto_region 11 with fail
      clear cgX0 fgX0 cgX1 fgX1 cgX2 fgX2
      generalize WgX.setCell ⟨gX, 0, none⟩ (.bool false) = WS at *
      have cgX0 := bX.at 0 rfl
      have fgX0 := bX.fr 0 rfl
      have cgX1 := bX.at 1 rfl
      have fgX1 := bX.fr 1 rfl
      have cgX2 := bX.at 2 rfl
      have fgX2 := bX.fr 2 rfl
      obtain ⟨hR, hacc⟩ := HK.out _ hacc
      go_wp2_with (at_builtin; refine app_rat (by rfl) (by rfl) (by rfl) (by rfl) W1.heap.size hR hln hacc.size ?_; intro v' w1 hl1 hg1)
      go_wp2_with fail
      go_roundw
      case rel => exact ⟨k + 1, by omega, by go_num, by rw [hT.out]; exact hl1, hacc.grown hg1 hacc.size hR.own⟩
      case measure => simp [intOf]; omega
    · obtain rfl : k = L.length := by omega
      rw [List.take_of_length_le (by simp)] at hR
      replace hacc := hacc.trans (hb1.mono hacc.size)
      replace bW := bW.below hb1
      replace hA := hA.below hb1
      have hA := hA
      obtain ⟨aG, cG, rfl⟩ := hR.form
      rw [show (L.map gd).length = L.length from List.length_map _] at hR ⊢
      clear hb1
      go_upto_region 12 with fail
      have HQ1 := Lib.hid (hA.raws)
      clear hA
      have HA := Lib.hid (fun (W' : World) (h : Below wr.heap.size wr W') => HQ1.out.below h)
      clear HQ1
      obtain ⟨W2, hreg, HK⟩ := chk (w := wr) (fun W' h => And.intro (HA.out W' h) (And.intro (hR.below h) (And.intro (bW.below h) (hacc.trans (h.mono hacc.size)))))
      clear HA hR bW hacc
      go_cut [10] (fun s wx => ∃ (gT n3 : Nat) (a3 : Option Addr) (c3 : Nat), s = .pointer (some ⟨gT, 0, none⟩) ∧ n3 = L.length + 1 ∧ Rx wx gT [.slice aA L.length cA, .slice aG L.length cG, .slice a3 n3 c3] ∧ RawsR wx (.slice aA L.length cA) L ∧ RawsR wx (.slice aG L.length cG) (L.map gd) ∧ RawsR wx (.slice a3 n3 c3) (L.map gd ++ [⟨rn, s1, s2⟩]) ∧ Below w.heap.size w wx)
      case first =>
        have hacc := hreg
        clear hreg
        replace hacc := hacc.drew
        refine wp_held (S := (fun w' => w'.cell? ⟨gW, 0, none⟩ = some (.bool rn) ∧ w'.cell? ⟨gW, 1, none⟩ = some (.string s1) ∧ w'.cell? ⟨gW, 2, none⟩ = some (.string s2))) (by kernel_rfl) (fun hP WD hWD => ?_)
        simp only [← hWD.out] at hacc
        clear hWD
        refine ⟨?_, fun hHeld => ?_⟩
        · try dsimp only
          with_reducible exact rx3 (HK.out _ hacc).2.2.1
        refine tk (oi := ?_) (v := ?_) 0 hP (by kernel_rfl) ?_ ?_ ?_ hHeld ?_; rotate_left 2
        (conv => lhs; whnf; arg 1; whnf); kernel_rfl; focus (intro w hSw; (try dsimp only at hSw); go_simp; all_goals with_reducible rfl)
        simp only [Act.put, List.setIfInBounds_toArray, List.set_cons_zero, List.set_cons_succ]
        refine tk (oi := ?_) (v := ?_) 1 hP (by kernel_rfl) ?_ ?_ ?_ hHeld ?_; rotate_left 2
        (conv => lhs; whnf; arg 1; whnf); kernel_rfl; focus (intro w hSw; (try dsimp only at hSw); go_simp; all_goals with_reducible rfl)
        simp only [Act.put, List.setIfInBounds_toArray, List.set_cons_zero, List.set_cons_succ]
        refine tk (oi := ?_) (v := ?_) 3 hP (by kernel_rfl) ?_ ?_ ?_ hHeld ?_; rotate_left 2
        (conv => lhs; whnf; arg 1; whnf); kernel_rfl; focus (intro w hSw; (try dsimp only at hSw); go_simp; all_goals with_reducible rfl)
        simp only [Act.put, List.setIfInBounds_toArray, List.set_cons_zero, List.set_cons_succ]
        refine tk (oi := ?_) (v := ?_) 5 hP (by kernel_rfl) ?_ ?_ ?_ hHeld ?_; rotate_left 2
        (conv => lhs; whnf; arg 1; whnf); kernel_rfl; focus (intro w hSw; (try dsimp only at hSw); go_simp; all_goals with_reducible rfl)
        simp only [Act.put, List.setIfInBounds_toArray, List.set_cons_zero, List.set_cons_succ]
        refine wpAnyH_ready (rs := [2, 6, 9]) (by kernel_rfl) (by simp) ?_
        refine AllReadyH.cons (o := ?_) ?_ (fun KK hK => ?_) ?_; rotate_left; (conv => lhs; whnf; arg 1; whnf)
        · go_simp
          have kgE := hacc.size
          have hE : Rats (WD.alloc (.cells #[] 27)) W2.heap.size (.slice (some ⟨WD.heap.size, 0, none⟩) 0 0) [] := Rats.lit WD hacc.size [] (by simp)
          replace hacc := hacc.alloc hacc.size (.cells #[] 27)
          generalize WD.heap.size = gE at *
          generalize WD.alloc (.cells #[] 27) = WgE at *
          (first | refine hK.out _ _ ?_ (fun hHeldN => ?_) | (go_wp2_with fail; refine hK.out _ _ ?_ (fun hHeldN => ?_)))
          · try dsimp only
            with_reducible exact rx3 (HK.out _ hacc).2.2.1
          clear hK KK hHeld
          have hHeld := hHeldN
          clear hHeldN
          try simp only [Act.put, List.setIfInBounds_toArray, List.set_cons_zero, List.set_cons_succ]
          refine wpAnyH_ready (rs := [4, 6, 9]) (by kernel_rfl) (by simp) ?_
          refine AllReadyH.cons (o := ?_) ?_ (fun KK hK => ?_) ?_; rotate_left; (conv => lhs; whnf; arg 1; whnf)
          · have bkT := trivial
            refine step_rats (by rfl) (by rfl) (by rfl) (by rfl) W2.heap.size hE (HK.out _ hacc).2.1 (by simp; omega) hacc.size ?_
            intro vF w4 hF hg4 ho4
            rw [List.nil_append] at hF
            replace hacc := hacc.grown hg4 hacc.size hE.own
            clear hE hg4 ho4 bkT
            (first | refine hK.out _ _ ?_ (fun hHeldN => ?_) | (go_wp2_with fail; refine hK.out _ _ ?_ (fun hHeldN => ?_)))
            · try dsimp only
              with_reducible exact rx3 (HK.out _ hacc).2.2.1
            clear hK KK hHeld
            have hHeld := hHeldN
            clear hHeldN
            try simp only [Act.put, List.setIfInBounds_toArray, List.set_cons_zero, List.set_cons_succ]
            refine wpAnyH_ready (rs := [6, 9]) (by kernel_rfl) (by simp) ?_
            refine AllReadyH.cons (o := ?_) ?_ (fun KK hK => ?_) ?_; rotate_left; (conv => lhs; whnf; arg 1; whnf)
            · go_simp
              have kgL := hacc.size
              have dF := hF.low
              have hL : Rats (w4.alloc (.cells #[.bool rn, .string s1, .string s2] 27)) W2.heap.size (.slice (some ⟨w4.heap.size, 0, none⟩) 1 1) [⟨rn, s1, s2⟩] := Rats.lit w4 hacc.size [⟨rn, s1, s2⟩] (by simp)
              replace hF := hF.alloc (.cells #[.bool rn, .string s1, .string s2] 27)
              replace hacc := hacc.alloc hacc.size (.cells #[.bool rn, .string s1, .string s2] 27)
              generalize w4.heap.size = gL at *
              generalize w4.alloc (.cells #[.bool rn, .string s1, .string s2] 27) = WgL at *
              have xFgL : ∀ k, vF.ownBlock = some k → k ≠ gL := fun k hk => by have := dF k hk; omega
              clear dF
              (first | refine hK.out _ _ ?_ (fun hHeldN => ?_) | (go_wp2_with fail; refine hK.out _ _ ?_ (fun hHeldN => ?_)))
              · try dsimp only
                with_reducible exact rx3 (HK.out _ hacc).2.2.1
              clear hK KK hHeld
              have hHeld := hHeldN
              clear hHeldN
              try simp only [Act.put, List.setIfInBounds_toArray, List.set_cons_zero, List.set_cons_succ]
              refine wpAnyH_ready (rs := [7, 9]) (by kernel_rfl) (by simp) ?_
              refine AllReadyH.cons (o := ?_) ?_ (fun KK hK => ?_) ?_; rotate_left; (conv => lhs; whnf; arg 1; whnf)
              · refine step_rats (by rfl) (by rfl) (by rfl) (by rfl) W2.heap.size hF hL (by simp; omega) hacc.size ?_
                intro v7 w7 hV hg7 ho7
                replace hacc := hacc.grown hg7 hacc.size hF.own
                clear hF hL hg7 ho7
                obtain ⟨a3, c3, e3⟩ : ∃ a c, v7 = .slice a (L.length + 1) c := by
                  obtain ⟨a, c, e⟩ := hV.form
                  exact ⟨a, c, by rw [e]; simp⟩
                subst e3
                (first | refine hK.out _ _ ?_ (fun hHeldN => ?_) | (go_wp2_with fail; refine hK.out _ _ ?_ (fun hHeldN => ?_)))
                · try dsimp only
                  with_reducible exact rx3 (HK.out _ hacc).2.2.1
                clear hK KK hHeld
                have hHeld := hHeldN
                clear hHeldN
                try simp only [Act.put, List.setIfInBounds_toArray, List.set_cons_zero, List.set_cons_succ]
                refine tk (oi := ?_) (v := ?_) 8 hP (by kernel_rfl) ?_ ?_ ?_ hHeld ?_; rotate_left 2
                (conv => lhs; whnf; arg 1; whnf); kernel_rfl; focus (intro w hSw; (try dsimp only at hSw); go_simp; all_goals with_reducible rfl)
                simp only [Act.put, List.setIfInBounds_toArray, List.set_cons_zero, List.set_cons_succ]
                refine st (oi := ?_) 9 (by kernel_rfl) ?_ (fun KK hK => ?_); rotate_left; (conv => lhs; whnf; arg 1; whnf)
                go_simp
                have kgT := hacc.size
                have dV := hV.low
                have bT := Rx.new (w7) _ rfl [.slice none 0 0, .slice none 0 0, .slice none 0 0] 45
                replace hV := hV.alloc (.cells #[.slice none 0 0, .slice none 0 0, .slice none 0 0] 45)
                replace hacc := hacc.alloc hacc.size (.cells #[.slice none 0 0, .slice none 0 0, .slice none 0 0] 45)
                generalize w7.heap.size = gT at *
                generalize w7.alloc (.cells #[.slice none 0 0, .slice none 0 0, .slice none 0 0] 45) = WgT at *
                have xVgT : ∀ k, (Value.slice a3 (L.length + 1) c3).ownBlock = some k → k ≠ gT := fun k hk => by have := dV k hk; omega
                clear dV
                (first | refine hK.out _ _ ?_ (fun hHeldN => ?_) | (go_wp2_with fail; refine hK.out _ _ ?_ (fun hHeldN => ?_)))
                · try dsimp only
                  with_reducible exact rx3 (HK.out _ hacc).2.2.1
                clear hK KK hHeld
                have hHeld := hHeldN
                clear hHeldN
                try simp only [Act.put, List.setIfInBounds_toArray, List.set_cons_zero, List.set_cons_succ]
                refine st (oi := ?_) 10 (by kernel_rfl) ?_ (fun KK hK => ?_); rotate_left; (conv => lhs; whnf; arg 1; whnf)
                have t0 := bT.at 0 rfl
                have t1 := bT.at 1 rfl
                have t2 := bT.at 2 rfl
                have u0 := bT.fr 0 rfl
                have u1 := bT.fr 1 rfl
                have u2 := bT.fr 2 rfl
                go_simp
                clear t0 t1 t2 u0 u1 u2
                replace hV := ((hV.other (p := ⟨gT, 0, none⟩) xVgT ((.slice aA L.length cA))).other (p := ⟨gT, 1, none⟩) xVgT ((.slice aG L.length cG))).other (p := ⟨gT, 2, none⟩) xVgT (.slice a3 (L.length + 1) c3)
                replace hacc := ((hacc.setCell (p := ⟨gT, 0, none⟩) kgT (.slice aA L.length cA)).setCell (p := ⟨gT, 1, none⟩) kgT (.slice aG L.length cG)).setCell (p := ⟨gT, 2, none⟩) kgT (.slice a3 (L.length + 1) c3)
                replace bT := bT.put3 (.slice aA L.length cA) (.slice aG L.length cG) (.slice a3 (L.length + 1) c3)
                (first | refine hK.out _ _ ?_ (fun hHeldN => ?_) | (go_wp2_with fail; refine hK.out _ _ ?_ (fun hHeldN => ?_)))
                · try dsimp only
                  with_reducible exact rx3 (HK.out _ hacc).2.2.1
                clear hK KK hHeld
                have hHeld := hHeldN
                clear hHeldN
                try simp only [Act.put, List.setIfInBounds_toArray, List.set_cons_zero, List.set_cons_succ]
                refine wpAnyH_done (by kernel_rfl) ?_ _
                refine NoPanic.normal ?_
                go_wp2_with fail
                go_meet
                exact ⟨_, _, _, _, rfl, rfl, bT, (HK.out _ hacc).1, (HK.out _ hacc).2.1.raws, hV.raws, (HK.out _ hacc).2.2.2⟩
              refine AllReadyH.cons (o := ?_) ?_ (fun KK hK => ?_) AllReadyH.nil; rotate_left; (conv => lhs; whnf; arg 1; whnf)
              go_simp
              have kgT := hacc.size
              have dF := hF.low
              have dL := hL.low
              have bT := Rx.new (WgL) _ rfl [.slice none 0 0, .slice none 0 0, .slice none 0 0] 45
              replace hF := hF.alloc (.cells #[.slice none 0 0, .slice none 0 0, .slice none 0 0] 45)
              replace hL := hL.alloc (.cells #[.slice none 0 0, .slice none 0 0, .slice none 0 0] 45)
              replace hacc := hacc.alloc hacc.size (.cells #[.slice none 0 0, .slice none 0 0, .slice none 0 0] 45)
              generalize WgL.heap.size = gT at *
              generalize WgL.alloc (.cells #[.slice none 0 0, .slice none 0 0, .slice none 0 0] 45) = WgT at *
              have xFgT : ∀ k, vF.ownBlock = some k → k ≠ gT := fun k hk => by have := dF k hk; omega
              clear dF
              have xLgT : gL ≠ gT := by have := dL gL rfl; omega
              clear dL
              (first | refine hK.out _ _ ?_ (fun hHeldN => ?_) | (go_wp2_with fail; refine hK.out _ _ ?_ (fun hHeldN => ?_)))
              · try dsimp only
                with_reducible exact rx3 (HK.out _ hacc).2.2.1
              clear hK KK hHeld
              have hHeld := hHeldN
              clear hHeldN
              try simp only [Act.put, List.setIfInBounds_toArray, List.set_cons_zero, List.set_cons_succ]
              refine st (oi := ?_) 7 (by kernel_rfl) ?_ (fun KK hK => ?_); rotate_left; (conv => lhs; whnf; arg 1; whnf)
              have lkT := bT.lt
              refine step_rats (by rfl) (by rfl) (by rfl) (by rfl) W2.heap.size hF hL (by simp; omega) hacc.size ?_
              intro v7 w7 hV hg7 ho7
              replace bT := bT.kept hg7 (fun e => xFgT _ e rfl)
              have xVgT : ∀ k, v7.ownBlock = some k → k ≠ gT := fun k hk => by
                rcases ho7 with ho | ho
                · exact xFgT k (ho.symm.trans hk)
                · rw [hk] at ho
                  simp only [Option.some.injEq] at ho
                  omega
              clear lkT
              replace hacc := hacc.grown hg7 hacc.size hF.own
              clear hF hL hg7 ho7
              obtain ⟨a3, c3, e3⟩ : ∃ a c, v7 = .slice a (L.length + 1) c := by
                obtain ⟨a, c, e⟩ := hV.form
                exact ⟨a, c, by rw [e]; simp⟩
              subst e3
              (first | refine hK.out _ _ ?_ (fun hHeldN => ?_) | (go_wp2_with fail; refine hK.out _ _ ?_ (fun hHeldN => ?_)))
              · try dsimp only
                with_reducible exact rx3 (HK.out _ hacc).2.2.1
              clear hK KK hHeld
              have hHeld := hHeldN
              clear hHeldN
              try simp only [Act.put, List.setIfInBounds_toArray, List.set_cons_zero, List.set_cons_succ]
              refine tk (oi := ?_) (v := ?_) 8 hP (by kernel_rfl) ?_ ?_ ?_ hHeld ?_; rotate_left 2
              (conv => lhs; whnf; arg 1; whnf); kernel_rfl; focus (intro w hSw; (try dsimp only at hSw); go_simp; all_goals with_reducible rfl)
              simp only [Act.put, List.setIfInBounds_toArray, List.set_cons_zero, List.set_cons_succ]
              refine st (oi := ?_) 10 (by kernel_rfl) ?_ (fun KK hK => ?_); rotate_left; (conv => lhs; whnf; arg 1; whnf)
              have t0 := bT.at 0 rfl
              have t1 := bT.at 1 rfl
              have t2 := bT.at 2 rfl
              have u0 := bT.fr 0 rfl
              have u1 := bT.fr 1 rfl
              have u2 := bT.fr 2 rfl
              go_simp
              clear t0 t1 t2 u0 u1 u2
              replace hV := ((hV.other (p := ⟨gT, 0, none⟩) xVgT ((.slice aA L.length cA))).other (p := ⟨gT, 1, none⟩) xVgT ((.slice aG L.length cG))).other (p := ⟨gT, 2, none⟩) xVgT (.slice a3 (L.length + 1) c3)
              replace hacc := ((hacc.setCell (p := ⟨gT, 0, none⟩) kgT (.slice aA L.length cA)).setCell (p := ⟨gT, 1, none⟩) kgT (.slice aG L.length cG)).setCell (p := ⟨gT, 2, none⟩) kgT (.slice a3 (L.length + 1) c3)
              replace bT := bT.put3 (.slice aA L.length cA) (.slice aG L.length cG) (.slice a3 (L.length + 1) c3)
              (first | refine hK.out _ _ ?_ (fun hHeldN => ?_) | (go_wp2_with fail; refine hK.out _ _ ?_ (fun hHeldN => ?_)))
              · try dsimp only
                with_reducible exact rx3 (HK.out _ hacc).2.2.1
              clear hK KK hHeld
              have hHeld := hHeldN
              clear hHeldN
              try simp only [Act.put, List.setIfInBounds_toArray, List.set_cons_zero, List.set_cons_succ]
              refine wpAnyH_done (by kernel_rfl) ?_ _
              refine NoPanic.normal ?_
              go_wp2_with fail
              go_meet
              exact ⟨_, _, _, _, rfl, rfl, bT, (HK.out _ hacc).1, (HK.out _ hacc).2.1.raws, hV.raws, (HK.out _ hacc).2.2.2⟩
            refine AllReadyH.cons (o := ?_) ?_ (fun KK hK => ?_) AllReadyH.nil; rotate_left; (conv => lhs; whnf; arg 1; whnf)
            go_simp
            have kgT := hacc.size
            have dF := hF.low
            have bT := Rx.new (w4) _ rfl [.slice none 0 0, .slice none 0 0, .slice none 0 0] 45
            replace hF := hF.alloc (.cells #[.slice none 0 0, .slice none 0 0, .slice none 0 0] 45)
            replace hacc := hacc.alloc hacc.size (.cells #[.slice none 0 0, .slice none 0 0, .slice none 0 0] 45)
            generalize w4.heap.size = gT at *
            generalize w4.alloc (.cells #[.slice none 0 0, .slice none 0 0, .slice none 0 0] 45) = WgT at *
            have xFgT : ∀ k, vF.ownBlock = some k → k ≠ gT := fun k hk => by have := dF k hk; omega
            clear dF
            (first | refine hK.out _ _ ?_ (fun hHeldN => ?_) | (go_wp2_with fail; refine hK.out _ _ ?_ (fun hHeldN => ?_)))
            · try dsimp only
              with_reducible exact rx3 (HK.out _ hacc).2.2.1
            clear hK KK hHeld
            have hHeld := hHeldN
            clear hHeldN
            try simp only [Act.put, List.setIfInBounds_toArray, List.set_cons_zero, List.set_cons_succ]
            refine st (oi := ?_) 6 (by kernel_rfl) ?_ (fun KK hK => ?_); rotate_left; (conv => lhs; whnf; arg 1; whnf)
            go_simp
            have kgL := hacc.size
            have dF := hF.low
            have dT := bT.lt
            have hL : Rats (WgT.alloc (.cells #[.bool rn, .string s1, .string s2] 27)) W2.heap.size (.slice (some ⟨WgT.heap.size, 0, none⟩) 1 1) [⟨rn, s1, s2⟩] := Rats.lit WgT hacc.size [⟨rn, s1, s2⟩] (by simp)
            replace hF := hF.alloc (.cells #[.bool rn, .string s1, .string s2] 27)
            replace bT := bT.alloc (.cells #[.bool rn, .string s1, .string s2] 27)
            replace hacc := hacc.alloc hacc.size (.cells #[.bool rn, .string s1, .string s2] 27)
            generalize WgT.heap.size = gL at *
            generalize WgT.alloc (.cells #[.bool rn, .string s1, .string s2] 27) = WgL at *
            have xFgL : ∀ k, vF.ownBlock = some k → k ≠ gL := fun k hk => by have := dF k hk; omega
            clear dF
            have xTgL : gT ≠ gL := by omega
            clear dT
            (first | refine hK.out _ _ ?_ (fun hHeldN => ?_) | (go_wp2_with fail; refine hK.out _ _ ?_ (fun hHeldN => ?_)))
            · try dsimp only
              with_reducible exact rx3 (HK.out _ hacc).2.2.1
            clear hK KK hHeld
            have hHeld := hHeldN
            clear hHeldN
            try simp only [Act.put, List.setIfInBounds_toArray, List.set_cons_zero, List.set_cons_succ]
            refine st (oi := ?_) 7 (by kernel_rfl) ?_ (fun KK hK => ?_); rotate_left; (conv => lhs; whnf; arg 1; whnf)
            have lkT := bT.lt
            refine step_rats (by rfl) (by rfl) (by rfl) (by rfl) W2.heap.size hF hL (by simp; omega) hacc.size ?_
            intro v7 w7 hV hg7 ho7
            replace bT := bT.kept hg7 (fun e => xFgT _ e rfl)
            have xVgT : ∀ k, v7.ownBlock = some k → k ≠ gT := fun k hk => by
              rcases ho7 with ho | ho
              · exact xFgT k (ho.symm.trans hk)
              · rw [hk] at ho
                simp only [Option.some.injEq] at ho
                omega
            clear lkT
            replace hacc := hacc.grown hg7 hacc.size hF.own
            clear hF hL hg7 ho7
            obtain ⟨a3, c3, e3⟩ : ∃ a c, v7 = .slice a (L.length + 1) c := by
              obtain ⟨a, c, e⟩ := hV.form
              exact ⟨a, c, by rw [e]; simp⟩
            subst e3
            (first | refine hK.out _ _ ?_ (fun hHeldN => ?_) | (go_wp2_with fail; refine hK.out _ _ ?_ (fun hHeldN => ?_)))
            · try dsimp only
              with_reducible exact rx3 (HK.out _ hacc).2.2.1
            clear hK KK hHeld
            have hHeld := hHeldN
            clear hHeldN
            try simp only [Act.put, List.setIfInBounds_toArray, List.set_cons_zero, List.set_cons_succ]
            refine tk (oi := ?_) (v := ?_) 8 hP (by kernel_rfl) ?_ ?_ ?_ hHeld ?_; rotate_left 2
            (conv => lhs; whnf; arg 1; whnf); kernel_rfl; focus (intro w hSw; (try dsimp only at hSw); go_simp; all_goals with_reducible rfl)
            simp only [Act.put, List.setIfInBounds_toArray, List.set_cons_zero, List.set_cons_succ]
            refine st (oi := ?_) 10 (by kernel_rfl) ?_ (fun KK hK => ?_); rotate_left; (conv => lhs; whnf; arg 1; whnf)
            have t0 := bT.at 0 rfl
            have t1 := bT.at 1 rfl
            have t2 := bT.at 2 rfl
            have u0 := bT.fr 0 rfl
            have u1 := bT.fr 1 rfl
            have u2 := bT.fr 2 rfl
            go_simp
            clear t0 t1 t2 u0 u1 u2
            replace hV := ((hV.other (p := ⟨gT, 0, none⟩) xVgT ((.slice aA L.length cA))).other (p := ⟨gT, 1, none⟩) xVgT ((.slice aG L.length cG))).other (p := ⟨gT, 2, none⟩) xVgT (.slice a3 (L.length + 1) c3)
            replace hacc := ((hacc.setCell (p := ⟨gT, 0, none⟩) kgT (.slice aA L.length cA)).setCell (p := ⟨gT, 1, none⟩) kgT (.slice aG L.length cG)).setCell (p := ⟨gT, 2, none⟩) kgT (.slice a3 (L.length + 1) c3)
            replace bT := bT.put3 (.slice aA L.length cA) (.slice aG L.length cG) (.slice a3 (L.length + 1) c3)
            (first | refine hK.out _ _ ?_ (fun hHeldN => ?_) | (go_wp2_with fail; refine hK.out _ _ ?_ (fun hHeldN => ?_)))
            · try dsimp only
              with_reducible exact rx3 (HK.out _ hacc).2.2.1
            clear hK KK hHeld
            have hHeld := hHeldN
            clear hHeldN
            try simp only [Act.put, List.setIfInBounds_toArray, List.set_cons_zero, List.set_cons_succ]
            refine wpAnyH_done (by kernel_rfl) ?_ _
            refine NoPanic.normal ?_
            go_wp2_with fail
            go_meet
            exact ⟨_, _, _, _, rfl, rfl, bT, (HK.out _ hacc).1, (HK.out _ hacc).2.1.raws, hV.raws, (HK.out _ hacc).2.2.2⟩
          refine AllReadyH.cons (o := ?_) ?_ (fun KK hK => ?_) ?_; rotate_left; (conv => lhs; whnf; arg 1; whnf)
          · go_simp
            have kgL := hacc.size
            have dE := hE.low
            have hL : Rats (WgE.alloc (.cells #[.bool rn, .string s1, .string s2] 27)) W2.heap.size (.slice (some ⟨WgE.heap.size, 0, none⟩) 1 1) [⟨rn, s1, s2⟩] := Rats.lit WgE hacc.size [⟨rn, s1, s2⟩] (by simp)
            replace hE := hE.alloc (.cells #[.bool rn, .string s1, .string s2] 27)
            replace hacc := hacc.alloc hacc.size (.cells #[.bool rn, .string s1, .string s2] 27)
            generalize WgE.heap.size = gL at *
            generalize WgE.alloc (.cells #[.bool rn, .string s1, .string s2] 27) = WgL at *
            have xEgL : gE ≠ gL := by have := dE gE rfl; omega
            clear dE
            (first | refine hK.out _ _ ?_ (fun hHeldN => ?_) | (go_wp2_with fail; refine hK.out _ _ ?_ (fun hHeldN => ?_)))
            · try dsimp only
              with_reducible exact rx3 (HK.out _ hacc).2.2.1
            clear hK KK hHeld
            have hHeld := hHeldN
            clear hHeldN
            try simp only [Act.put, List.setIfInBounds_toArray, List.set_cons_zero, List.set_cons_succ]
            refine wpAnyH_ready (rs := [4, 9]) (by kernel_rfl) (by simp) ?_
            refine AllReadyH.cons (o := ?_) ?_ (fun KK hK => ?_) ?_; rotate_left; (conv => lhs; whnf; arg 1; whnf)
            · have bkT := trivial
              refine step_rats (by rfl) (by rfl) (by rfl) (by rfl) W2.heap.size hE (HK.out _ hacc).2.1 (by simp; omega) hacc.size ?_
              intro vF w4 hF hg4 ho4
              rw [List.nil_append] at hF
              replace hL := hL.kept hg4 (fun k hk e => by simp [Value.ownBlock] at hk e; omega)
              replace hacc := hacc.grown hg4 hacc.size hE.own
              clear hE hg4 ho4 bkT
              (first | refine hK.out _ _ ?_ (fun hHeldN => ?_) | (go_wp2_with fail; refine hK.out _ _ ?_ (fun hHeldN => ?_)))
              · try dsimp only
                with_reducible exact rx3 (HK.out _ hacc).2.2.1
              clear hK KK hHeld
              have hHeld := hHeldN
              clear hHeldN
              try simp only [Act.put, List.setIfInBounds_toArray, List.set_cons_zero, List.set_cons_succ]
              refine wpAnyH_ready (rs := [7, 9]) (by kernel_rfl) (by simp) ?_
              refine AllReadyH.cons (o := ?_) ?_ (fun KK hK => ?_) ?_; rotate_left; (conv => lhs; whnf; arg 1; whnf)
              · refine step_rats (by rfl) (by rfl) (by rfl) (by rfl) W2.heap.size hF hL (by simp; omega) hacc.size ?_
                intro v7 w7 hV hg7 ho7
                replace hacc := hacc.grown hg7 hacc.size hF.own
                clear hF hL hg7 ho7
                obtain ⟨a3, c3, e3⟩ : ∃ a c, v7 = .slice a (L.length + 1) c := by
                  obtain ⟨a, c, e⟩ := hV.form
                  exact ⟨a, c, by rw [e]; simp⟩
                subst e3
                (first | refine hK.out _ _ ?_ (fun hHeldN => ?_) | (go_wp2_with fail; refine hK.out _ _ ?_ (fun hHeldN => ?_)))
                · try dsimp only
                  with_reducible exact rx3 (HK.out _ hacc).2.2.1
                clear hK KK hHeld
                have hHeld := hHeldN
                clear hHeldN
                try simp only [Act.put, List.setIfInBounds_toArray, List.set_cons_zero, List.set_cons_succ]
                refine tk (oi := ?_) (v := ?_) 8 hP (by kernel_rfl) ?_ ?_ ?_ hHeld ?_; rotate_left 2
                (conv => lhs; whnf; arg 1; whnf); kernel_rfl; focus (intro w hSw; (try dsimp only at hSw); go_simp; all_goals with_reducible rfl)
                simp only [Act.put, List.setIfInBounds_toArray, List.set_cons_zero, List.set_cons_succ]
                refine st (oi := ?_) 9 (by kernel_rfl) ?_ (fun KK hK => ?_); rotate_left; (conv => lhs; whnf; arg 1; whnf)
                go_simp
                have kgT := hacc.size
                have dV := hV.low
                have bT := Rx.new (w7) _ rfl [.slice none 0 0, .slice none 0 0, .slice none 0 0] 45
                replace hV := hV.alloc (.cells #[.slice none 0 0, .slice none 0 0, .slice none 0 0] 45)
                replace hacc := hacc.alloc hacc.size (.cells #[.slice none 0 0, .slice none 0 0, .slice none 0 0] 45)
                generalize w7.heap.size = gT at *
                generalize w7.alloc (.cells #[.slice none 0 0, .slice none 0 0, .slice none 0 0] 45) = WgT at *
                have xVgT : ∀ k, (Value.slice a3 (L.length + 1) c3).ownBlock = some k → k ≠ gT := fun k hk => by have := dV k hk; omega
                clear dV
                (first | refine hK.out _ _ ?_ (fun hHeldN => ?_) | (go_wp2_with fail; refine hK.out _ _ ?_ (fun hHeldN => ?_)))
                · try dsimp only
                  with_reducible exact rx3 (HK.out _ hacc).2.2.1
                clear hK KK hHeld
                have hHeld := hHeldN
                clear hHeldN
                try simp only [Act.put, List.setIfInBounds_toArray, List.set_cons_zero, List.set_cons_succ]
                refine st (oi := ?_) 10 (by kernel_rfl) ?_ (fun KK hK => ?_); rotate_left; (conv => lhs; whnf; arg 1; whnf)
                have t0 := bT.at 0 rfl
                have t1 := bT.at 1 rfl
                have t2 := bT.at 2 rfl
                have u0 := bT.fr 0 rfl
                have u1 := bT.fr 1 rfl
                have u2 := bT.fr 2 rfl
                go_simp
                clear t0 t1 t2 u0 u1 u2
                replace hV := ((hV.other (p := ⟨gT, 0, none⟩) xVgT ((.slice aA L.length cA))).other (p := ⟨gT, 1, none⟩) xVgT ((.slice aG L.length cG))).other (p := ⟨gT, 2, none⟩) xVgT (.slice a3 (L.length + 1) c3)
                replace hacc := ((hacc.setCell (p := ⟨gT, 0, none⟩) kgT (.slice aA L.length cA)).setCell (p := ⟨gT, 1, none⟩) kgT (.slice aG L.length cG)).setCell (p := ⟨gT, 2, none⟩) kgT (.slice a3 (L.length + 1) c3)
                replace bT := bT.put3 (.slice aA L.length cA) (.slice aG L.length cG) (.slice a3 (L.length + 1) c3)
                (first | refine hK.out _ _ ?_ (fun hHeldN => ?_) | (go_wp2_with fail; refine hK.out _ _ ?_ (fun hHeldN => ?_)))
                · try dsimp only
                  with_reducible exact rx3 (HK.out _ hacc).2.2.1
                clear hK KK hHeld
                have hHeld := hHeldN
                clear hHeldN
                try simp only [Act.put, List.setIfInBounds_toArray, List.set_cons_zero, List.set_cons_succ]
                refine wpAnyH_done (by kernel_rfl) ?_ _
                refine NoPanic.normal ?_
                go_wp2_with fail
                go_meet
                exact ⟨_, _, _, _, rfl, rfl, bT, (HK.out _ hacc).1, (HK.out _ hacc).2.1.raws, hV.raws, (HK.out _ hacc).2.2.2⟩
              refine AllReadyH.cons (o := ?_) ?_ (fun KK hK => ?_) AllReadyH.nil; rotate_left; (conv => lhs; whnf; arg 1; whnf)
              go_simp
              have kgT := hacc.size
              have dL := hL.low
              have dF := hF.low
              have bT := Rx.new (w4) _ rfl [.slice none 0 0, .slice none 0 0, .slice none 0 0] 45
              replace hL := hL.alloc (.cells #[.slice none 0 0, .slice none 0 0, .slice none 0 0] 45)
              replace hF := hF.alloc (.cells #[.slice none 0 0, .slice none 0 0, .slice none 0 0] 45)
              replace hacc := hacc.alloc hacc.size (.cells #[.slice none 0 0, .slice none 0 0, .slice none 0 0] 45)
              generalize w4.heap.size = gT at *
              generalize w4.alloc (.cells #[.slice none 0 0, .slice none 0 0, .slice none 0 0] 45) = WgT at *
              have xLgT : gL ≠ gT := by have := dL gL rfl; omega
              clear dL
              have xFgT : ∀ k, vF.ownBlock = some k → k ≠ gT := fun k hk => by have := dF k hk; omega
              clear dF
              (first | refine hK.out _ _ ?_ (fun hHeldN => ?_) | (go_wp2_with fail; refine hK.out _ _ ?_ (fun hHeldN => ?_)))
              · try dsimp only
                with_reducible exact rx3 (HK.out _ hacc).2.2.1
              clear hK KK hHeld
              have hHeld := hHeldN
              clear hHeldN
              try simp only [Act.put, List.setIfInBounds_toArray, List.set_cons_zero, List.set_cons_succ]
              refine st (oi := ?_) 7 (by kernel_rfl) ?_ (fun KK hK => ?_); rotate_left; (conv => lhs; whnf; arg 1; whnf)
              have lkT := bT.lt
              refine step_rats (by rfl) (by rfl) (by rfl) (by rfl) W2.heap.size hF hL (by simp; omega) hacc.size ?_
              intro v7 w7 hV hg7 ho7
              replace bT := bT.kept hg7 (fun e => xFgT _ e rfl)
              have xVgT : ∀ k, v7.ownBlock = some k → k ≠ gT := fun k hk => by
                rcases ho7 with ho | ho
                · exact xFgT k (ho.symm.trans hk)
                · rw [hk] at ho
                  simp only [Option.some.injEq] at ho
                  omega
              clear lkT
              replace hacc := hacc.grown hg7 hacc.size hF.own
              clear hF hL hg7 ho7
              obtain ⟨a3, c3, e3⟩ : ∃ a c, v7 = .slice a (L.length + 1) c := by
                obtain ⟨a, c, e⟩ := hV.form
                exact ⟨a, c, by rw [e]; simp⟩
              subst e3
              (first | refine hK.out _ _ ?_ (fun hHeldN => ?_) | (go_wp2_with fail; refine hK.out _ _ ?_ (fun hHeldN => ?_)))
              · try dsimp only
                with_reducible exact rx3 (HK.out _ hacc).2.2.1
              clear hK KK hHeld
              have hHeld := hHeldN
              clear hHeldN
              try simp only [Act.put, List.setIfInBounds_toArray, List.set_cons_zero, List.set_cons_succ]
              refine tk (oi := ?_) (v := ?_) 8 hP (by kernel_rfl) ?_ ?_ ?_ hHeld ?_; rotate_left 2
              (conv => lhs; whnf; arg 1; whnf); kernel_rfl; focus (intro w hSw; (try dsimp only at hSw); go_simp; all_goals with_reducible rfl)
              simp only [Act.put, List.setIfInBounds_toArray, List.set_cons_zero, List.set_cons_succ]
              refine st (oi := ?_) 10 (by kernel_rfl) ?_ (fun KK hK => ?_); rotate_left; (conv => lhs; whnf; arg 1; whnf)
              have t0 := bT.at 0 rfl
              have t1 := bT.at 1 rfl
              have t2 := bT.at 2 rfl
              have u0 := bT.fr 0 rfl
              have u1 := bT.fr 1 rfl
              have u2 := bT.fr 2 rfl
              go_simp
              clear t0 t1 t2 u0 u1 u2
              replace hV := ((hV.other (p := ⟨gT, 0, none⟩) xVgT ((.slice aA L.length cA))).other (p := ⟨gT, 1, none⟩) xVgT ((.slice aG L.length cG))).other (p := ⟨gT, 2, none⟩) xVgT (.slice a3 (L.length + 1) c3)
              replace hacc := ((hacc.setCell (p := ⟨gT, 0, none⟩) kgT (.slice aA L.length cA)).setCell (p := ⟨gT, 1, none⟩) kgT (.slice aG L.length cG)).setCell (p := ⟨gT, 2, none⟩) kgT (.slice a3 (L.length + 1) c3)
              replace bT := bT.put3 (.slice aA L.length cA) (.slice aG L.length cG) (.slice a3 (L.length + 1) c3)
              (first | refine hK.out _ _ ?_ (fun hHeldN => ?_) | (go_wp2_with fail; refine hK.out _ _ ?_ (fun hHeldN => ?_)))
              · try dsimp only
                with_reducible exact rx3 (HK.out _ hacc).2.2.1
              clear hK KK hHeld
              have hHeld := hHeldN
              clear hHeldN
              try simp only [Act.put, List.setIfInBounds_toArray, List.set_cons_zero, List.set_cons_succ]
              refine wpAnyH_done (by kernel_rfl) ?_ _
              refine NoPanic.normal ?_
              go_wp2_with fail
              go_meet
              exact ⟨_, _, _, _, rfl, rfl, bT, (HK.out _ hacc).1, (HK.out _ hacc).2.1.raws, hV.raws, (HK.out _ hacc).2.2.2⟩
            refine AllReadyH.cons (o := ?_) ?_ (fun KK hK => ?_) AllReadyH.nil; rotate_left; (conv => lhs; whnf; arg 1; whnf)
            go_simp
            have kgT := hacc.size
            have dE := hE.low
            have dL := hL.low
            have bT := Rx.new (WgL) _ rfl [.slice none 0 0, .slice none 0 0, .slice none 0 0] 45
            replace hE := hE.alloc (.cells #[.slice none 0 0, .slice none 0 0, .slice none 0 0] 45)
            replace hL := hL.alloc (.cells #[.slice none 0 0, .slice none 0 0, .slice none 0 0] 45)
            replace hacc := hacc.alloc hacc.size (.cells #[.slice none 0 0, .slice none 0 0, .slice none 0 0] 45)
            generalize WgL.heap.size = gT at *
            generalize WgL.alloc (.cells #[.slice none 0 0, .slice none 0 0, .slice none 0 0] 45) = WgT at *
            have xEgT : gE ≠ gT := by have := dE gE rfl; omega
            clear dE
            have xLgT : gL ≠ gT := by have := dL gL rfl; omega
            clear dL
            (first | refine hK.out _ _ ?_ (fun hHeldN => ?_) | (go_wp2_with fail; refine hK.out _ _ ?_ (fun hHeldN => ?_)))
            · try dsimp only
              with_reducible exact rx3 (HK.out _ hacc).2.2.1
            clear hK KK hHeld
            have hHeld := hHeldN
            clear hHeldN
            try simp only [Act.put, List.setIfInBounds_toArray, List.set_cons_zero, List.set_cons_succ]
            refine st (oi := ?_) 4 (by kernel_rfl) ?_ (fun KK hK => ?_); rotate_left; (conv => lhs; whnf; arg 1; whnf)
            have bkT := bT.lt
            refine step_rats (by rfl) (by rfl) (by rfl) (by rfl) W2.heap.size hE (HK.out _ hacc).2.1 (by simp; omega) hacc.size ?_
            intro vF w4 hF hg4 ho4
            rw [List.nil_append] at hF
            replace hL := hL.kept hg4 (fun k hk e => by simp [Value.ownBlock] at hk e; omega)
            replace bT := bT.kept hg4 (fun e => by simp [Value.ownBlock] at e; omega)
            have xFgT : ∀ k, vF.ownBlock = some k → k ≠ gT := fun k hk => by
              rcases ho4 with ho | ho <;> rw [hk] at ho <;> simp [Value.ownBlock] at ho <;> omega
            replace hacc := hacc.grown hg4 hacc.size hE.own
            clear hE hg4 ho4 bkT
            (first | refine hK.out _ _ ?_ (fun hHeldN => ?_) | (go_wp2_with fail; refine hK.out _ _ ?_ (fun hHeldN => ?_)))
            · try dsimp only
              with_reducible exact rx3 (HK.out _ hacc).2.2.1
            clear hK KK hHeld
            have hHeld := hHeldN
            clear hHeldN
            try simp only [Act.put, List.setIfInBounds_toArray, List.set_cons_zero, List.set_cons_succ]
            refine st (oi := ?_) 7 (by kernel_rfl) ?_ (fun KK hK => ?_); rotate_left; (conv => lhs; whnf; arg 1; whnf)
            have lkT := bT.lt
            refine step_rats (by rfl) (by rfl) (by rfl) (by rfl) W2.heap.size hF hL (by simp; omega) hacc.size ?_
            intro v7 w7 hV hg7 ho7
            replace bT := bT.kept hg7 (fun e => xFgT _ e rfl)
            have xVgT : ∀ k, v7.ownBlock = some k → k ≠ gT := fun k hk => by
              rcases ho7 with ho | ho
              · exact xFgT k (ho.symm.trans hk)
              · rw [hk] at ho
                simp only [Option.some.injEq] at ho
                omega
            clear lkT
            replace hacc := hacc.grown hg7 hacc.size hF.own
            clear hF hL hg7 ho7
            obtain ⟨a3, c3, e3⟩ : ∃ a c, v7 = .slice a (L.length + 1) c := by
              obtain ⟨a, c, e⟩ := hV.form
              exact ⟨a, c, by rw [e]; simp⟩
            subst e3
            (first | refine hK.out _ _ ?_ (fun hHeldN => ?_) | (go_wp2_with fail; refine hK.out _ _ ?_ (fun hHeldN => ?_)))
            · try dsimp only
              with_reducible exact rx3 (HK.out _ hacc).2.2.1
            clear hK KK hHeld
            have hHeld := hHeldN
            clear hHeldN
            try simp only [Act.put, List.setIfInBounds_toArray, List.set_cons_zero, List.set_cons_succ]
            refine tk (oi := ?_) (v := ?_) 8 hP (by kernel_rfl) ?_ ?_ ?_ hHeld ?_; rotate_left 2
            (conv => lhs; whnf; arg 1; whnf); kernel_rfl; focus (intro w hSw; (try dsimp only at hSw); go_simp; all_goals with_reducible rfl)
            simp only [Act.put, List.setIfInBounds_toArray, List.set_cons_zero, List.set_cons_succ]
            refine st (oi := ?_) 10 (by kernel_rfl) ?_ (fun KK hK => ?_); rotate_left; (conv => lhs; whnf; arg 1; whnf)
            have t0 := bT.at 0 rfl
            have t1 := bT.at 1 rfl
            have t2 := bT.at 2 rfl
            have u0 := bT.fr 0 rfl
            have u1 := bT.fr 1 rfl
            have u2 := bT.fr 2 rfl
            go_simp
            clear t0 t1 t2 u0 u1 u2
            replace hV := ((hV.other (p := ⟨gT, 0, none⟩) xVgT ((.slice aA L.length cA))).other (p := ⟨gT, 1, none⟩) xVgT ((.slice aG L.length cG))).other (p := ⟨gT, 2, none⟩) xVgT (.slice a3 (L.length + 1) c3)
            replace hacc := ((hacc.setCell (p := ⟨gT, 0, none⟩) kgT (.slice aA L.length cA)).setCell (p := ⟨gT, 1, none⟩) kgT (.slice aG L.length cG)).setCell (p := ⟨gT, 2, none⟩) kgT (.slice a3 (L.length + 1) c3)
            replace bT := bT.put3 (.slice aA L.length cA) (.slice aG L.length cG) (.slice a3 (L.length + 1) c3)
            (first | refine hK.out _ _ ?_ (fun hHeldN => ?_) | (go_wp2_with fail; refine hK.out _ _ ?_ (fun hHeldN => ?_)))
            · try dsimp only
              with_reducible exact rx3 (HK.out _ hacc).2.2.1
            clear hK KK hHeld
            have hHeld := hHeldN
            clear hHeldN
            try simp only [Act.put, List.setIfInBounds_toArray, List.set_cons_zero, List.set_cons_succ]
            refine wpAnyH_done (by kernel_rfl) ?_ _
            refine NoPanic.normal ?_
            go_wp2_with fail
            go_meet
            exact ⟨_, _, _, _, rfl, rfl, bT, (HK.out _ hacc).1, (HK.out _ hacc).2.1.raws, hV.raws, (HK.out _ hacc).2.2.2⟩
          refine AllReadyH.cons (o := ?_) ?_ (fun KK hK => ?_) AllReadyH.nil; rotate_left; (conv => lhs; whnf; arg 1; whnf)
          go_simp
          have kgT := hacc.size
          have dE := hE.low
          have bT := Rx.new (WgE) _ rfl [.slice none 0 0, .slice none 0 0, .slice none 0 0] 45
          replace hE := hE.alloc (.cells #[.slice none 0 0, .slice none 0 0, .slice none 0 0] 45)
          replace hacc := hacc.alloc hacc.size (.cells #[.slice none 0 0, .slice none 0 0, .slice none 0 0] 45)
          generalize WgE.heap.size = gT at *
          generalize WgE.alloc (.cells #[.slice none 0 0, .slice none 0 0, .slice none 0 0] 45) = WgT at *
          have xEgT : gE ≠ gT := by have := dE gE rfl; omega
          clear dE
          (first | refine hK.out _ _ ?_ (fun hHeldN => ?_) | (go_wp2_with fail; refine hK.out _ _ ?_ (fun hHeldN => ?_)))
          · try dsimp only
            with_reducible exact rx3 (HK.out _ hacc).2.2.1
          clear hK KK hHeld
          have hHeld := hHeldN
          clear hHeldN
          try simp only [Act.put, List.setIfInBounds_toArray, List.set_cons_zero, List.set_cons_succ]
          refine wpAnyH_ready (rs := [4, 6]) (by kernel_rfl) (by simp) ?_
          refine AllReadyH.cons (o := ?_) ?_ (fun KK hK => ?_) ?_; rotate_left; (conv => lhs; whnf; arg 1; whnf)
          · have bkT := bT.lt
            refine step_rats (by rfl) (by rfl) (by rfl) (by rfl) W2.heap.size hE (HK.out _ hacc).2.1 (by simp; omega) hacc.size ?_
            intro vF w4 hF hg4 ho4
            rw [List.nil_append] at hF
            replace bT := bT.kept hg4 (fun e => by simp [Value.ownBlock] at e; omega)
            have xFgT : ∀ k, vF.ownBlock = some k → k ≠ gT := fun k hk => by
              rcases ho4 with ho | ho <;> rw [hk] at ho <;> simp [Value.ownBlock] at ho <;> omega
            replace hacc := hacc.grown hg4 hacc.size hE.own
            clear hE hg4 ho4 bkT
            (first | refine hK.out _ _ ?_ (fun hHeldN => ?_) | (go_wp2_with fail; refine hK.out _ _ ?_ (fun hHeldN => ?_)))
            · try dsimp only
              with_reducible exact rx3 (HK.out _ hacc).2.2.1
            clear hK KK hHeld
            have hHeld := hHeldN
            clear hHeldN
            try simp only [Act.put, List.setIfInBounds_toArray, List.set_cons_zero, List.set_cons_succ]
            refine st (oi := ?_) 6 (by kernel_rfl) ?_ (fun KK hK => ?_); rotate_left; (conv => lhs; whnf; arg 1; whnf)
            go_simp
            have kgL := hacc.size
            have dT := bT.lt
            have dF := hF.low
            have hL : Rats (w4.alloc (.cells #[.bool rn, .string s1, .string s2] 27)) W2.heap.size (.slice (some ⟨w4.heap.size, 0, none⟩) 1 1) [⟨rn, s1, s2⟩] := Rats.lit w4 hacc.size [⟨rn, s1, s2⟩] (by simp)
            replace bT := bT.alloc (.cells #[.bool rn, .string s1, .string s2] 27)
            replace hF := hF.alloc (.cells #[.bool rn, .string s1, .string s2] 27)
            replace hacc := hacc.alloc hacc.size (.cells #[.bool rn, .string s1, .string s2] 27)
            generalize w4.heap.size = gL at *
            generalize w4.alloc (.cells #[.bool rn, .string s1, .string s2] 27) = WgL at *
            have xTgL : gT ≠ gL := by omega
            clear dT
            have xFgL : ∀ k, vF.ownBlock = some k → k ≠ gL := fun k hk => by have := dF k hk; omega
            clear dF
            (first | refine hK.out _ _ ?_ (fun hHeldN => ?_) | (go_wp2_with fail; refine hK.out _ _ ?_ (fun hHeldN => ?_)))
            · try dsimp only
              with_reducible exact rx3 (HK.out _ hacc).2.2.1
            clear hK KK hHeld
            have hHeld := hHeldN
            clear hHeldN
            try simp only [Act.put, List.setIfInBounds_toArray, List.set_cons_zero, List.set_cons_succ]
            refine st (oi := ?_) 7 (by kernel_rfl) ?_ (fun KK hK => ?_); rotate_left; (conv => lhs; whnf; arg 1; whnf)
            have lkT := bT.lt
            refine step_rats (by rfl) (by rfl) (by rfl) (by rfl) W2.heap.size hF hL (by simp; omega) hacc.size ?_
            intro v7 w7 hV hg7 ho7
            replace bT := bT.kept hg7 (fun e => xFgT _ e rfl)
            have xVgT : ∀ k, v7.ownBlock = some k → k ≠ gT := fun k hk => by
              rcases ho7 with ho | ho
              · exact xFgT k (ho.symm.trans hk)
              · rw [hk] at ho
                simp only [Option.some.injEq] at ho
                omega
            clear lkT
            replace hacc := hacc.grown hg7 hacc.size hF.own
            clear hF hL hg7 ho7
            obtain ⟨a3, c3, e3⟩ : ∃ a c, v7 = .slice a (L.length + 1) c := by
              obtain ⟨a, c, e⟩ := hV.form
              exact ⟨a, c, by rw [e]; simp⟩
            subst e3
            (first | refine hK.out _ _ ?_ (fun hHeldN => ?_) | (go_wp2_with fail; refine hK.out _ _ ?_ (fun hHeldN => ?_)))
            · try dsimp only
              with_reducible exact rx3 (HK.out _ hacc).2.2.1
            clear hK KK hHeld
            have hHeld := hHeldN
            clear hHeldN
            try simp only [Act.put, List.setIfInBounds_toArray, List.set_cons_zero, List.set_cons_succ]
            refine tk (oi := ?_) (v := ?_) 8 hP (by kernel_rfl) ?_ ?_ ?_ hHeld ?_; rotate_left 2
            (conv => lhs; whnf; arg 1; whnf); kernel_rfl; focus (intro w hSw; (try dsimp only at hSw); go_simp; all_goals with_reducible rfl)
            simp only [Act.put, List.setIfInBounds_toArray, List.set_cons_zero, List.set_cons_succ]
            refine st (oi := ?_) 10 (by kernel_rfl) ?_ (fun KK hK => ?_); rotate_left; (conv => lhs; whnf; arg 1; whnf)
            have t0 := bT.at 0 rfl
            have t1 := bT.at 1 rfl
            have t2 := bT.at 2 rfl
            have u0 := bT.fr 0 rfl
            have u1 := bT.fr 1 rfl
            have u2 := bT.fr 2 rfl
            go_simp
            clear t0 t1 t2 u0 u1 u2
            replace hV := ((hV.other (p := ⟨gT, 0, none⟩) xVgT ((.slice aA L.length cA))).other (p := ⟨gT, 1, none⟩) xVgT ((.slice aG L.length cG))).other (p := ⟨gT, 2, none⟩) xVgT (.slice a3 (L.length + 1) c3)
            replace hacc := ((hacc.setCell (p := ⟨gT, 0, none⟩) kgT (.slice aA L.length cA)).setCell (p := ⟨gT, 1, none⟩) kgT (.slice aG L.length cG)).setCell (p := ⟨gT, 2, none⟩) kgT (.slice a3 (L.length + 1) c3)
            replace bT := bT.put3 (.slice aA L.length cA) (.slice aG L.length cG) (.slice a3 (L.length + 1) c3)
            (first | refine hK.out _ _ ?_ (fun hHeldN => ?_) | (go_wp2_with fail; refine hK.out _ _ ?_ (fun hHeldN => ?_)))
            · try dsimp only
              with_reducible exact rx3 (HK.out _ hacc).2.2.1
            clear hK KK hHeld
            have hHeld := hHeldN
            clear hHeldN
            try simp only [Act.put, List.setIfInBounds_toArray, List.set_cons_zero, List.set_cons_succ]
            refine wpAnyH_done (by kernel_rfl) ?_ _
            refine NoPanic.normal ?_
            go_wp2_with fail
            go_meet
            exact ⟨_, _, _, _, rfl, rfl, bT, (HK.out _ hacc).1, (HK.out _ hacc).2.1.raws, hV.raws, (HK.out _ hacc).2.2.2⟩
          refine AllReadyH.cons (o := ?_) ?_ (fun KK hK => ?_) AllReadyH.nil; rotate_left; (conv => lhs; whnf; arg 1; whnf)
          go_simp
          have kgL := hacc.size
          have dE := hE.low
          have dT := bT.lt
          have hL : Rats (WgT.alloc (.cells #[.bool rn, .string s1, .string s2] 27)) W2.heap.size (.slice (some ⟨WgT.heap.size, 0, none⟩) 1 1) [⟨rn, s1, s2⟩] := Rats.lit WgT hacc.size [⟨rn, s1, s2⟩] (by simp)
          replace hE := hE.alloc (.cells #[.bool rn, .string s1, .string s2] 27)
          replace bT := bT.alloc (.cells #[.bool rn, .string s1, .string s2] 27)
          replace hacc := hacc.alloc hacc.size (.cells #[.bool rn, .string s1, .string s2] 27)
          generalize WgT.heap.size = gL at *
          generalize WgT.alloc (.cells #[.bool rn, .string s1, .string s2] 27) = WgL at *
          have xEgL : gE ≠ gL := by have := dE gE rfl; omega
          clear dE
          have xTgL : gT ≠ gL := by omega
          clear dT
          (first | refine hK.out _ _ ?_ (fun hHeldN => ?_) | (go_wp2_with fail; refine hK.out _ _ ?_ (fun hHeldN => ?_)))
          · try dsimp only
            with_reducible exact rx3 (HK.out _ hacc).2.2.1
          clear hK KK hHeld
          have hHeld := hHeldN
          clear hHeldN
          try simp only [Act.put, List.setIfInBounds_toArray, List.set_cons_zero, List.set_cons_succ]
          refine st (oi := ?_) 4 (by kernel_rfl) ?_ (fun KK hK => ?_); rotate_left; (conv => lhs; whnf; arg 1; whnf)
          have bkT := bT.lt
          refine step_rats (by rfl) (by rfl) (by rfl) (by rfl) W2.heap.size hE (HK.out _ hacc).2.1 (by simp; omega) hacc.size ?_
          intro vF w4 hF hg4 ho4
          rw [List.nil_append] at hF
          replace hL := hL.kept hg4 (fun k hk e => by simp [Value.ownBlock] at hk e; omega)
          replace bT := bT.kept hg4 (fun e => by simp [Value.ownBlock] at e; omega)
          have xFgT : ∀ k, vF.ownBlock = some k → k ≠ gT := fun k hk => by
            rcases ho4 with ho | ho <;> rw [hk] at ho <;> simp [Value.ownBlock] at ho <;> omega
          replace hacc := hacc.grown hg4 hacc.size hE.own
          clear hE hg4 ho4 bkT
          (first | refine hK.out _ _ ?_ (fun hHeldN => ?_) | (go_wp2_with fail; refine hK.out _ _ ?_ (fun hHeldN => ?_)))
          · try dsimp only
            with_reducible exact rx3 (HK.out _ hacc).2.2.1
          clear hK KK hHeld
          have hHeld := hHeldN
          clear hHeldN
          try simp only [Act.put, List.setIfInBounds_toArray, List.set_cons_zero, List.set_cons_succ]
          refine st (oi := ?_) 7 (by kernel_rfl) ?_ (fun KK hK => ?_); rotate_left; (conv => lhs; whnf; arg 1; whnf)
          have lkT := bT.lt
          refine step_rats (by rfl) (by rfl) (by rfl) (by rfl) W2.heap.size hF hL (by simp; omega) hacc.size ?_
          intro v7 w7 hV hg7 ho7
          replace bT := bT.kept hg7 (fun e => xFgT _ e rfl)
          have xVgT : ∀ k, v7.ownBlock = some k → k ≠ gT := fun k hk => by
            rcases ho7 with ho | ho
            · exact xFgT k (ho.symm.trans hk)
            · rw [hk] at ho
              simp only [Option.some.injEq] at ho
              omega
          clear lkT
          replace hacc := hacc.grown hg7 hacc.size hF.own
          clear hF hL hg7 ho7
          obtain ⟨a3, c3, e3⟩ : ∃ a c, v7 = .slice a (L.length + 1) c := by
            obtain ⟨a, c, e⟩ := hV.form
            exact ⟨a, c, by rw [e]; simp⟩
          subst e3
          (first | refine hK.out _ _ ?_ (fun hHeldN => ?_) | (go_wp2_with fail; refine hK.out _ _ ?_ (fun hHeldN => ?_)))
          · try dsimp only
            with_reducible exact rx3 (HK.out _ hacc).2.2.1
          clear hK KK hHeld
          have hHeld := hHeldN
          clear hHeldN
          try simp only [Act.put, List.setIfInBounds_toArray, List.set_cons_zero, List.set_cons_succ]
          refine tk (oi := ?_) (v := ?_) 8 hP (by kernel_rfl) ?_ ?_ ?_ hHeld ?_; rotate_left 2
          (conv => lhs; whnf; arg 1; whnf); kernel_rfl; focus (intro w hSw; (try dsimp only at hSw); go_simp; all_goals with_reducible rfl)
          simp only [Act.put, List.setIfInBounds_toArray, List.set_cons_zero, List.set_cons_succ]
          refine st (oi := ?_) 10 (by kernel_rfl) ?_ (fun KK hK => ?_); rotate_left; (conv => lhs; whnf; arg 1; whnf)
          have t0 := bT.at 0 rfl
          have t1 := bT.at 1 rfl
          have t2 := bT.at 2 rfl
          have u0 := bT.fr 0 rfl
          have u1 := bT.fr 1 rfl
          have u2 := bT.fr 2 rfl
          go_simp
          clear t0 t1 t2 u0 u1 u2
          replace hV := ((hV.other (p := ⟨gT, 0, none⟩) xVgT ((.slice aA L.length cA))).other (p := ⟨gT, 1, none⟩) xVgT ((.slice aG L.length cG))).other (p := ⟨gT, 2, none⟩) xVgT (.slice a3 (L.length + 1) c3)
          replace hacc := ((hacc.setCell (p := ⟨gT, 0, none⟩) kgT (.slice aA L.length cA)).setCell (p := ⟨gT, 1, none⟩) kgT (.slice aG L.length cG)).setCell (p := ⟨gT, 2, none⟩) kgT (.slice a3 (L.length + 1) c3)
          replace bT := bT.put3 (.slice aA L.length cA) (.slice aG L.length cG) (.slice a3 (L.length + 1) c3)
          (first | refine hK.out _ _ ?_ (fun hHeldN => ?_) | (go_wp2_with fail; refine hK.out _ _ ?_ (fun hHeldN => ?_)))
          · try dsimp only
            with_reducible exact rx3 (HK.out _ hacc).2.2.1
          clear hK KK hHeld
          have hHeld := hHeldN
          clear hHeldN
          try simp only [Act.put, List.setIfInBounds_toArray, List.set_cons_zero, List.set_cons_succ]
          refine wpAnyH_done (by kernel_rfl) ?_ _
          refine NoPanic.normal ?_
          go_wp2_with fail
          go_meet
          exact ⟨_, _, _, _, rfl, rfl, bT, (HK.out _ hacc).1, (HK.out _ hacc).2.1.raws, hV.raws, (HK.out _ hacc).2.2.2⟩
        refine AllReadyH.cons (o := ?_) ?_ (fun KK hK => ?_) ?_; rotate_left; (conv => lhs; whnf; arg 1; whnf)
        · go_simp
          have kgL := hacc.size
          have hL : Rats (WD.alloc (.cells #[.bool rn, .string s1, .string s2] 27)) W2.heap.size (.slice (some ⟨WD.heap.size, 0, none⟩) 1 1) [⟨rn, s1, s2⟩] := Rats.lit WD hacc.size [⟨rn, s1, s2⟩] (by simp)
          replace hacc := hacc.alloc hacc.size (.cells #[.bool rn, .string s1, .string s2] 27)
          generalize WD.heap.size = gL at *
          generalize WD.alloc (.cells #[.bool rn, .string s1, .string s2] 27) = WgL at *
          (first | refine hK.out _ _ ?_ (fun hHeldN => ?_) | (go_wp2_with fail; refine hK.out _ _ ?_ (fun hHeldN => ?_)))
          · try dsimp only
            with_reducible exact rx3 (HK.out _ hacc).2.2.1
          clear hK KK hHeld
          have hHeld := hHeldN
          clear hHeldN
          try simp only [Act.put, List.setIfInBounds_toArray, List.set_cons_zero, List.set_cons_succ]
          refine wpAnyH_ready (rs := [2, 9]) (by kernel_rfl) (by simp) ?_
          refine AllReadyH.cons (o := ?_) ?_ (fun KK hK => ?_) ?_; rotate_left; (conv => lhs; whnf; arg 1; whnf)
          · go_simp
            have kgE := hacc.size
            have dL := hL.low
            have hE : Rats (WgL.alloc (.cells #[] 27)) W2.heap.size (.slice (some ⟨WgL.heap.size, 0, none⟩) 0 0) [] := Rats.lit WgL hacc.size [] (by simp)
            replace hL := hL.alloc (.cells #[] 27)
            replace hacc := hacc.alloc hacc.size (.cells #[] 27)
            generalize WgL.heap.size = gE at *
            generalize WgL.alloc (.cells #[] 27) = WgE at *
            have xLgE : gL ≠ gE := by have := dL gL rfl; omega
            clear dL
            (first | refine hK.out _ _ ?_ (fun hHeldN => ?_) | (go_wp2_with fail; refine hK.out _ _ ?_ (fun hHeldN => ?_)))
            · try dsimp only
              with_reducible exact rx3 (HK.out _ hacc).2.2.1
            clear hK KK hHeld
            have hHeld := hHeldN
            clear hHeldN
            try simp only [Act.put, List.setIfInBounds_toArray, List.set_cons_zero, List.set_cons_succ]
            refine wpAnyH_ready (rs := [4, 9]) (by kernel_rfl) (by simp) ?_
            refine AllReadyH.cons (o := ?_) ?_ (fun KK hK => ?_) ?_; rotate_left; (conv => lhs; whnf; arg 1; whnf)
            · have bkT := trivial
              refine step_rats (by rfl) (by rfl) (by rfl) (by rfl) W2.heap.size hE (HK.out _ hacc).2.1 (by simp; omega) hacc.size ?_
              intro vF w4 hF hg4 ho4
              rw [List.nil_append] at hF
              replace hL := hL.kept hg4 (fun k hk e => by simp [Value.ownBlock] at hk e; omega)
              replace hacc := hacc.grown hg4 hacc.size hE.own
              clear hE hg4 ho4 bkT
              (first | refine hK.out _ _ ?_ (fun hHeldN => ?_) | (go_wp2_with fail; refine hK.out _ _ ?_ (fun hHeldN => ?_)))
              · try dsimp only
                with_reducible exact rx3 (HK.out _ hacc).2.2.1
              clear hK KK hHeld
              have hHeld := hHeldN
              clear hHeldN
              try simp only [Act.put, List.setIfInBounds_toArray, List.set_cons_zero, List.set_cons_succ]
              refine wpAnyH_ready (rs := [7, 9]) (by kernel_rfl) (by simp) ?_
              refine AllReadyH.cons (o := ?_) ?_ (fun KK hK => ?_) ?_; rotate_left; (conv => lhs; whnf; arg 1; whnf)
              · refine step_rats (by rfl) (by rfl) (by rfl) (by rfl) W2.heap.size hF hL (by simp; omega) hacc.size ?_
                intro v7 w7 hV hg7 ho7
                replace hacc := hacc.grown hg7 hacc.size hF.own
                clear hF hL hg7 ho7
                obtain ⟨a3, c3, e3⟩ : ∃ a c, v7 = .slice a (L.length + 1) c := by
                  obtain ⟨a, c, e⟩ := hV.form
                  exact ⟨a, c, by rw [e]; simp⟩
                subst e3
                (first | refine hK.out _ _ ?_ (fun hHeldN => ?_) | (go_wp2_with fail; refine hK.out _ _ ?_ (fun hHeldN => ?_)))
                · try dsimp only
                  with_reducible exact rx3 (HK.out _ hacc).2.2.1
                clear hK KK hHeld
                have hHeld := hHeldN
                clear hHeldN
                try simp only [Act.put, List.setIfInBounds_toArray, List.set_cons_zero, List.set_cons_succ]
                refine tk (oi := ?_) (v := ?_) 8 hP (by kernel_rfl) ?_ ?_ ?_ hHeld ?_; rotate_left 2
                (conv => lhs; whnf; arg 1; whnf); kernel_rfl; focus (intro w hSw; (try dsimp only at hSw); go_simp; all_goals with_reducible rfl)
                simp only [Act.put, List.setIfInBounds_toArray, List.set_cons_zero, List.set_cons_succ]
                refine st (oi := ?_) 9 (by kernel_rfl) ?_ (fun KK hK => ?_); rotate_left; (conv => lhs; whnf; arg 1; whnf)
                go_simp
                have kgT := hacc.size
                have dV := hV.low
                have bT := Rx.new (w7) _ rfl [.slice none 0 0, .slice none 0 0, .slice none 0 0] 45
                replace hV := hV.alloc (.cells #[.slice none 0 0, .slice none 0 0, .slice none 0 0] 45)
                replace hacc := hacc.alloc hacc.size (.cells #[.slice none 0 0, .slice none 0 0, .slice none 0 0] 45)
                generalize w7.heap.size = gT at *
                generalize w7.alloc (.cells #[.slice none 0 0, .slice none 0 0, .slice none 0 0] 45) = WgT at *
                have xVgT : ∀ k, (Value.slice a3 (L.length + 1) c3).ownBlock = some k → k ≠ gT := fun k hk => by have := dV k hk; omega
                clear dV
                (first | refine hK.out _ _ ?_ (fun hHeldN => ?_) | (go_wp2_with fail; refine hK.out _ _ ?_ (fun hHeldN => ?_)))
                · try dsimp only
                  with_reducible exact rx3 (HK.out _ hacc).2.2.1
                clear hK KK hHeld
                have hHeld := hHeldN
                clear hHeldN
                try simp only [Act.put, List.setIfInBounds_toArray, List.set_cons_zero, List.set_cons_succ]
                refine st (oi := ?_) 10 (by kernel_rfl) ?_ (fun KK hK => ?_); rotate_left; (conv => lhs; whnf; arg 1; whnf)
                have t0 := bT.at 0 rfl
                have t1 := bT.at 1 rfl
                have t2 := bT.at 2 rfl
                have u0 := bT.fr 0 rfl
                have u1 := bT.fr 1 rfl
                have u2 := bT.fr 2 rfl
                go_simp
                clear t0 t1 t2 u0 u1 u2
                replace hV := ((hV.other (p := ⟨gT, 0, none⟩) xVgT ((.slice aA L.length cA))).other (p := ⟨gT, 1, none⟩) xVgT ((.slice aG L.length cG))).other (p := ⟨gT, 2, none⟩) xVgT (.slice a3 (L.length + 1) c3)
                replace hacc := ((hacc.setCell (p := ⟨gT, 0, none⟩) kgT (.slice aA L.length cA)).setCell (p := ⟨gT, 1, none⟩) kgT (.slice aG L.length cG)).setCell (p := ⟨gT, 2, none⟩) kgT (.slice a3 (L.length + 1) c3)
                replace bT := bT.put3 (.slice aA L.length cA) (.slice aG L.length cG) (.slice a3 (L.length + 1) c3)
                (first | refine hK.out _ _ ?_ (fun hHeldN => ?_) | (go_wp2_with fail; refine hK.out _ _ ?_ (fun hHeldN => ?_)))
                · try dsimp only
                  with_reducible exact rx3 (HK.out _ hacc).2.2.1
                clear hK KK hHeld
                have hHeld := hHeldN
                clear hHeldN
                try simp only [Act.put, List.setIfInBounds_toArray, List.set_cons_zero, List.set_cons_succ]
                refine wpAnyH_done (by kernel_rfl) ?_ _
                refine NoPanic.normal ?_
                go_wp2_with fail
                go_meet
                exact ⟨_, _, _, _, rfl, rfl, bT, (HK.out _ hacc).1, (HK.out _ hacc).2.1.raws, hV.raws, (HK.out _ hacc).2.2.2⟩
              refine AllReadyH.cons (o := ?_) ?_ (fun KK hK => ?_) AllReadyH.nil; rotate_left; (conv => lhs; whnf; arg 1; whnf)
              go_simp
              have kgT := hacc.size
              have dL := hL.low
              have dF := hF.low
              have bT := Rx.new (w4) _ rfl [.slice none 0 0, .slice none 0 0, .slice none 0 0] 45
              replace hL := hL.alloc (.cells #[.slice none 0 0, .slice none 0 0, .slice none 0 0] 45)
              replace hF := hF.alloc (.cells #[.slice none 0 0, .slice none 0 0, .slice none 0 0] 45)
              replace hacc := hacc.alloc hacc.size (.cells #[.slice none 0 0, .slice none 0 0, .slice none 0 0] 45)
              generalize w4.heap.size = gT at *
              generalize w4.alloc (.cells #[.slice none 0 0, .slice none 0 0, .slice none 0 0] 45) = WgT at *
              have xLgT : gL ≠ gT := by have := dL gL rfl; omega
              clear dL
              have xFgT : ∀ k, vF.ownBlock = some k → k ≠ gT := fun k hk => by have := dF k hk; omega
              clear dF
              (first | refine hK.out _ _ ?_ (fun hHeldN => ?_) | (go_wp2_with fail; refine hK.out _ _ ?_ (fun hHeldN => ?_)))
              · try dsimp only
                with_reducible exact rx3 (HK.out _ hacc).2.2.1
              clear hK KK hHeld
              have hHeld := hHeldN
              clear hHeldN
              try simp only [Act.put, List.setIfInBounds_toArray, List.set_cons_zero, List.set_cons_succ]
              refine st (oi := ?_) 7 (by kernel_rfl) ?_ (fun KK hK => ?_); rotate_left; (conv => lhs; whnf; arg 1; whnf)
              have lkT := bT.lt
              refine step_rats (by rfl) (by rfl) (by rfl) (by rfl) W2.heap.size hF hL (by simp; omega) hacc.size ?_
              intro v7 w7 hV hg7 ho7
              replace bT := bT.kept hg7 (fun e => xFgT _ e rfl)
              have xVgT : ∀ k, v7.ownBlock = some k → k ≠ gT := fun k hk => by
                rcases ho7 with ho | ho
                · exact xFgT k (ho.symm.trans hk)
                · rw [hk] at ho
                  simp only [Option.some.injEq] at ho
                  omega
              clear lkT
              replace hacc := hacc.grown hg7 hacc.size hF.own
              clear hF hL hg7 ho7
              obtain ⟨a3, c3, e3⟩ : ∃ a c, v7 = .slice a (L.length + 1) c := by
                obtain ⟨a, c, e⟩ := hV.form
                exact ⟨a, c, by rw [e]; simp⟩
              subst e3
              (first | refine hK.out _ _ ?_ (fun hHeldN => ?_) | (go_wp2_with fail; refine hK.out _ _ ?_ (fun hHeldN => ?_)))
              · try dsimp only
                with_reducible exact rx3 (HK.out _ hacc).2.2.1
              clear hK KK hHeld
              have hHeld := hHeldN
              clear hHeldN
              try simp only [Act.put, List.setIfInBounds_toArray, List.set_cons_zero, List.set_cons_succ]
              refine tk (oi := ?_) (v := ?_) 8 hP (by kernel_rfl) ?_ ?_ ?_ hHeld ?_; rotate_left 2
              (conv => lhs; whnf; arg 1; whnf); kernel_rfl; focus (intro w hSw; (try dsimp only at hSw); go_simp; all_goals with_reducible rfl)
              simp only [Act.put, List.setIfInBounds_toArray, List.set_cons_zero, List.set_cons_succ]
              refine st (oi := ?_) 10 (by kernel_rfl) ?_ (fun KK hK => ?_); rotate_left; (conv => lhs; whnf; arg 1; whnf)
              have t0 := bT.at 0 rfl
              have t1 := bT.at 1 rfl
              have t2 := bT.at 2 rfl
              have u0 := bT.fr 0 rfl
              have u1 := bT.fr 1 rfl
              have u2 := bT.fr 2 rfl
              go_simp
              clear t0 t1 t2 u0 u1 u2
              replace hV := ((hV.other (p := ⟨gT, 0, none⟩) xVgT ((.slice aA L.length cA))).other (p := ⟨gT, 1, none⟩) xVgT ((.slice aG L.length cG))).other (p := ⟨gT, 2, none⟩) xVgT (.slice a3 (L.length + 1) c3)
              replace hacc := ((hacc.setCell (p := ⟨gT, 0, none⟩) kgT (.slice aA L.length cA)).setCell (p := ⟨gT, 1, none⟩) kgT (.slice aG L.length cG)).setCell (p := ⟨gT, 2, none⟩) kgT (.slice a3 (L.length + 1) c3)
              replace bT := bT.put3 (.slice aA L.length cA) (.slice aG L.length cG) (.slice a3 (L.length + 1) c3)
              (first | refine hK.out _ _ ?_ (fun hHeldN => ?_) | (go_wp2_with fail; refine hK.out _ _ ?_ (fun hHeldN => ?_)))
              · try dsimp only
                with_reducible exact rx3 (HK.out _ hacc).2.2.1
              clear hK KK hHeld
              have hHeld := hHeldN
              clear hHeldN
              try simp only [Act.put, List.setIfInBounds_toArray, List.set_cons_zero, List.set_cons_succ]
              refine wpAnyH_done (by kernel_rfl) ?_ _
              refine NoPanic.normal ?_
              go_wp2_with fail
              go_meet
              exact ⟨_, _, _, _, rfl, rfl, bT, (HK.out _ hacc).1, (HK.out _ hacc).2.1.raws, hV.raws, (HK.out _ hacc).2.2.2⟩
            refine AllReadyH.cons (o := ?_) ?_ (fun KK hK => ?_) AllReadyH.nil; rotate_left; (conv => lhs; whnf; arg 1; whnf)
            go_simp
            have kgT := hacc.size
            have dL := hL.low
            have dE := hE.low
            have bT := Rx.new (WgE) _ rfl [.slice none 0 0, .slice none 0 0, .slice none 0 0] 45
            replace hL := hL.alloc (.cells #[.slice none 0 0, .slice none 0 0, .slice none 0 0] 45)
            replace hE := hE.alloc (.cells #[.slice none 0 0, .slice none 0 0, .slice none 0 0] 45)
            replace hacc := hacc.alloc hacc.size (.cells #[.slice none 0 0, .slice none 0 0, .slice none 0 0] 45)
            generalize WgE.heap.size = gT at *
            generalize WgE.alloc (.cells #[.slice none 0 0, .slice none 0 0, .slice none 0 0] 45) = WgT at *
            have xLgT : gL ≠ gT := by have := dL gL rfl; omega
            clear dL
            have xEgT : gE ≠ gT := by have := dE gE rfl; omega
            clear dE
            (first | refine hK.out _ _ ?_ (fun hHeldN => ?_) | (go_wp2_with fail; refine hK.out _ _ ?_ (fun hHeldN => ?_)))
            · try dsimp only
              with_reducible exact rx3 (HK.out _ hacc).2.2.1
            clear hK KK hHeld
            have hHeld := hHeldN
            clear hHeldN
            try simp only [Act.put, List.setIfInBounds_toArray, List.set_cons_zero, List.set_cons_succ]
            refine st (oi := ?_) 4 (by kernel_rfl) ?_ (fun KK hK => ?_); rotate_left; (conv => lhs; whnf; arg 1; whnf)
            have bkT := bT.lt
            refine step_rats (by rfl) (by rfl) (by rfl) (by rfl) W2.heap.size hE (HK.out _ hacc).2.1 (by simp; omega) hacc.size ?_
            intro vF w4 hF hg4 ho4
            rw [List.nil_append] at hF
            replace hL := hL.kept hg4 (fun k hk e => by simp [Value.ownBlock] at hk e; omega)
            replace bT := bT.kept hg4 (fun e => by simp [Value.ownBlock] at e; omega)
            have xFgT : ∀ k, vF.ownBlock = some k → k ≠ gT := fun k hk => by
              rcases ho4 with ho | ho <;> rw [hk] at ho <;> simp [Value.ownBlock] at ho <;> omega
            replace hacc := hacc.grown hg4 hacc.size hE.own
            clear hE hg4 ho4 bkT
            (first | refine hK.out _ _ ?_ (fun hHeldN => ?_) | (go_wp2_with fail; refine hK.out _ _ ?_ (fun hHeldN => ?_)))
            · try dsimp only
              with_reducible exact rx3 (HK.out _ hacc).2.2.1
            clear hK KK hHeld
            have hHeld := hHeldN
            clear hHeldN
            try simp only [Act.put, List.setIfInBounds_toArray, List.set_cons_zero, List.set_cons_succ]
            refine st (oi := ?_) 7 (by kernel_rfl) ?_ (fun KK hK => ?_); rotate_left; (conv => lhs; whnf; arg 1; whnf)
            have lkT := bT.lt
            refine step_rats (by rfl) (by rfl) (by rfl) (by rfl) W2.heap.size hF hL (by simp; omega) hacc.size ?_
            intro v7 w7 hV hg7 ho7
            replace bT := bT.kept hg7 (fun e => xFgT _ e rfl)
            have xVgT : ∀ k, v7.ownBlock = some k → k ≠ gT := fun k hk => by
              rcases ho7 with ho | ho
              · exact xFgT k (ho.symm.trans hk)
              · rw [hk] at ho
                simp only [Option.some.injEq] at ho
                omega
            clear lkT
            replace hacc := hacc.grown hg7 hacc.size hF.own
            clear hF hL hg7 ho7
            obtain ⟨a3, c3, e3⟩ : ∃ a c, v7 = .slice a (L.length + 1) c := by
              obtain ⟨a, c, e⟩ := hV.form
              exact ⟨a, c, by rw [e]; simp⟩
            subst e3
            (first | refine hK.out _ _ ?_ (fun hHeldN => ?_) | (go_wp2_with fail; refine hK.out _ _ ?_ (fun hHeldN => ?_)))
            · try dsimp only
              with_reducible exact rx3 (HK.out _ hacc).2.2.1
            clear hK KK hHeld
            have hHeld := hHeldN
            clear hHeldN
            try simp only [Act.put, List.setIfInBounds_toArray, List.set_cons_zero, List.set_cons_succ]
            refine tk (oi := ?_) (v := ?_) 8 hP (by kernel_rfl) ?_ ?_ ?_ hHeld ?_; rotate_left 2
            (conv => lhs; whnf; arg 1; whnf); kernel_rfl; focus (intro w hSw; (try dsimp only at hSw); go_simp; all_goals with_reducible rfl)
            simp only [Act.put, List.setIfInBounds_toArray, List.set_cons_zero, List.set_cons_succ]
            refine st (oi := ?_) 10 (by kernel_rfl) ?_ (fun KK hK => ?_); rotate_left; (conv => lhs; whnf; arg 1; whnf)
            have t0 := bT.at 0 rfl
            have t1 := bT.at 1 rfl
            have t2 := bT.at 2 rfl
            have u0 := bT.fr 0 rfl
            have u1 := bT.fr 1 rfl
            have u2 := bT.fr 2 rfl
            go_simp
            clear t0 t1 t2 u0 u1 u2
            replace hV := ((hV.other (p := ⟨gT, 0, none⟩) xVgT ((.slice aA L.length cA))).other (p := ⟨gT, 1, none⟩) xVgT ((.slice aG L.length cG))).other (p := ⟨gT, 2, none⟩) xVgT (.slice a3 (L.length + 1) c3)
            replace hacc := ((hacc.setCell (p := ⟨gT, 0, none⟩) kgT (.slice aA L.length cA)).setCell (p := ⟨gT, 1, none⟩) kgT (.slice aG L.length cG)).setCell (p := ⟨gT, 2, none⟩) kgT (.slice a3 (L.length + 1) c3)
            replace bT := bT.put3 (.slice aA L.length cA) (.slice aG L.length cG) (.slice a3 (L.length + 1) c3)
            (first | refine hK.out _ _ ?_ (fun hHeldN => ?_) | (go_wp2_with fail; refine hK.out _ _ ?_ (fun hHeldN => ?_)))
            · try dsimp only
              with_reducible exact rx3 (HK.out _ hacc).2.2.1
            clear hK KK hHeld
            have hHeld := hHeldN
            clear hHeldN
            try simp only [Act.put, List.setIfInBounds_toArray, List.set_cons_zero, List.set_cons_succ]
            refine wpAnyH_done (by kernel_rfl) ?_ _
            refine NoPanic.normal ?_
            go_wp2_with fail
            go_meet
            exact ⟨_, _, _, _, rfl, rfl, bT, (HK.out _ hacc).1, (HK.out _ hacc).2.1.raws, hV.raws, (HK.out _ hacc).2.2.2⟩
          refine AllReadyH.cons (o := ?_) ?_ (fun KK hK => ?_) AllReadyH.nil; rotate_left; (conv => lhs; whnf; arg 1; whnf)
          go_simp
          have kgT := hacc.size
          have dL := hL.low
          have bT := Rx.new (WgL) _ rfl [.slice none 0 0, .slice none 0 0, .slice none 0 0] 45
          replace hL := hL.alloc (.cells #[.slice none 0 0, .slice none 0 0, .slice none 0 0] 45)
          replace hacc := hacc.alloc hacc.size (.cells #[.slice none 0 0, .slice none 0 0, .slice none 0 0] 45)
          generalize WgL.heap.size = gT at *
          generalize WgL.alloc (.cells #[.slice none 0 0, .slice none 0 0, .slice none 0 0] 45) = WgT at *
          have xLgT : gL ≠ gT := by have := dL gL rfl; omega
          clear dL
          (first | refine hK.out _ _ ?_ (fun hHeldN => ?_) | (go_wp2_with fail; refine hK.out _ _ ?_ (fun hHeldN => ?_)))
          · try dsimp only
            with_reducible exact rx3 (HK.out _ hacc).2.2.1
          clear hK KK hHeld
          have hHeld := hHeldN
          clear hHeldN
          try simp only [Act.put, List.setIfInBounds_toArray, List.set_cons_zero, List.set_cons_succ]
          refine st (oi := ?_) 2 (by kernel_rfl) ?_ (fun KK hK => ?_); rotate_left; (conv => lhs; whnf; arg 1; whnf)
          go_simp
          have kgE := hacc.size
          have dL := hL.low
          have dT := bT.lt
          have hE : Rats (WgT.alloc (.cells #[] 27)) W2.heap.size (.slice (some ⟨WgT.heap.size, 0, none⟩) 0 0) [] := Rats.lit WgT hacc.size [] (by simp)
          replace hL := hL.alloc (.cells #[] 27)
          replace bT := bT.alloc (.cells #[] 27)
          replace hacc := hacc.alloc hacc.size (.cells #[] 27)
          generalize WgT.heap.size = gE at *
          generalize WgT.alloc (.cells #[] 27) = WgE at *
          have xLgE : gL ≠ gE := by have := dL gL rfl; omega
          clear dL
          have xTgE : gT ≠ gE := by omega
          clear dT
          (first | refine hK.out _ _ ?_ (fun hHeldN => ?_) | (go_wp2_with fail; refine hK.out _ _ ?_ (fun hHeldN => ?_)))
          · try dsimp only
            with_reducible exact rx3 (HK.out _ hacc).2.2.1
          clear hK KK hHeld
          have hHeld := hHeldN
          clear hHeldN
          try simp only [Act.put, List.setIfInBounds_toArray, List.set_cons_zero, List.set_cons_succ]
          refine st (oi := ?_) 4 (by kernel_rfl) ?_ (fun KK hK => ?_); rotate_left; (conv => lhs; whnf; arg 1; whnf)
          have bkT := bT.lt
          refine step_rats (by rfl) (by rfl) (by rfl) (by rfl) W2.heap.size hE (HK.out _ hacc).2.1 (by simp; omega) hacc.size ?_
          intro vF w4 hF hg4 ho4
          rw [List.nil_append] at hF
          replace hL := hL.kept hg4 (fun k hk e => by simp [Value.ownBlock] at hk e; omega)
          replace bT := bT.kept hg4 (fun e => by simp [Value.ownBlock] at e; omega)
          have xFgT : ∀ k, vF.ownBlock = some k → k ≠ gT := fun k hk => by
            rcases ho4 with ho | ho <;> rw [hk] at ho <;> simp [Value.ownBlock] at ho <;> omega
          replace hacc := hacc.grown hg4 hacc.size hE.own
          clear hE hg4 ho4 bkT
          (first | refine hK.out _ _ ?_ (fun hHeldN => ?_) | (go_wp2_with fail; refine hK.out _ _ ?_ (fun hHeldN => ?_)))
          · try dsimp only
            with_reducible exact rx3 (HK.out _ hacc).2.2.1
          clear hK KK hHeld
          have hHeld := hHeldN
          clear hHeldN
          try simp only [Act.put, List.setIfInBounds_toArray, List.set_cons_zero, List.set_cons_succ]
          refine st (oi := ?_) 7 (by kernel_rfl) ?_ (fun KK hK => ?_); rotate_left; (conv => lhs; whnf; arg 1; whnf)
          have lkT := bT.lt
          refine step_rats (by rfl) (by rfl) (by rfl) (by rfl) W2.heap.size hF hL (by simp; omega) hacc.size ?_
          intro v7 w7 hV hg7 ho7
          replace bT := bT.kept hg7 (fun e => xFgT _ e rfl)
          have xVgT : ∀ k, v7.ownBlock = some k → k ≠ gT := fun k hk => by
            rcases ho7 with ho | ho
            · exact xFgT k (ho.symm.trans hk)
            · rw [hk] at ho
              simp only [Option.some.injEq] at ho
              omega
          clear lkT
          replace hacc := hacc.grown hg7 hacc.size hF.own
          clear hF hL hg7 ho7
          obtain ⟨a3, c3, e3⟩ : ∃ a c, v7 = .slice a (L.length + 1) c := by
            obtain ⟨a, c, e⟩ := hV.form
            exact ⟨a, c, by rw [e]; simp⟩
          subst e3
          (first | refine hK.out _ _ ?_ (fun hHeldN => ?_) | (go_wp2_with fail; refine hK.out _ _ ?_ (fun hHeldN => ?_)))
          · try dsimp only
            with_reducible exact rx3 (HK.out _ hacc).2.2.1
          clear hK KK hHeld
          have hHeld := hHeldN
          clear hHeldN
          try simp only [Act.put, List.setIfInBounds_toArray, List.set_cons_zero, List.set_cons_succ]
          refine tk (oi := ?_) (v := ?_) 8 hP (by kernel_rfl) ?_ ?_ ?_ hHeld ?_; rotate_left 2
          (conv => lhs; whnf; arg 1; whnf); kernel_rfl; focus (intro w hSw; (try dsimp only at hSw); go_simp; all_goals with_reducible rfl)
          simp only [Act.put, List.setIfInBounds_toArray, List.set_cons_zero, List.set_cons_succ]
          refine st (oi := ?_) 10 (by kernel_rfl) ?_ (fun KK hK => ?_); rotate_left; (conv => lhs; whnf; arg 1; whnf)
          have t0 := bT.at 0 rfl
          have t1 := bT.at 1 rfl
          have t2 := bT.at 2 rfl
          have u0 := bT.fr 0 rfl
          have u1 := bT.fr 1 rfl
          have u2 := bT.fr 2 rfl
          go_simp
          clear t0 t1 t2 u0 u1 u2
          replace hV := ((hV.other (p := ⟨gT, 0, none⟩) xVgT ((.slice aA L.length cA))).other (p := ⟨gT, 1, none⟩) xVgT ((.slice aG L.length cG))).other (p := ⟨gT, 2, none⟩) xVgT (.slice a3 (L.length + 1) c3)
          replace hacc := ((hacc.setCell (p := ⟨gT, 0, none⟩) kgT (.slice aA L.length cA)).setCell (p := ⟨gT, 1, none⟩) kgT (.slice aG L.length cG)).setCell (p := ⟨gT, 2, none⟩) kgT (.slice a3 (L.length + 1) c3)
          replace bT := bT.put3 (.slice aA L.length cA) (.slice aG L.length cG) (.slice a3 (L.length + 1) c3)
          (first | refine hK.out _ _ ?_ (fun hHeldN => ?_) | (go_wp2_with fail; refine hK.out _ _ ?_ (fun hHeldN => ?_)))
          · try dsimp only
            with_reducible exact rx3 (HK.out _ hacc).2.2.1
          clear hK KK hHeld
          have hHeld := hHeldN
          clear hHeldN
          try simp only [Act.put, List.setIfInBounds_toArray, List.set_cons_zero, List.set_cons_succ]
          refine wpAnyH_done (by kernel_rfl) ?_ _
          refine NoPanic.normal ?_
          go_wp2_with fail
          go_meet
          exact ⟨_, _, _, _, rfl, rfl, bT, (HK.out _ hacc).1, (HK.out _ hacc).2.1.raws, hV.raws, (HK.out _ hacc).2.2.2⟩
        refine AllReadyH.cons (o := ?_) ?_ (fun KK hK => ?_) AllReadyH.nil; rotate_left; (conv => lhs; whnf; arg 1; whnf)
        go_simp
        have kgT := hacc.size
        have bT := Rx.new (WD) _ rfl [.slice none 0 0, .slice none 0 0, .slice none 0 0] 45
        replace hacc := hacc.alloc hacc.size (.cells #[.slice none 0 0, .slice none 0 0, .slice none 0 0] 45)
        generalize WD.heap.size = gT at *
        generalize WD.alloc (.cells #[.slice none 0 0, .slice none 0 0, .slice none 0 0] 45) = WgT at *
        (first | refine hK.out _ _ ?_ (fun hHeldN => ?_) | (go_wp2_with fail; refine hK.out _ _ ?_ (fun hHeldN => ?_)))
        · try dsimp only
          with_reducible exact rx3 (HK.out _ hacc).2.2.1
        clear hK KK hHeld
        have hHeld := hHeldN
        clear hHeldN
        try simp only [Act.put, List.setIfInBounds_toArray, List.set_cons_zero, List.set_cons_succ]
        refine wpAnyH_ready (rs := [2, 6]) (by kernel_rfl) (by simp) ?_
        refine AllReadyH.cons (o := ?_) ?_ (fun KK hK => ?_) ?_; rotate_left; (conv => lhs; whnf; arg 1; whnf)
        · go_simp
          have kgE := hacc.size
          have dT := bT.lt
          have hE : Rats (WgT.alloc (.cells #[] 27)) W2.heap.size (.slice (some ⟨WgT.heap.size, 0, none⟩) 0 0) [] := Rats.lit WgT hacc.size [] (by simp)
          replace bT := bT.alloc (.cells #[] 27)
          replace hacc := hacc.alloc hacc.size (.cells #[] 27)
          generalize WgT.heap.size = gE at *
          generalize WgT.alloc (.cells #[] 27) = WgE at *
          have xTgE : gT ≠ gE := by omega
          clear dT
          (first | refine hK.out _ _ ?_ (fun hHeldN => ?_) | (go_wp2_with fail; refine hK.out _ _ ?_ (fun hHeldN => ?_)))
          · try dsimp only
            with_reducible exact rx3 (HK.out _ hacc).2.2.1
          clear hK KK hHeld
          have hHeld := hHeldN
          clear hHeldN
          try simp only [Act.put, List.setIfInBounds_toArray, List.set_cons_zero, List.set_cons_succ]
          refine wpAnyH_ready (rs := [4, 6]) (by kernel_rfl) (by simp) ?_
          refine AllReadyH.cons (o := ?_) ?_ (fun KK hK => ?_) ?_; rotate_left; (conv => lhs; whnf; arg 1; whnf)
          · have bkT := bT.lt
            refine step_rats (by rfl) (by rfl) (by rfl) (by rfl) W2.heap.size hE (HK.out _ hacc).2.1 (by simp; omega) hacc.size ?_
            intro vF w4 hF hg4 ho4
            rw [List.nil_append] at hF
            replace bT := bT.kept hg4 (fun e => by simp [Value.ownBlock] at e; omega)
            have xFgT : ∀ k, vF.ownBlock = some k → k ≠ gT := fun k hk => by
              rcases ho4 with ho | ho <;> rw [hk] at ho <;> simp [Value.ownBlock] at ho <;> omega
            replace hacc := hacc.grown hg4 hacc.size hE.own
            clear hE hg4 ho4 bkT
            (first | refine hK.out _ _ ?_ (fun hHeldN => ?_) | (go_wp2_with fail; refine hK.out _ _ ?_ (fun hHeldN => ?_)))
            · try dsimp only
              with_reducible exact rx3 (HK.out _ hacc).2.2.1
            clear hK KK hHeld
            have hHeld := hHeldN
            clear hHeldN
            try simp only [Act.put, List.setIfInBounds_toArray, List.set_cons_zero, List.set_cons_succ]
            refine st (oi := ?_) 6 (by kernel_rfl) ?_ (fun KK hK => ?_); rotate_left; (conv => lhs; whnf; arg 1; whnf)
            go_simp
            have kgL := hacc.size
            have dT := bT.lt
            have dF := hF.low
            have hL : Rats (w4.alloc (.cells #[.bool rn, .string s1, .string s2] 27)) W2.heap.size (.slice (some ⟨w4.heap.size, 0, none⟩) 1 1) [⟨rn, s1, s2⟩] := Rats.lit w4 hacc.size [⟨rn, s1, s2⟩] (by simp)
            replace bT := bT.alloc (.cells #[.bool rn, .string s1, .string s2] 27)
            replace hF := hF.alloc (.cells #[.bool rn, .string s1, .string s2] 27)
            replace hacc := hacc.alloc hacc.size (.cells #[.bool rn, .string s1, .string s2] 27)
            generalize w4.heap.size = gL at *
            generalize w4.alloc (.cells #[.bool rn, .string s1, .string s2] 27) = WgL at *
            have xTgL : gT ≠ gL := by omega
            clear dT
            have xFgL : ∀ k, vF.ownBlock = some k → k ≠ gL := fun k hk => by have := dF k hk; omega
            clear dF
            (first | refine hK.out _ _ ?_ (fun hHeldN => ?_) | (go_wp2_with fail; refine hK.out _ _ ?_ (fun hHeldN => ?_)))
            · try dsimp only
              with_reducible exact rx3 (HK.out _ hacc).2.2.1
            clear hK KK hHeld
            have hHeld := hHeldN
            clear hHeldN
            try simp only [Act.put, List.setIfInBounds_toArray, List.set_cons_zero, List.set_cons_succ]
            refine st (oi := ?_) 7 (by kernel_rfl) ?_ (fun KK hK => ?_); rotate_left; (conv => lhs; whnf; arg 1; whnf)
            have lkT := bT.lt
            refine step_rats (by rfl) (by rfl) (by rfl) (by rfl) W2.heap.size hF hL (by simp; omega) hacc.size ?_
            intro v7 w7 hV hg7 ho7
            replace bT := bT.kept hg7 (fun e => xFgT _ e rfl)
            have xVgT : ∀ k, v7.ownBlock = some k → k ≠ gT := fun k hk => by
              rcases ho7 with ho | ho
              · exact xFgT k (ho.symm.trans hk)
              · rw [hk] at ho
                simp only [Option.some.injEq] at ho
                omega
            clear lkT
            replace hacc := hacc.grown hg7 hacc.size hF.own
            clear hF hL hg7 ho7
            obtain ⟨a3, c3, e3⟩ : ∃ a c, v7 = .slice a (L.length + 1) c := by
              obtain ⟨a, c, e⟩ := hV.form
              exact ⟨a, c, by rw [e]; simp⟩
            subst e3
            (first | refine hK.out _ _ ?_ (fun hHeldN => ?_) | (go_wp2_with fail; refine hK.out _ _ ?_ (fun hHeldN => ?_)))
            · try dsimp only
              with_reducible exact rx3 (HK.out _ hacc).2.2.1
            clear hK KK hHeld
            have hHeld := hHeldN
            clear hHeldN
            try simp only [Act.put, List.setIfInBounds_toArray, List.set_cons_zero, List.set_cons_succ]
            refine tk (oi := ?_) (v := ?_) 8 hP (by kernel_rfl) ?_ ?_ ?_ hHeld ?_; rotate_left 2
            (conv => lhs; whnf; arg 1; whnf); kernel_rfl; focus (intro w hSw; (try dsimp only at hSw); go_simp; all_goals with_reducible rfl)
            simp only [Act.put, List.setIfInBounds_toArray, List.set_cons_zero, List.set_cons_succ]
            refine st (oi := ?_) 10 (by kernel_rfl) ?_ (fun KK hK => ?_); rotate_left; (conv => lhs; whnf; arg 1; whnf)
            have t0 := bT.at 0 rfl
            have t1 := bT.at 1 rfl
            have t2 := bT.at 2 rfl
            have u0 := bT.fr 0 rfl
            have u1 := bT.fr 1 rfl
            have u2 := bT.fr 2 rfl
            go_simp
            clear t0 t1 t2 u0 u1 u2
            replace hV := ((hV.other (p := ⟨gT, 0, none⟩) xVgT ((.slice aA L.length cA))).other (p := ⟨gT, 1, none⟩) xVgT ((.slice aG L.length cG))).other (p := ⟨gT, 2, none⟩) xVgT (.slice a3 (L.length + 1) c3)
            replace hacc := ((hacc.setCell (p := ⟨gT, 0, none⟩) kgT (.slice aA L.length cA)).setCell (p := ⟨gT, 1, none⟩) kgT (.slice aG L.length cG)).setCell (p := ⟨gT, 2, none⟩) kgT (.slice a3 (L.length + 1) c3)
            replace bT := bT.put3 (.slice aA L.length cA) (.slice aG L.length cG) (.slice a3 (L.length + 1) c3)
            (first | refine hK.out _ _ ?_ (fun hHeldN => ?_) | (go_wp2_with fail; refine hK.out _ _ ?_ (fun hHeldN => ?_)))
            · try dsimp only
              with_reducible exact rx3 (HK.out _ hacc).2.2.1
            clear hK KK hHeld
            have hHeld := hHeldN
            clear hHeldN
            try simp only [Act.put, List.setIfInBounds_toArray, List.set_cons_zero, List.set_cons_succ]
            refine wpAnyH_done (by kernel_rfl) ?_ _
            refine NoPanic.normal ?_
            go_wp2_with fail
            go_meet
            exact ⟨_, _, _, _, rfl, rfl, bT, (HK.out _ hacc).1, (HK.out _ hacc).2.1.raws, hV.raws, (HK.out _ hacc).2.2.2⟩
          refine AllReadyH.cons (o := ?_) ?_ (fun KK hK => ?_) AllReadyH.nil; rotate_left; (conv => lhs; whnf; arg 1; whnf)
          go_simp
          have kgL := hacc.size
          have dT := bT.lt
          have dE := hE.low
          have hL : Rats (WgE.alloc (.cells #[.bool rn, .string s1, .string s2] 27)) W2.heap.size (.slice (some ⟨WgE.heap.size, 0, none⟩) 1 1) [⟨rn, s1, s2⟩] := Rats.lit WgE hacc.size [⟨rn, s1, s2⟩] (by simp)
          replace bT := bT.alloc (.cells #[.bool rn, .string s1, .string s2] 27)
          replace hE := hE.alloc (.cells #[.bool rn, .string s1, .string s2] 27)
          replace hacc := hacc.alloc hacc.size (.cells #[.bool rn, .string s1, .string s2] 27)
          generalize WgE.heap.size = gL at *
          generalize WgE.alloc (.cells #[.bool rn, .string s1, .string s2] 27) = WgL at *
          have xTgL : gT ≠ gL := by omega
          clear dT
          have xEgL : gE ≠ gL := by have := dE gE rfl; omega
          clear dE
          (first | refine hK.out _ _ ?_ (fun hHeldN => ?_) | (go_wp2_with fail; refine hK.out _ _ ?_ (fun hHeldN => ?_)))
          · try dsimp only
            with_reducible exact rx3 (HK.out _ hacc).2.2.1
          clear hK KK hHeld
          have hHeld := hHeldN
          clear hHeldN
          try simp only [Act.put, List.setIfInBounds_toArray, List.set_cons_zero, List.set_cons_succ]
          refine st (oi := ?_) 4 (by kernel_rfl) ?_ (fun KK hK => ?_); rotate_left; (conv => lhs; whnf; arg 1; whnf)
          have bkT := bT.lt
          refine step_rats (by rfl) (by rfl) (by rfl) (by rfl) W2.heap.size hE (HK.out _ hacc).2.1 (by simp; omega) hacc.size ?_
          intro vF w4 hF hg4 ho4
          rw [List.nil_append] at hF
          replace hL := hL.kept hg4 (fun k hk e => by simp [Value.ownBlock] at hk e; omega)
          replace bT := bT.kept hg4 (fun e => by simp [Value.ownBlock] at e; omega)
          have xFgT : ∀ k, vF.ownBlock = some k → k ≠ gT := fun k hk => by
            rcases ho4 with ho | ho <;> rw [hk] at ho <;> simp [Value.ownBlock] at ho <;> omega
          replace hacc := hacc.grown hg4 hacc.size hE.own
          clear hE hg4 ho4 bkT
          (first | refine hK.out _ _ ?_ (fun hHeldN => ?_) | (go_wp2_with fail; refine hK.out _ _ ?_ (fun hHeldN => ?_)))
          · try dsimp only
            with_reducible exact rx3 (HK.out _ hacc).2.2.1
          clear hK KK hHeld
          have hHeld := hHeldN
          clear hHeldN
          try simp only [Act.put, List.setIfInBounds_toArray, List.set_cons_zero, List.set_cons_succ]
          refine st (oi := ?_) 7 (by kernel_rfl) ?_ (fun KK hK => ?_); rotate_left; (conv => lhs; whnf; arg 1; whnf)
          have lkT := bT.lt
          refine step_rats (by rfl) (by rfl) (by rfl) (by rfl) W2.heap.size hF hL (by simp; omega) hacc.size ?_
          intro v7 w7 hV hg7 ho7
          replace bT := bT.kept hg7 (fun e => xFgT _ e rfl)
          have xVgT : ∀ k, v7.ownBlock = some k → k ≠ gT := fun k hk => by
            rcases ho7 with ho | ho
            · exact xFgT k (ho.symm.trans hk)
            · rw [hk] at ho
              simp only [Option.some.injEq] at ho
              omega
          clear lkT
          replace hacc := hacc.grown hg7 hacc.size hF.own
          clear hF hL hg7 ho7
          obtain ⟨a3, c3, e3⟩ : ∃ a c, v7 = .slice a (L.length + 1) c := by
            obtain ⟨a, c, e⟩ := hV.form
            exact ⟨a, c, by rw [e]; simp⟩
          subst e3
          (first | refine hK.out _ _ ?_ (fun hHeldN => ?_) | (go_wp2_with fail; refine hK.out _ _ ?_ (fun hHeldN => ?_)))
          · try dsimp only
            with_reducible exact rx3 (HK.out _ hacc).2.2.1
          clear hK KK hHeld
          have hHeld := hHeldN
          clear hHeldN
          try simp only [Act.put, List.setIfInBounds_toArray, List.set_cons_zero, List.set_cons_succ]
          refine tk (oi := ?_) (v := ?_) 8 hP (by kernel_rfl) ?_ ?_ ?_ hHeld ?_; rotate_left 2
          (conv => lhs; whnf; arg 1; whnf); kernel_rfl; focus (intro w hSw; (try dsimp only at hSw); go_simp; all_goals with_reducible rfl)
          simp only [Act.put, List.setIfInBounds_toArray, List.set_cons_zero, List.set_cons_succ]
          refine st (oi := ?_) 10 (by kernel_rfl) ?_ (fun KK hK => ?_); rotate_left; (conv => lhs; whnf; arg 1; whnf)
          have t0 := bT.at 0 rfl
          have t1 := bT.at 1 rfl
          have t2 := bT.at 2 rfl
          have u0 := bT.fr 0 rfl
          have u1 := bT.fr 1 rfl
          have u2 := bT.fr 2 rfl
          go_simp
          clear t0 t1 t2 u0 u1 u2
          replace hV := ((hV.other (p := ⟨gT, 0, none⟩) xVgT ((.slice aA L.length cA))).other (p := ⟨gT, 1, none⟩) xVgT ((.slice aG L.length cG))).other (p := ⟨gT, 2, none⟩) xVgT (.slice a3 (L.length + 1) c3)
          replace hacc := ((hacc.setCell (p := ⟨gT, 0, none⟩) kgT (.slice aA L.length cA)).setCell (p := ⟨gT, 1, none⟩) kgT (.slice aG L.length cG)).setCell (p := ⟨gT, 2, none⟩) kgT (.slice a3 (L.length + 1) c3)
          replace bT := bT.put3 (.slice aA L.length cA) (.slice aG L.length cG) (.slice a3 (L.length + 1) c3)
          (first | refine hK.out _ _ ?_ (fun hHeldN => ?_) | (go_wp2_with fail; refine hK.out _ _ ?_ (fun hHeldN => ?_)))
          · try dsimp only
            with_reducible exact rx3 (HK.out _ hacc).2.2.1
          clear hK KK hHeld
          have hHeld := hHeldN
          clear hHeldN
          try simp only [Act.put, List.setIfInBounds_toArray, List.set_cons_zero, List.set_cons_succ]
          refine wpAnyH_done (by kernel_rfl) ?_ _
          refine NoPanic.normal ?_
          go_wp2_with fail
          go_meet
          exact ⟨_, _, _, _, rfl, rfl, bT, (HK.out _ hacc).1, (HK.out _ hacc).2.1.raws, hV.raws, (HK.out _ hacc).2.2.2⟩
        refine AllReadyH.cons (o := ?_) ?_ (fun KK hK => ?_) AllReadyH.nil; rotate_left; (conv => lhs; whnf; arg 1; whnf)
        go_simp
        have kgL := hacc.size
        have dT := bT.lt
        have hL : Rats (WgT.alloc (.cells #[.bool rn, .string s1, .string s2] 27)) W2.heap.size (.slice (some ⟨WgT.heap.size, 0, none⟩) 1 1) [⟨rn, s1, s2⟩] := Rats.lit WgT hacc.size [⟨rn, s1, s2⟩] (by simp)
        replace bT := bT.alloc (.cells #[.bool rn, .string s1, .string s2] 27)
        replace hacc := hacc.alloc hacc.size (.cells #[.bool rn, .string s1, .string s2] 27)
        generalize WgT.heap.size = gL at *
        generalize WgT.alloc (.cells #[.bool rn, .string s1, .string s2] 27) = WgL at *
        have xTgL : gT ≠ gL := by omega
        clear dT
        (first | refine hK.out _ _ ?_ (fun hHeldN => ?_) | (go_wp2_with fail; refine hK.out _ _ ?_ (fun hHeldN => ?_)))
        · try dsimp only
          with_reducible exact rx3 (HK.out _ hacc).2.2.1
        clear hK KK hHeld
        have hHeld := hHeldN
        clear hHeldN
        try simp only [Act.put, List.setIfInBounds_toArray, List.set_cons_zero, List.set_cons_succ]
        refine st (oi := ?_) 2 (by kernel_rfl) ?_ (fun KK hK => ?_); rotate_left; (conv => lhs; whnf; arg 1; whnf)
        go_simp
        have kgE := hacc.size
        have dT := bT.lt
        have dL := hL.low
        have hE : Rats (WgL.alloc (.cells #[] 27)) W2.heap.size (.slice (some ⟨WgL.heap.size, 0, none⟩) 0 0) [] := Rats.lit WgL hacc.size [] (by simp)
        replace bT := bT.alloc (.cells #[] 27)
        replace hL := hL.alloc (.cells #[] 27)
        replace hacc := hacc.alloc hacc.size (.cells #[] 27)
        generalize WgL.heap.size = gE at *
        generalize WgL.alloc (.cells #[] 27) = WgE at *
        have xTgE : gT ≠ gE := by omega
        clear dT
        have xLgE : gL ≠ gE := by have := dL gL rfl; omega
        clear dL
        (first | refine hK.out _ _ ?_ (fun hHeldN => ?_) | (go_wp2_with fail; refine hK.out _ _ ?_ (fun hHeldN => ?_)))
        · try dsimp only
          with_reducible exact rx3 (HK.out _ hacc).2.2.1
        clear hK KK hHeld
        have hHeld := hHeldN
        clear hHeldN
        try simp only [Act.put, List.setIfInBounds_toArray, List.set_cons_zero, List.set_cons_succ]
        refine st (oi := ?_) 4 (by kernel_rfl) ?_ (fun KK hK => ?_); rotate_left; (conv => lhs; whnf; arg 1; whnf)
        have bkT := bT.lt
        refine step_rats (by rfl) (by rfl) (by rfl) (by rfl) W2.heap.size hE (HK.out _ hacc).2.1 (by simp; omega) hacc.size ?_
        intro vF w4 hF hg4 ho4
        rw [List.nil_append] at hF
        replace hL := hL.kept hg4 (fun k hk e => by simp [Value.ownBlock] at hk e; omega)
        replace bT := bT.kept hg4 (fun e => by simp [Value.ownBlock] at e; omega)
        have xFgT : ∀ k, vF.ownBlock = some k → k ≠ gT := fun k hk => by
          rcases ho4 with ho | ho <;> rw [hk] at ho <;> simp [Value.ownBlock] at ho <;> omega
        replace hacc := hacc.grown hg4 hacc.size hE.own
        clear hE hg4 ho4 bkT
        (first | refine hK.out _ _ ?_ (fun hHeldN => ?_) | (go_wp2_with fail; refine hK.out _ _ ?_ (fun hHeldN => ?_)))
        · try dsimp only
          with_reducible exact rx3 (HK.out _ hacc).2.2.1
        clear hK KK hHeld
        have hHeld := hHeldN
        clear hHeldN
        try simp only [Act.put, List.setIfInBounds_toArray, List.set_cons_zero, List.set_cons_succ]
        refine st (oi := ?_) 7 (by kernel_rfl) ?_ (fun KK hK => ?_); rotate_left; (conv => lhs; whnf; arg 1; whnf)
        have lkT := bT.lt
        refine step_rats (by rfl) (by rfl) (by rfl) (by rfl) W2.heap.size hF hL (by simp; omega) hacc.size ?_
        intro v7 w7 hV hg7 ho7
        replace bT := bT.kept hg7 (fun e => xFgT _ e rfl)
        have xVgT : ∀ k, v7.ownBlock = some k → k ≠ gT := fun k hk => by
          rcases ho7 with ho | ho
          · exact xFgT k (ho.symm.trans hk)
          · rw [hk] at ho
            simp only [Option.some.injEq] at ho
            omega
        clear lkT
        replace hacc := hacc.grown hg7 hacc.size hF.own
        clear hF hL hg7 ho7
        obtain ⟨a3, c3, e3⟩ : ∃ a c, v7 = .slice a (L.length + 1) c := by
          obtain ⟨a, c, e⟩ := hV.form
          exact ⟨a, c, by rw [e]; simp⟩
        subst e3
        (first | refine hK.out _ _ ?_ (fun hHeldN => ?_) | (go_wp2_with fail; refine hK.out _ _ ?_ (fun hHeldN => ?_)))
        · try dsimp only
          with_reducible exact rx3 (HK.out _ hacc).2.2.1
        clear hK KK hHeld
        have hHeld := hHeldN
        clear hHeldN
        try simp only [Act.put, List.setIfInBounds_toArray, List.set_cons_zero, List.set_cons_succ]
        refine tk (oi := ?_) (v := ?_) 8 hP (by kernel_rfl) ?_ ?_ ?_ hHeld ?_; rotate_left 2
        (conv => lhs; whnf; arg 1; whnf); kernel_rfl; focus (intro w hSw; (try dsimp only at hSw); go_simp; all_goals with_reducible rfl)
        simp only [Act.put, List.setIfInBounds_toArray, List.set_cons_zero, List.set_cons_succ]
        refine st (oi := ?_) 10 (by kernel_rfl) ?_ (fun KK hK => ?_); rotate_left; (conv => lhs; whnf; arg 1; whnf)
        have t0 := bT.at 0 rfl
        have t1 := bT.at 1 rfl
        have t2 := bT.at 2 rfl
        have u0 := bT.fr 0 rfl
        have u1 := bT.fr 1 rfl
        have u2 := bT.fr 2 rfl
        go_simp
        clear t0 t1 t2 u0 u1 u2
        replace hV := ((hV.other (p := ⟨gT, 0, none⟩) xVgT ((.slice aA L.length cA))).other (p := ⟨gT, 1, none⟩) xVgT ((.slice aG L.length cG))).other (p := ⟨gT, 2, none⟩) xVgT (.slice a3 (L.length + 1) c3)
        replace hacc := ((hacc.setCell (p := ⟨gT, 0, none⟩) kgT (.slice aA L.length cA)).setCell (p := ⟨gT, 1, none⟩) kgT (.slice aG L.length cG)).setCell (p := ⟨gT, 2, none⟩) kgT (.slice a3 (L.length + 1) c3)
        replace bT := bT.put3 (.slice aA L.length cA) (.slice aG L.length cG) (.slice a3 (L.length + 1) c3)
        (first | refine hK.out _ _ ?_ (fun hHeldN => ?_) | (go_wp2_with fail; refine hK.out _ _ ?_ (fun hHeldN => ?_)))
        · try dsimp only
          with_reducible exact rx3 (HK.out _ hacc).2.2.1
        clear hK KK hHeld
        have hHeld := hHeldN
        clear hHeldN
        try simp only [Act.put, List.setIfInBounds_toArray, List.set_cons_zero, List.set_cons_succ]
        refine wpAnyH_done (by kernel_rfl) ?_ _
        refine NoPanic.normal ?_
        go_wp2_with fail
        go_meet
        exact ⟨_, _, _, _, rfl, rfl, bT, (HK.out _ hacc).1, (HK.out _ hacc).2.1.raws, hV.raws, (HK.out _ hacc).2.2.2⟩
      case rest =>
        obtain ⟨gT, n3, a3, c3, rfl, hn3, bT, hA, hB, hV, hacc⟩ := hcut
        have Hn3 := Lib.hid hn3
        clear hn3
        go_wp2_with fail
        obtain ⟨W3, hreg, HK3⟩ := chk (w := wc) (fun W' h => And.intro (hA.below h) (And.intro (hB.below h) (And.intro (hV.below h) (And.intro (bT.below h) (hacc.trans (h.mono hacc.size))))))
        clear hA hB hV bT hacc
        go_loopw [11] (fun i wr => ∃ j : Nat, j ≤ 3 ∧ i = .int .i64 j ∧ Below W3.heap.size W3 wr) (fun i _ => 3 - (intOf i).toNat)
        case atStart => exact ⟨0, by omega, rfl, hreg⟩
        case round =>
          clear hreg
          obtain ⟨j, hj, rfl, hacc⟩ := hrel
          by_cases hlt : j < 3
          · obtain ⟨a, c, lj, HJ, hlj, hzj⟩ : ∃ (a : Option Addr) (c : Nat) (lj : List Raw), Hid (∀ W', Below W3.heap.size W3 W' → W'.cell? ⟨gT, j, none⟩ = some (.slice a lj.length c) ∧ RawsR W' (.slice a lj.length c) lj) ∧ lj.length ≤ 1000 ∧ ∀ x ∈ lj, x.s.size ≤ 1000 ∧ x.t.size ≤ 1000 := by
              have hgz : ∀ x ∈ L.map gd, x.s.size ≤ 1000 ∧ x.t.size ≤ 1000 := by
                intro x hx
                obtain ⟨y, hy, rfl⟩ := List.mem_map.1 hx
                exact HLs.out y hy
              have hgl : (L.map gd).length = L.length := List.length_map _
              rcases (show j = 0 ∨ j = 1 ∨ j = 2 by omega) with rfl | rfl | rfl
              · exact ⟨aA, cA, L, Lib.hid fun W' h => ⟨(HK3.out _ h).2.2.2.1.at 0 rfl, (HK3.out _ h).1⟩, by omega, HLs.out⟩
              · exact ⟨aG, cG, L.map gd, Lib.hid fun W' h => by rw [hgl]; exact ⟨(HK3.out _ h).2.2.2.1.at 1 rfl, (HK3.out _ h).2.1⟩, by omega, hgz⟩
              · have hl : (L.map gd ++ [(⟨rn, s1, s2⟩ : Raw)]).length = n3 := by rw [List.length_append, hgl, Hn3.out]; rfl
                refine ⟨a3, c3, L.map gd ++ [⟨rn, s1, s2⟩], Lib.hid fun W' h => by rw [hl]; exact ⟨(HK3.out _ h).2.2.2.1.at 2 rfl, (HK3.out _ h).2.2.1⟩, by rw [hl, Hn3.out]; omega, ?_⟩
                intro x hx
                rcases List.mem_append.1 hx with hx | hx
                · exact hgz x hx
                · rw [List.mem_singleton.1 hx]; exact ⟨by show s1.size ≤ 1000; omega, by show s2.size ≤ 1000; omega⟩
            have HCA := Lib.hid (fun (W : World) (h : Below W3.heap.size W3 W) => acommon_any lj _ W (HJ.out W h).2 hlj hzj)
            have HCR := Lib.hid (fun (W : World) (h : Below W3.heap.size W3 W) => rcommon_any lj _ W (HJ.out W h).2 hlj hzj)
            have HST := Lib.hid (fun (W : World) (h : Below W3.heap.size W3 W) => (HJ.out W h).1)
            have hcl : (comL lj).length ≤ 1000000 := Nat.le_trans (comL_len lj) (by omega)
            generalize comS lj = cs at *
            generalize comB lj = cb at *
            generalize comL lj = cl at *
            clear hlj hzj HJ
            generalize lj.length = nj at *
            have hj0 : (0 : Int) ≤ (j : Int) := by omega
            have hj1 : (j : Int) < 3 := by omega
            have hst := HST.out _ hacc
            go_wp2_with fail
            with_reducible refine (HCA.out _ hacc).mono ?_
            rintro e wZ ⟨⟨vo1, rfl, hS1⟩, hbX⟩
            replace hacc := hacc.trans (hbX.mono hacc.size)
            clear hbX
            clear hst
            have hst := HST.out _ hacc
            go_wp2_with fail
            with_reducible refine (HCR.out _ hacc).mono ?_
            rintro e wZ ⟨⟨vo2, rfl, hS2⟩, hbX⟩
            replace hacc := hacc.trans (hbX.mono hacc.size)
            replace hS1 := hS1.below hbX
            clear hbX
            clear hst
            go_wp2_with fail
            with_reducible refine (rsame_eq cl _ _ _ _ _ hS1 hS2 hcl).mono ?_
            rintro e wZ ⟨rfl, hbX⟩
            replace hacc := hacc.trans (hbX.mono hacc.size)
            clear hbX
            go_wp2_with fail
            go_roundw
            case rel => exact ⟨j + 1, by omega, by go_num, hacc⟩
            case measure => simp [intOf]; omega
          · obtain rfl : j = 3 := by omega
            have HCG := Lib.hid (fun (W : World) (h : RawsR W (.slice aG L.length cG) (L.map gd)) => acommon_any (L.map gd) _ W h (by rw [List.length_map]; omega) (by
              intro x hx
              obtain ⟨y, hy, rfl⟩ := List.mem_map.1 hx
              exact HLs.out y hy))
            rw [hC.out.1, hC.out.2.1, hC.out.2.2] at HCG
            obtain ⟨cl, hcl⟩ : ∃ cl, cl = (L.map gd).map fun x => nb (bv x.s * (D / bv x.t)) := ⟨_, rfl⟩
            have hcll : cl.length = L.length := by rw [hcl, List.length_map, List.length_map]
            have HEC : ∀ k (hk : k < qs.length) (hk' : k < cl.length), cl[k] = nb (qs[k].num.natAbs * (D / qs[k].den)) ∧ k < L.length := by
              intro k hk hk'
              have hkl : k < L.length := by omega
              subst hcl
              simp only [List.getElem_map]
              exact ⟨(HEL.out k hk L[k] (List.getElem?_eq_getElem hkl)).1, hkl⟩
            rw [← hcl] at HCG
            clear hcl
            have HO := Lib.hid (fun W => aof_any 0 W (by decide) (by decide))
            rw [show ((0 : Int) : Rat) = 0 from rfl] at HO
            simp only [rv] at HO
            obtain ⟨o0, ho0⟩ : ∃ x, x = decide ((0 : Rat).num < 0) := ⟨_, rfl⟩
            obtain ⟨o1, ho1⟩ : ∃ x, x = nb (0 : Rat).num.natAbs := ⟨_, rfl⟩
            obtain ⟨o2, ho2⟩ : ∃ x, x = nb (0 : Rat).den := ⟨_, rfl⟩
            rw [← ho0, ← ho1, ← ho2] at HO
            have Ho0 := Lib.hid ho0
            have Ho1 := Lib.hid ho1
            have Ho2 := Lib.hid ho2
            clear ho0 ho1 ho2
            have hB := (HK3.out _ hacc).2.1
            go_wp2_with fail
            with_reducible refine (HCG.out _ hB).mono ?_
            rintro e wZ ⟨⟨vo, rfl, hS⟩, hbX⟩
            replace hacc := hacc.trans (hbX.mono hacc.size)
            clear hbX
            clear hB
            obtain ⟨ao, co, rfl⟩ := hS.form
            rw [hcll] at hS ⊢
            have HCL := Lib.hid hcll
            have HEC := Lib.hid HEC
            clear hcll
            go_wp2_with fail
            with_reducible refine (HO.out _).mono ?_
            rintro e wZ ⟨rfl, hbX⟩
            replace hacc := hacc.trans (hbX.mono hacc.size)
            replace hS := hS.below hbX
            clear hbX
            obtain ⟨W4, hreg, HK4⟩ := chk (w := wZ) (fun W' h => And.intro (hS.below h) (hacc.trans (h.mono hacc.size)))
            clear hS hacc
            have hacc := hreg
            clear hreg
            have kgS := hacc.size
            replace hacc := hacc.alloc hacc.size (.cells #[.bool o0, .string o1, .string o2] 27)
            have bS : Rx (wZ.alloc (.cells #[.bool o0, .string o1, .string o2] 27)) wZ.heap.size [.bool o0, .string o1, .string o2] := Rx.new wZ _ rfl [.bool o0, .string o1, .string o2] 27
            go_wp2_with fail
            generalize wZ.heap.size = gS at *
            generalize wZ.alloc (.cells #[.bool o0, .string o1, .string o2] 27) = WgS at *
            go_loopw [22] (fun i wr => ∃ k : Nat, k ≤ L.length ∧ i = .int .i64 k ∧ Rx wr gS [.bool (decide ((tot 0 ((qs.map ab).take k)).num < 0)), .string (nb (tot 0 ((qs.map ab).take k)).num.natAbs), .string (nb (tot 0 ((qs.map ab).take k)).den)] ∧ Below W4.heap.size W4 wr) (fun i _ => L.length - (intOf i).toNat)
            case atStart => exact ⟨0, by omega, rfl, by rw [List.take_zero, show tot 0 [] = (0 : Rat) from rfl, ← Ho0.out, ← Ho1.out, ← Ho2.out]; exact bS, hacc⟩
            case round =>
              clear bS hacc
              obtain ⟨k, hk, rfl, bS, hacc⟩ := hrel
              by_cases hlt : k < L.length
              · have hkq : k < qs.length := by have := HLQ.out; omega
                obtain ⟨g, cp, e, _, hgl, hc⟩ := (HK4.out _ hacc).1.at k (by rw [HCL.out]; exact hlt)
                simp only [Value.slice.injEq] at e
                obtain ⟨rfl, e1, e2⟩ := e
                clear e1 e2
                rw [(HEC.out k hkq (by rw [HCL.out]; exact hlt)).1] at hc
                obtain ⟨_, hmk, hsz, hms, hgd⟩ := HEL.out k hkq L[k] (List.getElem?_eq_getElem hlt)
                obtain ⟨b, hb, hbl, hcc⟩ : ∃ b, aG = some ⟨b, 0, none⟩ ∧ b < wr.heap.size ∧ Cl3 wr b (k * 3) (.bool (decide ((ab qs[k]).num < 0))) (.string (nb (ab qs[k]).num.natAbs)) (.string (nb (ab qs[k]).den)) := by
                  obtain ⟨a, c, e, h⟩ := (HK3.out _ (HK4.out _ hacc).2).2.1
                  simp only [Value.slice.injEq] at e
                  obtain ⟨rfl, _, rfl⟩ := e
                  obtain ⟨b, e, hl, hx⟩ := h (by rw [List.length_map]; omega)
                  have hx := hx k (by rw [List.length_map]; omega)
                  simp only [List.getElem_map, hgd] at hx
                  exact ⟨b, e, hl, ⟨hx.1, hx.2.1, hx.2.2⟩⟩
                subst hb
                have HMK := Lib.hid (fun W => amake_ok false (nb (qs[k].num.natAbs * (D / qs[k].den))) (nb D) W (by omega) (by omega) (rightB_nb _) (rightB_nb _) (by have := nb_pos hD2; omega))
                rw [bv_nb, bv_nb, hmk] at HMK
                have htt := HTT.out k (by rw [List.length_map]; exact hkq)
                rw [List.getElem_map] at htt
                have HAD := Lib.hid (fun W => aadd_any (tot 0 ((qs.map ab).take k)) (ab qs[k]) W ((HTS.out k (by rw [List.length_map]; omega)).mono (by omega)) (hsz.mono (by decide)))
                rw [← htt] at HAD
                clear htt hmk hsz hms hgd
                simp only [rv] at HMK HAD
                generalize nb (qs[k].num.natAbs * (D / qs[k].den)) = cM at *
                generalize decide ((ab qs[k]).num < 0) = yn at *
                generalize nb (ab qs[k]).num.natAbs = ys at *
                generalize nb (ab qs[k]).den = yt at *
                generalize decide ((tot 0 ((qs.map ab).take k)).num < 0) = tn at *
                generalize nb (tot 0 ((qs.map ab).take k)).num.natAbs = ts at *
                generalize nb (tot 0 ((qs.map ab).take k)).den = tt at *
                have hk0 : (0 : Int) ≤ (k : Int) := by omega
                have hk1 : (k : Int) < (L.length : Int) := by omega
                go_wp2_with fail
                with_reducible refine (HMK.out _).mono ?_
                rintro e wZ ⟨rfl, hbX⟩
                replace hacc := hacc.trans (hbX.mono hacc.size)
                replace bS := bS.below hbX
                replace hcc := hcc.below hbX
                clear hbX
                clear hc
                have kgY := hacc.size
                replace hacc := hacc.alloc hacc.size (.cells #[.bool yn, .string ys, .string yt] 27)
                have dgS := bS.lt
                replace bS := bS.alloc (.cells #[.bool yn, .string ys, .string yt] 27)
                replace hcc := hcc.alloc (.cells #[.bool yn, .string ys, .string yt] 27)
                have bY : Rx (wZ.alloc (.cells #[.bool yn, .string ys, .string yt] 27)) wZ.heap.size [.bool yn, .string ys, .string yt] := Rx.new wZ _ rfl [.bool yn, .string ys, .string yt] 27
                go_upto_region 28 with fail
                generalize wZ.heap.size = gY at *
                generalize wZ.alloc (.cells #[.bool yn, .string ys, .string yt] 27) = WgY at *
                have ngSgY : gS ≠ gY := by omega
                clear dgS
                replace hacc := hacc.drew
                replace bS := bS.drew
                replace bY := bY.drew
                replace hcc := hcc.drew
                refine wp_held (S := (fun w' => w'.cell? ⟨gY, 0, none⟩ = some (.bool yn) ∧ w'.cell? ⟨gY, 1, none⟩ = some (.string ys) ∧ w'.cell? ⟨gY, 2, none⟩ = some (.string yt) ∧ w'.cell? ⟨b, k * 3, none⟩ = some (.bool yn) ∧ w'.cell? ⟨b, k * 3 + 1, none⟩ = some (.string ys) ∧ w'.cell? ⟨b, k * 3 + 1 + 1, none⟩ = some (.string yt))) (by kernel_rfl) (fun hP WD hWD => ?_)
                simp only [← hWD.out] at hacc bS bY hcc
                clear hWD
                refine ⟨?_, fun hHeld => ?_⟩
                · try dsimp only
                  with_reducible exact ⟨bY.at 0 rfl, bY.at 1 rfl, bY.at 2 rfl, hcc.c0, hcc.c1, hcc.c2⟩
                refine tk (oi := ?_) (v := ?_) 0 hP (by kernel_rfl) ?_ ?_ ?_ hHeld ?_; rotate_left 2
                (conv => lhs; whnf; arg 1; whnf); kernel_rfl; focus (intro w hSw; (try dsimp only at hSw); go_simp; all_goals with_reducible rfl)
                simp only [Act.put, List.setIfInBounds_toArray, List.set_cons_zero, List.set_cons_succ]
                refine tk (oi := ?_) (v := ?_) 1 hP (by kernel_rfl) ?_ ?_ ?_ hHeld ?_; rotate_left 2
                (conv => lhs; whnf; arg 1; whnf); kernel_rfl; focus (intro w hSw; (try dsimp only at hSw); go_simp; all_goals with_reducible rfl)
                simp only [Act.put, List.setIfInBounds_toArray, List.set_cons_zero, List.set_cons_succ]
                refine tk (oi := ?_) (v := ?_) 2 hP (by kernel_rfl) ?_ ?_ ?_ hHeld ?_; rotate_left 2
                (conv => lhs; whnf; arg 1; whnf); kernel_rfl; focus (intro w hSw; (try dsimp only at hSw); go_simp; all_goals with_reducible rfl)
                simp only [Act.put, List.setIfInBounds_toArray, List.set_cons_zero, List.set_cons_succ]
                refine tk (oi := ?_) (v := ?_) 3 hP (by kernel_rfl) ?_ ?_ ?_ hHeld ?_; rotate_left 2
                (conv => lhs; whnf; arg 1; whnf); kernel_rfl; focus (intro w hSw; (try dsimp only at hSw); go_simp; all_goals with_reducible rfl)
                simp only [Act.put, List.setIfInBounds_toArray, List.set_cons_zero, List.set_cons_succ]
                refine tk (oi := ?_) (v := ?_) 4 hP (by kernel_rfl) ?_ ?_ ?_ hHeld ?_; rotate_left 2
                (conv => lhs; whnf; arg 1; whnf); kernel_rfl; focus (intro w hSw; (try dsimp only at hSw); go_simp; all_goals with_reducible rfl)
                simp only [Act.put, List.setIfInBounds_toArray, List.set_cons_zero, List.set_cons_succ]
                refine tk (oi := ?_) (v := ?_) 5 hP (by kernel_rfl) ?_ ?_ ?_ hHeld ?_; rotate_left 2
                (conv => lhs; whnf; arg 1; whnf); kernel_rfl; focus (intro w hSw; (try dsimp only at hSw); go_simp; all_goals with_reducible rfl)
                simp only [Act.put, List.setIfInBounds_toArray, List.set_cons_zero, List.set_cons_succ]
                refine tk (oi := ?_) (v := ?_) 6 hP (by kernel_rfl) ?_ ?_ ?_ hHeld ?_; rotate_left 2
                (conv => lhs; whnf; arg 1; whnf); kernel_rfl; focus (intro w hSw; (try dsimp only at hSw); go_simp; all_goals with_reducible rfl)
                simp only [Act.put, List.setIfInBounds_toArray, List.set_cons_zero, List.set_cons_succ]
                refine tk (oi := ?_) (v := ?_) 7 hP (by kernel_rfl) ?_ ?_ ?_ hHeld ?_; rotate_left 2
                (conv => lhs; whnf; arg 1; whnf); kernel_rfl; focus (intro w hSw; (try dsimp only at hSw); go_simp; all_goals with_reducible rfl)
                simp only [Act.put, List.setIfInBounds_toArray, List.set_cons_zero, List.set_cons_succ]
                refine tk (oi := ?_) (v := ?_) 8 hP (by kernel_rfl) ?_ ?_ ?_ hHeld ?_; rotate_left 2
                (conv => lhs; whnf; arg 1; whnf); kernel_rfl; focus (intro w hSw; (try dsimp only at hSw); go_simp; all_goals with_reducible rfl)
                simp only [Act.put, List.setIfInBounds_toArray, List.set_cons_zero, List.set_cons_succ]
                refine tk (oi := ?_) (v := ?_) 9 hP (by kernel_rfl) ?_ ?_ ?_ hHeld ?_; rotate_left 2
                (conv => lhs; whnf; arg 1; whnf); kernel_rfl; focus (intro w hSw; (try dsimp only at hSw); go_simp; all_goals with_reducible rfl)
                simp only [Act.put, List.setIfInBounds_toArray, List.set_cons_zero, List.set_cons_succ]
                refine wpAnyH_done (by kernel_rfl) ?_ _
                refine NoPanic.normal ?_
                clear hHeld
                go_upto_region 30 with fail
                have cgS0 := bS.at 0 rfl
                have fgS0 := bS.fr 0 rfl
                have cgS1 := bS.at 1 rfl
                have fgS1 := bS.fr 1 rfl
                have cgS2 := bS.at 2 rfl
                have fgS2 := bS.fr 2 rfl
                have cgY0 := bY.at 0 rfl
                have fgY0 := bY.fr 0 rfl
                have cgY1 := bY.at 1 rfl
                have fgY1 := bY.fr 1 rfl
                have cgY2 := bY.at 2 rfl
                have fgY2 := bY.fr 2 rfl
                go_wp2_with fail
                clear cgS0 fgS0 cgS1 fgS1 cgS2 fgS2 cgY0 fgY0 cgY1 fgY1 cgY2 fgY2
                with_reducible refine (HAD.out _).mono ?_
                rintro e wZ ⟨rfl, hbX⟩
                replace hacc := hacc.trans (hbX.mono hacc.size)
                replace bS := bS.below hbX
                replace bY := bY.below hbX
                clear hbX
                have cgS0 := bS.at 0 rfl
                have fgS0 := bS.fr 0 rfl
                have cgS1 := bS.at 1 rfl
                have fgS1 := bS.fr 1 rfl
                have cgS2 := bS.at 2 rfl
                have fgS2 := bS.fr 2 rfl
                replace hacc := ((hacc.setCell (p := ⟨gS, 0, none⟩) kgS (.bool (decide ((tot 0 ((qs.map ab).take (k + 1))).num < 0)))).setCell (p := ⟨gS, 1, none⟩) kgS (.string (nb (tot 0 ((qs.map ab).take (k + 1))).num.natAbs))).setCell (p := ⟨gS, 2, none⟩) kgS (.string (nb (tot 0 ((qs.map ab).take (k + 1))).den))
                replace bY := (((bY.other (p := ⟨gS, 0, none⟩) ngSgY (.bool (decide ((tot 0 ((qs.map ab).take (k + 1))).num < 0)))).other (p := ⟨gS, 1, none⟩) ngSgY (.string (nb (tot 0 ((qs.map ab).take (k + 1))).num.natAbs))).other (p := ⟨gS, 2, none⟩) ngSgY (.string (nb (tot 0 ((qs.map ab).take (k + 1))).den)))
                replace bS := bS.put3 (.bool (decide ((tot 0 ((qs.map ab).take (k + 1))).num < 0))) (.string (nb (tot 0 ((qs.map ab).take (k + 1))).num.natAbs)) (.string (nb (tot 0 ((qs.map ab).take (k + 1))).den))
                go_wp2_with fail
                clear cgS0 fgS0 cgS1 fgS1 cgS2 fgS2
                generalize ((wZ.setCell ⟨gS, 0, none⟩ (.bool (decide ((tot 0 ((qs.map ab).take (k + 1))).num < 0)))).setCell ⟨gS, 1, none⟩ (.string (nb (tot 0 ((qs.map ab).take (k + 1))).num.natAbs))).setCell ⟨gS, 2, none⟩ (.string (nb (tot 0 ((qs.map ab).take (k + 1))).den)) = WS at *
                go_roundw
                case rel => exact ⟨k + 1, by omega, by go_num, bS, hacc⟩
                case measure => simp [intOf]; omega
              · obtain rfl : k = L.length := by omega
                rw [List.take_of_length_le (by rw [List.length_map]; have := HLQ.out; omega)] at bS
                simp only [rv] at HSU
                generalize decide ((tot 0 (qs.map ab)).num < 0) = tn at *
                generalize nb (tot 0 (qs.map ab)).num.natAbs = ts at *
                generalize nb (tot 0 (qs.map ab)).den = tt at *
                go_upto_region 31 with fail
                replace hacc := hacc.drew
                replace bS := bS.drew
                refine wp_held (S := (fun w' => w'.cell? ⟨gS, 0, none⟩ = some (.bool tn) ∧ w'.cell? ⟨gS, 1, none⟩ = some (.string ts) ∧ w'.cell? ⟨gS, 2, none⟩ = some (.string tt))) (by kernel_rfl) (fun hP WD hWD => ?_)
                simp only [← hWD.out] at hacc bS
                clear hWD
                refine ⟨?_, fun hHeld => ?_⟩
                · try dsimp only
                  with_reducible exact rx3 bS
                refine tk (oi := ?_) (v := ?_) 0 hP (by kernel_rfl) ?_ ?_ ?_ hHeld ?_; rotate_left 2
                (conv => lhs; whnf; arg 1; whnf); kernel_rfl; focus (intro w hSw; (try dsimp only at hSw); go_simp; all_goals with_reducible rfl)
                simp only [Act.put, List.setIfInBounds_toArray, List.set_cons_zero, List.set_cons_succ]
                refine tk (oi := ?_) (v := ?_) 1 hP (by kernel_rfl) ?_ ?_ ?_ hHeld ?_; rotate_left 2
                (conv => lhs; whnf; arg 1; whnf); kernel_rfl; focus (intro w hSw; (try dsimp only at hSw); go_simp; all_goals with_reducible rfl)
                simp only [Act.put, List.setIfInBounds_toArray, List.set_cons_zero, List.set_cons_succ]
                refine tk (oi := ?_) (v := ?_) 2 hP (by kernel_rfl) ?_ ?_ ?_ hHeld ?_; rotate_left 2
                (conv => lhs; whnf; arg 1; whnf); kernel_rfl; focus (intro w hSw; (try dsimp only at hSw); go_simp; all_goals with_reducible rfl)
                simp only [Act.put, List.setIfInBounds_toArray, List.set_cons_zero, List.set_cons_succ]
                refine tk (oi := ?_) (v := ?_) 3 hP (by kernel_rfl) ?_ ?_ ?_ hHeld ?_; rotate_left 2
                (conv => lhs; whnf; arg 1; whnf); kernel_rfl; focus (intro w hSw; (try dsimp only at hSw); go_simp; all_goals with_reducible rfl)
                simp only [Act.put, List.setIfInBounds_toArray, List.set_cons_zero, List.set_cons_succ]
                refine st (oi := ?_) 4 (by kernel_rfl) ?_ (fun KK hK => ?_); rotate_left; (conv => lhs; whnf; arg 1; whnf)
                go_simp
                with_reducible refine (HSU.out _ _ (HK3.out _ (HK4.out _ hacc).2).2.1).mono ?_
                rintro e wZ ⟨rfl, hbX⟩
                replace hacc := hacc.trans (hbX.mono hacc.size)
                replace bS := bS.below hbX
                clear hbX
                (first | refine hK.out _ _ ?_ (fun hHeldN => ?_) | (go_wp2_with fail; refine hK.out _ _ ?_ (fun hHeldN => ?_)))
                · try dsimp only
                  with_reducible exact rx3 bS
                clear hK KK hHeld
                have hHeld := hHeldN
                clear hHeldN
                try simp only [Act.put, List.setIfInBounds_toArray, List.set_cons_zero, List.set_cons_succ]
                refine tk (oi := ?_) (v := ?_) 5 hP (by kernel_rfl) ?_ ?_ ?_ hHeld ?_; rotate_left 2
                (conv => lhs; whnf; arg 1; whnf); kernel_rfl; focus (intro w hSw; (try dsimp only at hSw); go_simp; all_goals with_reducible rfl)
                simp only [Act.put, List.setIfInBounds_toArray, List.set_cons_zero, List.set_cons_succ]
                refine tk (oi := ?_) (v := ?_) 6 hP (by kernel_rfl) ?_ ?_ ?_ hHeld ?_; rotate_left 2
                (conv => lhs; whnf; arg 1; whnf); kernel_rfl; focus (intro w hSw; (try dsimp only at hSw); go_simp; all_goals with_reducible rfl)
                simp only [Act.put, List.setIfInBounds_toArray, List.set_cons_zero, List.set_cons_succ]
                refine tk (oi := ?_) (v := ?_) 7 hP (by kernel_rfl) ?_ ?_ ?_ hHeld ?_; rotate_left 2
                (conv => lhs; whnf; arg 1; whnf); kernel_rfl; focus (intro w hSw; (try dsimp only at hSw); go_simp; all_goals with_reducible rfl)
                simp only [Act.put, List.setIfInBounds_toArray, List.set_cons_zero, List.set_cons_succ]
                refine wpAnyH_done (by kernel_rfl) ?_ _
                refine NoPanic.normal ?_
                go_wp2_with fail
                go_ret
                exact ⟨rfl, (HK3.out _ (HK4.out _ hacc).2).2.2.2.2⟩
end Go.Proofs.YtfbjboehniakcaaGreatDoor
