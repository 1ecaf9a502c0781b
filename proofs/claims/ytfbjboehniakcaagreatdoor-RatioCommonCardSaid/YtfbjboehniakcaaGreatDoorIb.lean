/- Walk of package ratio: Parse. -/
import Derived.Test.YtfbjboehniakcaaGreatDoorIa
import Derived.Test.YtfbjboehniakcaaGreatDoorShelf
namespace Go.Proofs.YtfbjboehniakcaaGreatDoor
open Go.RowKit W
open Pl (bval enc bv nb bv_nb nb_size_le nb_size_zero nb_size_mono nb_bv_size bv_lt cmpN nb_inj dec nparse dval_lt alld)
open Rq
open Go.Lib (hasPrefix trimPrefix cut)
/-- what the package-level variables hold -/
structure GR (w : World) : Prop where
  tab : GT w
  maxlt : 0 < w.heap.size
  max : ∃ m : Int, w.cell? ⟨0, 0, none⟩ = some (.int .i64 m)
theorem GR.below {w w' : World} (h : GR w) (hb : Below w.heap.size w w') : GR w' := ⟨h.tab.below hb, Nat.lt_of_lt_of_le h.maxlt hb.size, by
  obtain ⟨m, hm⟩ := h.max
  exact ⟨m, (hb.cell (p := ⟨0, 0, none⟩) h.maxlt).trans hm⟩⟩
theorem cut_slash (l : List UInt8) (w : World) (hl : l.length < 4294967281) (h : GR w) :
    Calls Tryz.prog 50 #[.string ⟨l.toArray⟩, .string ⟨#[47]⟩] w fun e w' => e = .returned (.tuple #[.string ⟨(cut l [47]).1.toArray⟩, .string ⟨(cut l [47]).2.1.toArray⟩, .bool (cut l [47]).2.2]) ∧ ∃ n, w' = w.drewN n := by
  obtain ⟨m, hm⟩ := h.max
  exact Tryz.strings_Cut ⟨l.toArray⟩ ⟨#[47]⟩ m w (by simpa [ByteArray.size] using hl) hm
/-- what Parse says -/
def parR (s : ByteArray) : Option Rat :=
  match nparse (cut (trimPrefix s.data.toList [45]) [47]).1 with
  | none => none
  | some n => match (if (cut (trimPrefix s.data.toList [45]) [47]).2.2 = true then nparse (cut (trimPrefix s.data.toList [45]) [47]).2.1 else some 1) with
    | none => none
    | some d => if d = 0 then none else if ratS (mk (hasPrefix s.data.toList [45]) n d) = s then some (mk (hasPrefix s.data.toList [45]) n d) else none
def optA : Option Rat → Value
  | some q => rv q
  | none => .agg #[.bool false, .string ⟨#[]⟩, .string ⟨#[]⟩]
def parA (s : ByteArray) : Value := optA (parR s)
def parB (s : ByteArray) : Bool := (parR s).isSome
theorem parts_of {s : ByteArray} {o : Option Rat} (h : parR s = o) : parA s = optA o ∧ parB s = o.isSome := by
  unfold parA parB; rw [h]; exact ⟨rfl, rfl⟩
theorem trim_len (l : List UInt8) : (trimPrefix l [45]).length ≤ l.length := by
  unfold trimPrefix; split
  · simp
  · exact Nat.le_refl _
theorem cut_len (l : List UInt8) : (cut l [47]).1.length ≤ l.length ∧ (cut l [47]).2.1.length ≤ l.length := by
  unfold cut; split
  · simp; omega
  · simp
theorem pS_none {l : List UInt8} (h : nparse l = none) : pS ⟨l.toArray⟩ = ⟨#[]⟩ := by unfold pS; rw [show (⟨l.toArray⟩ : ByteArray).data.toList = l from rfl, h]
theorem pB_none {l : List UInt8} (h : nparse l = none) : pB ⟨l.toArray⟩ = false := by unfold pB; rw [show (⟨l.toArray⟩ : ByteArray).data.toList = l from rfl, h]; rfl
theorem pS_some {l : List UInt8} {n : Nat} (h : nparse l = some n) : pS ⟨l.toArray⟩ = nb n := by unfold pS; rw [show (⟨l.toArray⟩ : ByteArray).data.toList = l from rfl, h]
theorem pB_some {l : List UInt8} {n : Nat} (h : nparse l = some n) : pB ⟨l.toArray⟩ = true := by unfold pB; rw [show (⟨l.toArray⟩ : ByteArray).data.toList = l from rfl, h]; rfl
theorem nparse_size {l : List UInt8} {n : Nat} (h : nparse l = some n) : (nb n).size ≤ l.length := by
  unfold nparse at h
  split at h
  · cases h
  · split at h
    · next ha =>
      injection h with h
      subst h
      exact nb_size_le.2 (Nat.lt_of_lt_of_le (dval_lt ha) (Nat.pow_le_pow_left (by decide) _))
    · cases h
set_option maxRecDepth 100000 in
set_option maxHeartbeats 4000000 in
theorem aparse_any (s : ByteArray) (w : World) (hs : s.size ≤ 300000) (hG : GR w) :
    Calls Tryz.prog 13 #[.string s] w fun e w' => e = .returned (.tuple #[parA s, .bool (parB s)]) ∧ Below w.heap.size w w' := by
  have hD := trim_len s.data.toList
  have hl := list_size s
  obtain ⟨o, HP⟩ : ∃ o, o = parR s := ⟨_, rfl⟩
  have Hp := Lib.hid (fun o' (h : o = o') => show parA s = optA o' ∧ parB s = o'.isSome from h ▸ parts_of HP.symm)
  unfold parR at HP
  have C1 := Lib.hid (fun W => Tryz.strings_CutPrefix s ⟨#[45]⟩ W)
  have C2 := Lib.hid (fun W (h : GR W) => cut_slash (trimPrefix s.data.toList [45]) W (by omega) h)
  have hcl := cut_len (trimPrefix s.data.toList [45])
  generalize trimPrefix s.data.toList [45] = D at *
  generalize hasPrefix s.data.toList [45] = neg at *
  obtain ⟨hl1, hl2⟩ := hcl
  rcases hc : cut D [47] with ⟨X, Y, fr⟩
  rw [hc] at hl1 hl2 C2 HP
  simp only at hl1 hl2 C2 HP
  clear hc
  have sx : (⟨X.toArray⟩ : ByteArray).size = X.length := by simp [ByteArray.size]
  have sy : (⟨Y.toArray⟩ : ByteArray).size = Y.length := by simp [ByteArray.size]
  cases hx : nparse X with
  | none =>
    have p1 := Lib.hid (pS_none (l := X) hx)
    have p2 := Lib.hid (pB_none (l := X) hx)
    rw [hx] at HP
    have HB := Lib.hid (Hp.out none HP)
    clear HP hx
    go_enter Tryz.func13, Tryz.ntmps13
    have bR : Rx (w.alloc (.cells #[.bool false, .string ⟨#[]⟩, .string ⟨#[]⟩] 27)) (w.heap.size) [.bool false, .string ⟨#[]⟩, .string ⟨#[]⟩] := (Rx.new w _ rfl [.bool false, .string ⟨#[]⟩, .string ⟨#[]⟩] 27)
    have hacc := ((Below.refl w.heap.size w).alloc (Nat.le_refl w.heap.size) (.cells #[.bool false, .string ⟨#[]⟩, .string ⟨#[]⟩] 27))
    go_upto_region 1 with fail
    generalize w.alloc (.cells #[.bool false, .string ⟨#[]⟩, .string ⟨#[]⟩] 27) = W0 at *
    obtain ⟨gR, hgR⟩ : ∃ g, g = w.heap.size := ⟨_, rfl⟩
    rw [← hgR] at bR
    simp only [← hgR]
    have kgR : w.heap.size ≤ gR := by omega
    clear hgR
    go_wp2_with fail
    refine (C1.out _).mono ?_
    rintro e w1 ⟨rfl, rfl⟩
    go_wp2_with fail
    refine (C2.out _ (hG.below hacc)).mono ?_
    rintro e wZ ⟨rfl, nd, hnd⟩
    have hbX : Below w1.heap.size w1 wZ := by rw [hnd]; exact below_drewN (Below.refl _ _) nd
    clear hnd
    have hacc := hacc.trans (hbX.mono hacc.size)
    have bR := bR.below hbX
    clear hbX
    go_wp2_with fail
    with_reducible refine (nparse_any ⟨X.toArray⟩ _ (by omega)).mono ?_
    rw [p1.out, p2.out]
    rintro e wZ ⟨rfl, hbX⟩
    have hacc := hacc.trans (hbX.mono hacc.size)
    have bR := bR.below hbX
    clear hbX
    have cgR0 := bR.at 0 rfl
    have fgR0 := bR.fr 0 rfl
    have cgR1 := bR.at 1 rfl
    have fgR1 := bR.fr 1 rfl
    have cgR2 := bR.at 2 rfl
    have fgR2 := bR.fr 2 rfl
    go_wp2_with fail
    refine bodyPost_ret (v := .tuple #[.agg #[.bool false, .string ⟨#[]⟩, .string ⟨#[]⟩], .bool false]) (by simp [results, Tryz.results13, go_sem, cgR0, cgR1, cgR2]) rfl ⟨by rw [HB.out.1, HB.out.2]; rfl, (((hacc.setCell kgR _).setCell kgR _).setCell kgR _)⟩
  | some n =>
    have p1 := Lib.hid (pS_some (l := X) hx)
    have p2 := Lib.hid (pB_some (l := X) hx)
    have zn : (nb n).size ≤ 300000 := Nat.le_trans (nparse_size hx) (by omega)
    rw [hx] at HP
    cases fr with
    | false =>
      simp only [Bool.false_eq_true, if_false] at HP
      rw [if_neg (show ¬ (1 : Nat) = 0 by decide)] at HP
      obtain ⟨q, hqe⟩ : ∃ q, mk neg n 1 = q := ⟨_, rfl⟩
      have HM := Lib.hid (fun W => amake_ok neg (nb n) ⟨#[1]⟩ W (by omega) (by decide) (rightB_nb n) (by decide +kernel) (by decide))
      have sq : Sz q 300000 := by rw [← hqe]; exact Sz_mk (by decide) zn (nbs (by decide) (by decide))
      rw [bv_nb, bv_1, hqe] at HM
      have HT := Lib.hid (fun W h => atext_any q W (sq.mono (by decide)) h)
      simp only [rv] at HM HT
      rw [hqe] at HP
      by_cases hq : ratS q = s
      · skip
        have HB := Lib.hid (Hp.out (some q) (by rw [HP, if_pos hq]))
        have ht1 : (ratS q).toList = s.toList := by rw [hq]
        clear HP hq
        go_enter Tryz.func13, Tryz.ntmps13
        have bR : Rx (w.alloc (.cells #[.bool false, .string ⟨#[]⟩, .string ⟨#[]⟩] 27)) (w.heap.size) [.bool false, .string ⟨#[]⟩, .string ⟨#[]⟩] := (Rx.new w _ rfl [.bool false, .string ⟨#[]⟩, .string ⟨#[]⟩] 27)
        have hacc := ((Below.refl w.heap.size w).alloc (Nat.le_refl w.heap.size) (.cells #[.bool false, .string ⟨#[]⟩, .string ⟨#[]⟩] 27))
        go_upto_region 1 with fail
        generalize w.alloc (.cells #[.bool false, .string ⟨#[]⟩, .string ⟨#[]⟩] 27) = W0 at *
        obtain ⟨gR, hgR⟩ : ∃ g, g = w.heap.size := ⟨_, rfl⟩
        rw [← hgR] at bR
        simp only [← hgR]
        have kgR : w.heap.size ≤ gR := by omega
        clear hgR
        go_wp2_with fail
        refine (C1.out _).mono ?_
        rintro e w1 ⟨rfl, rfl⟩
        go_wp2_with fail
        refine (C2.out _ (hG.below hacc)).mono ?_
        rintro e wZ ⟨rfl, nd, hnd⟩
        have hbX : Below w1.heap.size w1 wZ := by rw [hnd]; exact below_drewN (Below.refl _ _) nd
        clear hnd
        have hacc := hacc.trans (hbX.mono hacc.size)
        have bR := bR.below hbX
        clear hbX
        go_wp2_with fail
        with_reducible refine (nparse_any ⟨X.toArray⟩ _ (by omega)).mono ?_
        rw [p1.out, p2.out]
        rintro e wZ ⟨rfl, hbX⟩
        have hacc := hacc.trans (hbX.mono hacc.size)
        have bR := bR.below hbX
        clear hbX
        go_wp2_with fail
        with_reducible refine (HM.out _).mono ?_
        rintro e wZ ⟨rfl, hbX⟩
        have hacc := hacc.trans (hbX.mono hacc.size)
        have bR := bR.below hbX
        clear hbX
        have kgQ := hacc.size
        have hacc := hacc.alloc hacc.size (.cells #[.bool (decide (q.num < 0)), .string (nb q.num.natAbs), .string (nb q.den)] 27)
        have dgR := bR.lt
        have bR := bR.alloc (.cells #[.bool (decide (q.num < 0)), .string (nb q.num.natAbs), .string (nb q.den)] 27)
        have bQ : Rx (wZ.alloc (.cells #[.bool (decide (q.num < 0)), .string (nb q.num.natAbs), .string (nb q.den)] 27)) wZ.heap.size [.bool (decide (q.num < 0)), .string (nb q.num.natAbs), .string (nb q.den)] := Rx.new wZ _ rfl [.bool (decide (q.num < 0)), .string (nb q.num.natAbs), .string (nb q.den)] 27
        go_upto_region 12 with fail
        generalize wZ.heap.size = gQ at *
        generalize wZ.alloc (.cells #[.bool (decide (q.num < 0)), .string (nb q.num.natAbs), .string (nb q.den)] 27) = WgQ at *
        have ngRgQ : gR ≠ gQ := by omega
        clear dgR
        have cgQ0 := bQ.at 0 rfl
        have fgQ0 := bQ.fr 0 rfl
        have cgQ1 := bQ.at 1 rfl
        have fgQ1 := bQ.fr 1 rfl
        have cgQ2 := bQ.at 2 rfl
        have fgQ2 := bQ.fr 2 rfl
        go_wp2_with fail
        clear cgQ0 fgQ0 cgQ1 fgQ1 cgQ2 fgQ2
        with_reducible refine (HT.out _ (hG.below hacc).tab).mono ?_
        rintro e wZ ⟨rfl, hbX⟩
        have hacc := hacc.trans (hbX.mono hacc.size)
        have bR := bR.below hbX
        have bQ := bQ.below hbX
        clear hbX
        have cgQ0 := bQ.at 0 rfl
        have fgQ0 := bQ.fr 0 rfl
        have cgQ1 := bQ.at 1 rfl
        have fgQ1 := bQ.fr 1 rfl
        have cgQ2 := bQ.at 2 rfl
        have fgQ2 := bQ.fr 2 rfl
        have cgR0 := bR.at 0 rfl
        have fgR0 := bR.fr 0 rfl
        have cgR1 := bR.at 1 rfl
        have fgR1 := bR.fr 1 rfl
        have cgR2 := bR.at 2 rfl
        have fgR2 := bR.fr 2 rfl
        go_wp2_with fail
        refine bodyPost_ret (v := .tuple #[.agg #[.bool (decide (q.num < 0)), .string (nb q.num.natAbs), .string (nb q.den)], .bool true]) (by simp [results, Tryz.results13, go_sem, cgR0, cgR1, cgR2]) rfl ⟨by rw [HB.out.1, HB.out.2]; rfl, (((hacc.setCell kgR _).setCell kgR _).setCell kgR _)⟩
      · skip
        have HB := Lib.hid (Hp.out (none) (by rw [HP, if_neg hq]))
        have ht1 := str_ne hq
        have ht2 := str_neB hq
        clear HP hq
        go_enter Tryz.func13, Tryz.ntmps13
        have bR : Rx (w.alloc (.cells #[.bool false, .string ⟨#[]⟩, .string ⟨#[]⟩] 27)) (w.heap.size) [.bool false, .string ⟨#[]⟩, .string ⟨#[]⟩] := (Rx.new w _ rfl [.bool false, .string ⟨#[]⟩, .string ⟨#[]⟩] 27)
        have hacc := ((Below.refl w.heap.size w).alloc (Nat.le_refl w.heap.size) (.cells #[.bool false, .string ⟨#[]⟩, .string ⟨#[]⟩] 27))
        go_upto_region 1 with fail
        generalize w.alloc (.cells #[.bool false, .string ⟨#[]⟩, .string ⟨#[]⟩] 27) = W0 at *
        obtain ⟨gR, hgR⟩ : ∃ g, g = w.heap.size := ⟨_, rfl⟩
        rw [← hgR] at bR
        simp only [← hgR]
        have kgR : w.heap.size ≤ gR := by omega
        clear hgR
        go_wp2_with fail
        refine (C1.out _).mono ?_
        rintro e w1 ⟨rfl, rfl⟩
        go_wp2_with fail
        refine (C2.out _ (hG.below hacc)).mono ?_
        rintro e wZ ⟨rfl, nd, hnd⟩
        have hbX : Below w1.heap.size w1 wZ := by rw [hnd]; exact below_drewN (Below.refl _ _) nd
        clear hnd
        have hacc := hacc.trans (hbX.mono hacc.size)
        have bR := bR.below hbX
        clear hbX
        go_wp2_with fail
        with_reducible refine (nparse_any ⟨X.toArray⟩ _ (by omega)).mono ?_
        rw [p1.out, p2.out]
        rintro e wZ ⟨rfl, hbX⟩
        have hacc := hacc.trans (hbX.mono hacc.size)
        have bR := bR.below hbX
        clear hbX
        go_wp2_with fail
        with_reducible refine (HM.out _).mono ?_
        rintro e wZ ⟨rfl, hbX⟩
        have hacc := hacc.trans (hbX.mono hacc.size)
        have bR := bR.below hbX
        clear hbX
        have kgQ := hacc.size
        have hacc := hacc.alloc hacc.size (.cells #[.bool (decide (q.num < 0)), .string (nb q.num.natAbs), .string (nb q.den)] 27)
        have dgR := bR.lt
        have bR := bR.alloc (.cells #[.bool (decide (q.num < 0)), .string (nb q.num.natAbs), .string (nb q.den)] 27)
        have bQ : Rx (wZ.alloc (.cells #[.bool (decide (q.num < 0)), .string (nb q.num.natAbs), .string (nb q.den)] 27)) wZ.heap.size [.bool (decide (q.num < 0)), .string (nb q.num.natAbs), .string (nb q.den)] := Rx.new wZ _ rfl [.bool (decide (q.num < 0)), .string (nb q.num.natAbs), .string (nb q.den)] 27
        go_upto_region 12 with fail
        generalize wZ.heap.size = gQ at *
        generalize wZ.alloc (.cells #[.bool (decide (q.num < 0)), .string (nb q.num.natAbs), .string (nb q.den)] 27) = WgQ at *
        have ngRgQ : gR ≠ gQ := by omega
        clear dgR
        have cgQ0 := bQ.at 0 rfl
        have fgQ0 := bQ.fr 0 rfl
        have cgQ1 := bQ.at 1 rfl
        have fgQ1 := bQ.fr 1 rfl
        have cgQ2 := bQ.at 2 rfl
        have fgQ2 := bQ.fr 2 rfl
        go_wp2_with fail
        clear cgQ0 fgQ0 cgQ1 fgQ1 cgQ2 fgQ2
        with_reducible refine (HT.out _ (hG.below hacc).tab).mono ?_
        rintro e wZ ⟨rfl, hbX⟩
        have hacc := hacc.trans (hbX.mono hacc.size)
        have bR := bR.below hbX
        have bQ := bQ.below hbX
        clear hbX
        have cgQ0 := bQ.at 0 rfl
        have fgQ0 := bQ.fr 0 rfl
        have cgQ1 := bQ.at 1 rfl
        have fgQ1 := bQ.fr 1 rfl
        have cgQ2 := bQ.at 2 rfl
        have fgQ2 := bQ.fr 2 rfl
        have cgR0 := bR.at 0 rfl
        have fgR0 := bR.fr 0 rfl
        have cgR1 := bR.at 1 rfl
        have fgR1 := bR.fr 1 rfl
        have cgR2 := bR.at 2 rfl
        have fgR2 := bR.fr 2 rfl
        go_wp2_with fail
        refine bodyPost_ret (v := .tuple #[.agg #[.bool false, .string ⟨#[]⟩, .string ⟨#[]⟩], .bool false]) (by simp [results, Tryz.results13, go_sem, cgR0, cgR1, cgR2]) rfl ⟨by rw [HB.out.1, HB.out.2]; rfl, (((hacc.setCell kgR _).setCell kgR _).setCell kgR _)⟩
    | true =>
      simp only [if_true] at HP
      cases hy : nparse Y with
      | none =>
        have p3 := Lib.hid (pS_none (l := Y) hy)
        have p4 := Lib.hid (pB_none (l := Y) hy)
        rw [hy] at HP
        have HB := Lib.hid (Hp.out none HP)
        clear HP hx hy
        go_enter Tryz.func13, Tryz.ntmps13
        have bR : Rx (w.alloc (.cells #[.bool false, .string ⟨#[]⟩, .string ⟨#[]⟩] 27)) (w.heap.size) [.bool false, .string ⟨#[]⟩, .string ⟨#[]⟩] := (Rx.new w _ rfl [.bool false, .string ⟨#[]⟩, .string ⟨#[]⟩] 27)
        have hacc := ((Below.refl w.heap.size w).alloc (Nat.le_refl w.heap.size) (.cells #[.bool false, .string ⟨#[]⟩, .string ⟨#[]⟩] 27))
        go_upto_region 1 with fail
        generalize w.alloc (.cells #[.bool false, .string ⟨#[]⟩, .string ⟨#[]⟩] 27) = W0 at *
        obtain ⟨gR, hgR⟩ : ∃ g, g = w.heap.size := ⟨_, rfl⟩
        rw [← hgR] at bR
        simp only [← hgR]
        have kgR : w.heap.size ≤ gR := by omega
        clear hgR
        go_wp2_with fail
        refine (C1.out _).mono ?_
        rintro e w1 ⟨rfl, rfl⟩
        go_wp2_with fail
        refine (C2.out _ (hG.below hacc)).mono ?_
        rintro e wZ ⟨rfl, nd, hnd⟩
        have hbX : Below w1.heap.size w1 wZ := by rw [hnd]; exact below_drewN (Below.refl _ _) nd
        clear hnd
        have hacc := hacc.trans (hbX.mono hacc.size)
        have bR := bR.below hbX
        clear hbX
        go_wp2_with fail
        with_reducible refine (nparse_any ⟨X.toArray⟩ _ (by omega)).mono ?_
        rw [p1.out, p2.out]
        rintro e wZ ⟨rfl, hbX⟩
        have hacc := hacc.trans (hbX.mono hacc.size)
        have bR := bR.below hbX
        clear hbX
        go_wp2_with fail
        with_reducible refine (nparse_any ⟨Y.toArray⟩ _ (by omega)).mono ?_
        rw [p3.out, p4.out]
        rintro e wZ ⟨rfl, hbX⟩
        have hacc := hacc.trans (hbX.mono hacc.size)
        have bR := bR.below hbX
        clear hbX
        have cgR0 := bR.at 0 rfl
        have fgR0 := bR.fr 0 rfl
        have cgR1 := bR.at 1 rfl
        have fgR1 := bR.fr 1 rfl
        have cgR2 := bR.at 2 rfl
        have fgR2 := bR.fr 2 rfl
        go_wp2_with fail
        refine bodyPost_ret (v := .tuple #[.agg #[.bool false, .string ⟨#[]⟩, .string ⟨#[]⟩], .bool false]) (by simp [results, Tryz.results13, go_sem, cgR0, cgR1, cgR2]) rfl ⟨by rw [HB.out.1, HB.out.2]; rfl, (((hacc.setCell kgR _).setCell kgR _).setCell kgR _)⟩
      | some d =>
        have p3 := Lib.hid (pS_some (l := Y) hy)
        have p4 := Lib.hid (pB_some (l := Y) hy)
        have zd : (nb d).size ≤ 300000 := Nat.le_trans (nparse_size hy) (by omega)
        rw [hy] at HP
        simp only at HP
        by_cases hd0 : d = 0
        · rw [if_pos hd0] at HP
          have HB := Lib.hid (Hp.out none HP)
          have HM := Lib.hid (fun W => amake_no neg (nb n) (nb d) W (by omega) (by omega) (.inr (.inr (nb_size_zero.2 hd0))))
          clear HP hx hy hd0
          go_enter Tryz.func13, Tryz.ntmps13
          have bR : Rx (w.alloc (.cells #[.bool false, .string ⟨#[]⟩, .string ⟨#[]⟩] 27)) (w.heap.size) [.bool false, .string ⟨#[]⟩, .string ⟨#[]⟩] := (Rx.new w _ rfl [.bool false, .string ⟨#[]⟩, .string ⟨#[]⟩] 27)
          have hacc := ((Below.refl w.heap.size w).alloc (Nat.le_refl w.heap.size) (.cells #[.bool false, .string ⟨#[]⟩, .string ⟨#[]⟩] 27))
          go_upto_region 1 with fail
          generalize w.alloc (.cells #[.bool false, .string ⟨#[]⟩, .string ⟨#[]⟩] 27) = W0 at *
          obtain ⟨gR, hgR⟩ : ∃ g, g = w.heap.size := ⟨_, rfl⟩
          rw [← hgR] at bR
          simp only [← hgR]
          have kgR : w.heap.size ≤ gR := by omega
          clear hgR
          go_wp2_with fail
          refine (C1.out _).mono ?_
          rintro e w1 ⟨rfl, rfl⟩
          go_wp2_with fail
          refine (C2.out _ (hG.below hacc)).mono ?_
          rintro e wZ ⟨rfl, nd, hnd⟩
          have hbX : Below w1.heap.size w1 wZ := by rw [hnd]; exact below_drewN (Below.refl _ _) nd
          clear hnd
          have hacc := hacc.trans (hbX.mono hacc.size)
          have bR := bR.below hbX
          clear hbX
          go_wp2_with fail
          with_reducible refine (nparse_any ⟨X.toArray⟩ _ (by omega)).mono ?_
          rw [p1.out, p2.out]
          rintro e wZ ⟨rfl, hbX⟩
          have hacc := hacc.trans (hbX.mono hacc.size)
          have bR := bR.below hbX
          clear hbX
          go_wp2_with fail
          with_reducible refine (nparse_any ⟨Y.toArray⟩ _ (by omega)).mono ?_
          rw [p3.out, p4.out]
          rintro e wZ ⟨rfl, hbX⟩
          have hacc := hacc.trans (hbX.mono hacc.size)
          have bR := bR.below hbX
          clear hbX
          go_wp2_with fail
          with_reducible refine (HM.out _).mono ?_
          rintro e wZ ⟨rfl, hbX⟩
          have hacc := hacc.trans (hbX.mono hacc.size)
          have bR := bR.below hbX
          clear hbX
          have kgQ := hacc.size
          have hacc := hacc.alloc hacc.size (.cells #[.bool false, .string ⟨#[]⟩, .string ⟨#[]⟩] 27)
          have dgR := bR.lt
          have bR := bR.alloc (.cells #[.bool false, .string ⟨#[]⟩, .string ⟨#[]⟩] 27)
          have bQ : Rx (wZ.alloc (.cells #[.bool false, .string ⟨#[]⟩, .string ⟨#[]⟩] 27)) wZ.heap.size [.bool false, .string ⟨#[]⟩, .string ⟨#[]⟩] := Rx.new wZ _ rfl [.bool false, .string ⟨#[]⟩, .string ⟨#[]⟩] 27
          go_upto_region 12 with fail
          generalize wZ.heap.size = gQ at *
          generalize wZ.alloc (.cells #[.bool false, .string ⟨#[]⟩, .string ⟨#[]⟩] 27) = WgQ at *
          have ngRgQ : gR ≠ gQ := by omega
          clear dgR
          have cgQ0 := bQ.at 0 rfl
          have fgQ0 := bQ.fr 0 rfl
          have cgQ1 := bQ.at 1 rfl
          have fgQ1 := bQ.fr 1 rfl
          have cgQ2 := bQ.at 2 rfl
          have fgQ2 := bQ.fr 2 rfl
          have cgR0 := bR.at 0 rfl
          have fgR0 := bR.fr 0 rfl
          have cgR1 := bR.at 1 rfl
          have fgR1 := bR.fr 1 rfl
          have cgR2 := bR.at 2 rfl
          have fgR2 := bR.fr 2 rfl
          go_wp2_with fail
          refine bodyPost_ret (v := .tuple #[.agg #[.bool false, .string ⟨#[]⟩, .string ⟨#[]⟩], .bool false]) (by simp [results, Tryz.results13, go_sem, cgR0, cgR1, cgR2]) rfl ⟨by rw [HB.out.1, HB.out.2]; rfl, (((hacc.setCell kgR _).setCell kgR _).setCell kgR _)⟩
        · rw [if_neg hd0] at HP
          obtain ⟨q, hqe⟩ : ∃ q, mk neg n d = q := ⟨_, rfl⟩
          have HM := Lib.hid (fun W => amake_ok neg (nb n) (nb d) W (by omega) (by omega) (rightB_nb n) (rightB_nb d) (by have := nb_pos (show 0 < d by omega); omega))
          have sq : Sz q 300000 := by rw [← hqe]; exact Sz_mk (by omega) zn (zd)
          rw [bv_nb, bv_nb, hqe] at HM
          have HT := Lib.hid (fun W h => atext_any q W (sq.mono (by decide)) h)
          simp only [rv] at HM HT
          rw [hqe] at HP
          by_cases hq : ratS q = s
          · skip
            have HB := Lib.hid (Hp.out (some q) (by rw [HP, if_pos hq]))
            have ht1 : (ratS q).toList = s.toList := by rw [hq]
            clear HP hq
            go_enter Tryz.func13, Tryz.ntmps13
            have bR : Rx (w.alloc (.cells #[.bool false, .string ⟨#[]⟩, .string ⟨#[]⟩] 27)) (w.heap.size) [.bool false, .string ⟨#[]⟩, .string ⟨#[]⟩] := (Rx.new w _ rfl [.bool false, .string ⟨#[]⟩, .string ⟨#[]⟩] 27)
            have hacc := ((Below.refl w.heap.size w).alloc (Nat.le_refl w.heap.size) (.cells #[.bool false, .string ⟨#[]⟩, .string ⟨#[]⟩] 27))
            go_upto_region 1 with fail
            generalize w.alloc (.cells #[.bool false, .string ⟨#[]⟩, .string ⟨#[]⟩] 27) = W0 at *
            obtain ⟨gR, hgR⟩ : ∃ g, g = w.heap.size := ⟨_, rfl⟩
            rw [← hgR] at bR
            simp only [← hgR]
            have kgR : w.heap.size ≤ gR := by omega
            clear hgR
            go_wp2_with fail
            refine (C1.out _).mono ?_
            rintro e w1 ⟨rfl, rfl⟩
            go_wp2_with fail
            refine (C2.out _ (hG.below hacc)).mono ?_
            rintro e wZ ⟨rfl, nd, hnd⟩
            have hbX : Below w1.heap.size w1 wZ := by rw [hnd]; exact below_drewN (Below.refl _ _) nd
            clear hnd
            have hacc := hacc.trans (hbX.mono hacc.size)
            have bR := bR.below hbX
            clear hbX
            go_wp2_with fail
            with_reducible refine (nparse_any ⟨X.toArray⟩ _ (by omega)).mono ?_
            rw [p1.out, p2.out]
            rintro e wZ ⟨rfl, hbX⟩
            have hacc := hacc.trans (hbX.mono hacc.size)
            have bR := bR.below hbX
            clear hbX
            go_wp2_with fail
            with_reducible refine (nparse_any ⟨Y.toArray⟩ _ (by omega)).mono ?_
            rw [p3.out, p4.out]
            rintro e wZ ⟨rfl, hbX⟩
            have hacc := hacc.trans (hbX.mono hacc.size)
            have bR := bR.below hbX
            clear hbX
            go_wp2_with fail
            with_reducible refine (HM.out _).mono ?_
            rintro e wZ ⟨rfl, hbX⟩
            have hacc := hacc.trans (hbX.mono hacc.size)
            have bR := bR.below hbX
            clear hbX
            have kgQ := hacc.size
            have hacc := hacc.alloc hacc.size (.cells #[.bool (decide (q.num < 0)), .string (nb q.num.natAbs), .string (nb q.den)] 27)
            have dgR := bR.lt
            have bR := bR.alloc (.cells #[.bool (decide (q.num < 0)), .string (nb q.num.natAbs), .string (nb q.den)] 27)
            have bQ : Rx (wZ.alloc (.cells #[.bool (decide (q.num < 0)), .string (nb q.num.natAbs), .string (nb q.den)] 27)) wZ.heap.size [.bool (decide (q.num < 0)), .string (nb q.num.natAbs), .string (nb q.den)] := Rx.new wZ _ rfl [.bool (decide (q.num < 0)), .string (nb q.num.natAbs), .string (nb q.den)] 27
            go_upto_region 12 with fail
            generalize wZ.heap.size = gQ at *
            generalize wZ.alloc (.cells #[.bool (decide (q.num < 0)), .string (nb q.num.natAbs), .string (nb q.den)] 27) = WgQ at *
            have ngRgQ : gR ≠ gQ := by omega
            clear dgR
            have cgQ0 := bQ.at 0 rfl
            have fgQ0 := bQ.fr 0 rfl
            have cgQ1 := bQ.at 1 rfl
            have fgQ1 := bQ.fr 1 rfl
            have cgQ2 := bQ.at 2 rfl
            have fgQ2 := bQ.fr 2 rfl
            go_wp2_with fail
            clear cgQ0 fgQ0 cgQ1 fgQ1 cgQ2 fgQ2
            with_reducible refine (HT.out _ (hG.below hacc).tab).mono ?_
            rintro e wZ ⟨rfl, hbX⟩
            have hacc := hacc.trans (hbX.mono hacc.size)
            have bR := bR.below hbX
            have bQ := bQ.below hbX
            clear hbX
            have cgQ0 := bQ.at 0 rfl
            have fgQ0 := bQ.fr 0 rfl
            have cgQ1 := bQ.at 1 rfl
            have fgQ1 := bQ.fr 1 rfl
            have cgQ2 := bQ.at 2 rfl
            have fgQ2 := bQ.fr 2 rfl
            have cgR0 := bR.at 0 rfl
            have fgR0 := bR.fr 0 rfl
            have cgR1 := bR.at 1 rfl
            have fgR1 := bR.fr 1 rfl
            have cgR2 := bR.at 2 rfl
            have fgR2 := bR.fr 2 rfl
            go_wp2_with fail
            refine bodyPost_ret (v := .tuple #[.agg #[.bool (decide (q.num < 0)), .string (nb q.num.natAbs), .string (nb q.den)], .bool true]) (by simp [results, Tryz.results13, go_sem, cgR0, cgR1, cgR2]) rfl ⟨by rw [HB.out.1, HB.out.2]; rfl, (((hacc.setCell kgR _).setCell kgR _).setCell kgR _)⟩
          · skip
            have HB := Lib.hid (Hp.out (none) (by rw [HP, if_neg hq]))
            have ht1 := str_ne hq
            have ht2 := str_neB hq
            clear HP hq
            go_enter Tryz.func13, Tryz.ntmps13
            have bR : Rx (w.alloc (.cells #[.bool false, .string ⟨#[]⟩, .string ⟨#[]⟩] 27)) (w.heap.size) [.bool false, .string ⟨#[]⟩, .string ⟨#[]⟩] := (Rx.new w _ rfl [.bool false, .string ⟨#[]⟩, .string ⟨#[]⟩] 27)
            have hacc := ((Below.refl w.heap.size w).alloc (Nat.le_refl w.heap.size) (.cells #[.bool false, .string ⟨#[]⟩, .string ⟨#[]⟩] 27))
            go_upto_region 1 with fail
            generalize w.alloc (.cells #[.bool false, .string ⟨#[]⟩, .string ⟨#[]⟩] 27) = W0 at *
            obtain ⟨gR, hgR⟩ : ∃ g, g = w.heap.size := ⟨_, rfl⟩
            rw [← hgR] at bR
            simp only [← hgR]
            have kgR : w.heap.size ≤ gR := by omega
            clear hgR
            go_wp2_with fail
            refine (C1.out _).mono ?_
            rintro e w1 ⟨rfl, rfl⟩
            go_wp2_with fail
            refine (C2.out _ (hG.below hacc)).mono ?_
            rintro e wZ ⟨rfl, nd, hnd⟩
            have hbX : Below w1.heap.size w1 wZ := by rw [hnd]; exact below_drewN (Below.refl _ _) nd
            clear hnd
            have hacc := hacc.trans (hbX.mono hacc.size)
            have bR := bR.below hbX
            clear hbX
            go_wp2_with fail
            with_reducible refine (nparse_any ⟨X.toArray⟩ _ (by omega)).mono ?_
            rw [p1.out, p2.out]
            rintro e wZ ⟨rfl, hbX⟩
            have hacc := hacc.trans (hbX.mono hacc.size)
            have bR := bR.below hbX
            clear hbX
            go_wp2_with fail
            with_reducible refine (nparse_any ⟨Y.toArray⟩ _ (by omega)).mono ?_
            rw [p3.out, p4.out]
            rintro e wZ ⟨rfl, hbX⟩
            have hacc := hacc.trans (hbX.mono hacc.size)
            have bR := bR.below hbX
            clear hbX
            go_wp2_with fail
            with_reducible refine (HM.out _).mono ?_
            rintro e wZ ⟨rfl, hbX⟩
            have hacc := hacc.trans (hbX.mono hacc.size)
            have bR := bR.below hbX
            clear hbX
            have kgQ := hacc.size
            have hacc := hacc.alloc hacc.size (.cells #[.bool (decide (q.num < 0)), .string (nb q.num.natAbs), .string (nb q.den)] 27)
            have dgR := bR.lt
            have bR := bR.alloc (.cells #[.bool (decide (q.num < 0)), .string (nb q.num.natAbs), .string (nb q.den)] 27)
            have bQ : Rx (wZ.alloc (.cells #[.bool (decide (q.num < 0)), .string (nb q.num.natAbs), .string (nb q.den)] 27)) wZ.heap.size [.bool (decide (q.num < 0)), .string (nb q.num.natAbs), .string (nb q.den)] := Rx.new wZ _ rfl [.bool (decide (q.num < 0)), .string (nb q.num.natAbs), .string (nb q.den)] 27
            go_upto_region 12 with fail
            generalize wZ.heap.size = gQ at *
            generalize wZ.alloc (.cells #[.bool (decide (q.num < 0)), .string (nb q.num.natAbs), .string (nb q.den)] 27) = WgQ at *
            have ngRgQ : gR ≠ gQ := by omega
            clear dgR
            have cgQ0 := bQ.at 0 rfl
            have fgQ0 := bQ.fr 0 rfl
            have cgQ1 := bQ.at 1 rfl
            have fgQ1 := bQ.fr 1 rfl
            have cgQ2 := bQ.at 2 rfl
            have fgQ2 := bQ.fr 2 rfl
            go_wp2_with fail
            clear cgQ0 fgQ0 cgQ1 fgQ1 cgQ2 fgQ2
            with_reducible refine (HT.out _ (hG.below hacc).tab).mono ?_
            rintro e wZ ⟨rfl, hbX⟩
            have hacc := hacc.trans (hbX.mono hacc.size)
            have bR := bR.below hbX
            have bQ := bQ.below hbX
            clear hbX
            have cgQ0 := bQ.at 0 rfl
            have fgQ0 := bQ.fr 0 rfl
            have cgQ1 := bQ.at 1 rfl
            have fgQ1 := bQ.fr 1 rfl
            have cgQ2 := bQ.at 2 rfl
            have fgQ2 := bQ.fr 2 rfl
            have cgR0 := bR.at 0 rfl
            have fgR0 := bR.fr 0 rfl
            have cgR1 := bR.at 1 rfl
            have fgR1 := bR.fr 1 rfl
            have cgR2 := bR.at 2 rfl
            have fgR2 := bR.fr 2 rfl
            go_wp2_with fail
            refine bodyPost_ret (v := .tuple #[.agg #[.bool false, .string ⟨#[]⟩, .string ⟨#[]⟩], .bool false]) (by simp [results, Tryz.results13, go_sem, cgR0, cgR1, cgR2]) rfl ⟨by rw [HB.out.1, HB.out.2]; rfl, (((hacc.setCell kgR _).setCell kgR _).setCell kgR _)⟩
end Go.Proofs.YtfbjboehniakcaaGreatDoor
