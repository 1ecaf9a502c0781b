/- Parts of the proofs about this seat's statements. -/
import Derived.Test.YtmacnhjbjembiaaGreatDoorY1234567o
import Derived.RangeFuncNested
import Derived.RangeFuncBound
import Derived.RangeFuncCalls
import Derived.RangeFuncLeaves
import Derived.Shelf.Abstract
import Derived.Shelf.RegionOpen
import Derived.OwnWalkIn
import Derived.TacticsInMore
import Derived.LoopNIn
import Derived.LoopIn
namespace Go.Proofs.YtmacnhjbjembiaaGreatDoor
open Go.RowKit W
open Pl (uv vn vs fitO makeO roundO p10 cmpI oN oS oB dtext)
open Pl (nb bv bv_nb nb_size_zero)
open Iv
set_option maxRecDepth 100000 in
set_option maxHeartbeats 4000000 in
theorem ibelow_any (q : Rat) (w : World) (hq : Sz q 60) (hG : GI w) :
  Calls Tryz.prog 72 #[rv q] w fun e w' => e = .returned (dc (Dn (blw (fl q 6))) (Ds (blw (fl q 6)))) ∧ Below w.heap.size w w' := by
 have hD := bel_D (fl q 6); have hn := fl_neg q; have HF := Lib.hid (fun (k : Nat) (h : k ≤ 6) W (hI : GI W) => ifloor_any q k W hq h hI)
 have HC := Lib.hid (fun (k : Nat) (h : k ≤ 6) => show floT q k = tryB (fl q 6 / 10 ^ (6 - k)) k from by unfold floT; rw [fl_cut q h])
 generalize floT q = T at *; generalize fl q 6 = F at *; have HB := Lib.hid (bel_step F)
 have hb6 : dc (Dn (blw F)) (Ds (blw F)) = dc (bel F 6).1 (bel F 6).2 := by rw [hD]
 rw [hb6]; clear hb6 hD hq; have HN := Lib.hid hn; clear hn
 simp only [rv, dc] at HF
 unfold rv dc
 have hd : decide (q.num < 0) = true ∨ decide (q.num < 0) = false := by cases decide (q.num < 0) <;> simp
 have HD := Lib.hid hd; clear hd
 go_enter Tryz.func72, Tryz.ntmps72
 have ⟨bA, bR, hacc⟩ := opn2 w [.bool (decide (q.num < 0)), .string (nb q.num.natAbs), .string (nb q.den)] [.int .i64 0, .int .i64 0] 92 24
 go_upto_region 1 with fail
 generalize (w.alloc (.cells #[.bool (decide (q.num < 0)), .string (nb q.num.natAbs), .string (nb q.den)] 92)).alloc (.cells #[.int .i64 0, .int .i64 0] 24) = W0 at *; generalize hgR : w.heap.size + 1 = gR at *; obtain ⟨gA, hgA⟩ : ∃ g, g = w.heap.size := ⟨_, rfl⟩; rw [← hgA] at bA
 simp only [← hgA]
 have ngAgR : gA ≠ gR := by omega
 have kgA : w.heap.size ≤ gA := by omega
 have kgR : w.heap.size ≤ gR := by omega
 clear hgA hgR
 go_wp2_with fail
 go_loopw [3] (fun i wr => ∃ k : Int, i = .int .i64 k ∧ -1 ≤ k ∧ k ≤ 6 ∧ Hid (bel F 6 = belJ F (k + 1).toNat) ∧ Rx wr gA [.bool (decide (q.num < 0)), .string (nb q.num.natAbs), .string (nb q.den)] ∧ Rx wr gR [.int .i64 0, .int .i64 0] ∧ Below w.heap.size w wr) (fun i _ => (intOf i + 1).toNat)
 case atStart => exact ⟨6, rfl, by omega, by omega, Lib.hid rfl, bA, bR, hacc⟩
 case round =>
  clear bA bR hacc; obtain ⟨k, rfl, hk0, hk6, HE, bA, bR, hacc⟩ := hrel
  by_cases h : 0 ≤ k
  ·obtain ⟨m, rfl⟩ := Int.eq_ofNat_of_zero_le h
   have hm : m ≤ 6 := by omega
   have HFm := Lib.hid (HF.out m hm); have hs := HB.out m; have he := HE.out
   rw [show ((m : Int) + 1).toNat = m + 1 by omega, show belJ F (m + 1) = bel F m from rfl, hs, ← HC.out m hm] at he
   clear hs HE
   have hm0 : (0 : Int) ≤ (m : Int) := by omega
   cases hT : T m with
   | some p =>
    rw [hT] at HFm he
    simp only [oN, oS, oB] at HFm he
    have HE := Lib.hid he; clear he hT; have ⟨cgA0, fgA0, cgA1, fgA1, cgA2, fgA2⟩ := bA.all3
    go_wp2_with fail
    clear cgA0 fgA0 cgA1 fgA1 cgA2 fgA2
    with_reducible refine (HFm.out _ (hG.below hacc)).mono ?_
    rintro e wZ ⟨rfl, hbX⟩; replace hacc := hacc.trans (hbX.mono hacc.size); replace bA := bA.below hbX; replace bR := bR.below hbX; clear hbX; have kgX := hacc.size; replace hacc := hacc.alloc hacc.size (.cells #[.int .i64 (p.1), .int .i64 (p.2)] 24); have dgA := bA.lt; have dgR := bR.lt; replace bA := bA.alloc (.cells #[.int .i64 (p.1), .int .i64 (p.2)] 24); replace bR := bR.alloc (.cells #[.int .i64 (p.1), .int .i64 (p.2)] 24)
    have bX : Rx (wZ.alloc (.cells #[.int .i64 (p.1), .int .i64 (p.2)] 24)) wZ.heap.size [.int .i64 (p.1), .int .i64 (p.2)] := Rx.new wZ _ rfl [.int .i64 (p.1), .int .i64 (p.2)] 24
    go_upto_region 6 with fail
    generalize wZ.heap.size = gX at *; generalize wZ.alloc (.cells #[.int .i64 (p.1), .int .i64 (p.2)] 24) = WgX at *
    have ngAgX : gA ≠ gX := by omega
    have ngRgX : gR ≠ gX := by omega
    clear dgA dgR; have ⟨cgX0, fgX0, cgX1, fgX1⟩ := bX.all2; have cgR0 := bR.at 0 rfl; have fgR0 := bR.fr 0 rfl; have cgR1 := bR.at 1 rfl; have fgR1 := bR.fr 1 rfl; have cgR0 := bR.at 0 rfl; have fgR0 := bR.fr 0 rfl; have cgR1 := bR.at 1 rfl; have fgR1 := bR.fr 1 rfl
    go_wp2_with fail
    refine bodyPost_ret (v := .agg #[.int .i64 (p.1), .int .i64 (p.2)]) (by simp [results, Tryz.results72, go_sem, cgR0, cgR1]) rfl ⟨by rw [HE.out], ((hacc.setCell kgR _).setCell kgR _)⟩
   | none =>
    rw [hT] at HFm he
    simp only [oN, oS, oB] at HFm he
    have HE := Lib.hid he; clear he hT; have ⟨cgA0, fgA0, cgA1, fgA1, cgA2, fgA2⟩ := bA.all3
    go_wp2_with fail
    clear cgA0 fgA0 cgA1 fgA1 cgA2 fgA2
    with_reducible refine (HFm.out _ (hG.below hacc)).mono ?_
    rintro e wZ ⟨rfl, hbX⟩; replace hacc := hacc.trans (hbX.mono hacc.size); replace bA := bA.below hbX; replace bR := bR.below hbX; clear hbX; have kgX := hacc.size; replace hacc := hacc.alloc hacc.size (.cells #[.int .i64 0, .int .i64 0] 24); have dgA := bA.lt; have dgR := bR.lt; replace bA := bA.alloc (.cells #[.int .i64 0, .int .i64 0] 24); replace bR := bR.alloc (.cells #[.int .i64 0, .int .i64 0] 24)
    have bX : Rx (wZ.alloc (.cells #[.int .i64 0, .int .i64 0] 24)) wZ.heap.size [.int .i64 0, .int .i64 0] := Rx.new wZ _ rfl [.int .i64 0, .int .i64 0] 24
    go_wp2_with fail
    generalize wZ.heap.size = gX at *; generalize wZ.alloc (.cells #[.int .i64 0, .int .i64 0] 24) = WgX at *
    have ngAgX : gA ≠ gX := by omega
    have ngRgX : gR ≠ gX := by omega
    clear dgA dgR
    go_roundw
    case rel => exact ⟨(m : Int) - 1, by go_num, by omega, by omega, Lib.hid (by rw [HE.out, show ((m : Int) - 1 + 1).toNat = m by omega]), bA, bR, hacc⟩
    case measure => simp [intOf]
  ·obtain rfl : k = -1 := by omega
   have he := HE.out
   rw [show ((-1 : Int) + 1).toNat = 0 by decide] at he
   clear HE
   rcases HD.out with hd | hd
   ·have HE : Hid (bel F 6 = (-1000000000000000, 0)) := Lib.hid (by rw [he]; unfold belJ; rw [if_pos (HN.out.2 (of_decide_eq_true hd))])
    clear he; rw [hd] at bA; have ⟨cgA0, fgA0, cgA1, fgA1, cgA2, fgA2⟩ := bA.all3; have cgR0 := bR.at 0 rfl; have fgR0 := bR.fr 0 rfl; have cgR1 := bR.at 1 rfl; have fgR1 := bR.fr 1 rfl; have cgR0 := bR.at 0 rfl; have fgR0 := bR.fr 0 rfl; have cgR1 := bR.at 1 rfl; have fgR1 := bR.fr 1 rfl
    go_wp2_with fail
    refine bodyPost_ret (v := .agg #[.int .i64 (-1000000000000000), .int .i64 0]) (by simp [results, Tryz.results72, go_sem, cgR0, cgR1]) rfl ⟨by rw [HE.out], ((hacc.setCell kgR _).setCell kgR _)⟩
   ·have HE : Hid (bel F 6 = (1000000000000000, 0)) := Lib.hid (by rw [he]; unfold belJ; rw [if_neg (fun hh => of_decide_eq_false hd (HN.out.1 hh))])
    clear he; rw [hd] at bA; have ⟨cgA0, fgA0, cgA1, fgA1, cgA2, fgA2⟩ := bA.all3; have cgR0 := bR.at 0 rfl; have fgR0 := bR.fr 0 rfl; have cgR1 := bR.at 1 rfl; have fgR1 := bR.fr 1 rfl; have cgR0 := bR.at 0 rfl; have fgR0 := bR.fr 0 rfl; have cgR1 := bR.at 1 rfl; have fgR1 := bR.fr 1 rfl
    go_wp2_with fail
    refine bodyPost_ret (v := .agg #[.int .i64 1000000000000000, .int .i64 0]) (by simp [results, Tryz.results72, go_sem, cgR0, cgR1]) rfl ⟨by rw [HE.out], ((hacc.setCell kgR _).setCell kgR _)⟩
set_option maxRecDepth 100000 in
set_option maxHeartbeats 4000000 in
theorem iabove_any (q : Rat) (w : World) (hq : Sz q 60) (hG : GI w) :
  Calls Tryz.prog 73 #[rv q] w fun e w' => e = .returned (dc (Dn (-blw (fl (-q) 6))) (Ds (-blw (fl (-q) 6)))) ∧ Below w.heap.size w w' := by
 have hi := blw_in (fl (-q) 6); have hd := D_neg hi; have hr := Pl.rightB_true.1 (right_D hi)
 have N := Lib.hid (fun W => aneg_any q W (hq.mono (by decide)))
 have B := Lib.hid (fun W (hI : GI W) => ibelow_any (-q) W (Sz_neg hq) hI); rw [hd.1, hd.2]; obtain ⟨_, _, r0, r1, _⟩ := hr; clear hd hi hq; generalize -q = p at *; generalize Dn (blw (fl p 6)) = n at *; generalize Ds (blw (fl p 6)) = s at *
 simp only [rv, dc] at N B
 unfold rv dc; generalize decide (q.num < 0) = q0 at *; generalize nb q.num.natAbs = q1 at *; generalize nb q.den = q2 at *
 have hw : IntKind.i64.wrap (-n) = -n := by rw [IntKind.wrap_i64]; omega
 go_enter Tryz.func73, Tryz.ntmps73
 have ⟨bA, bR, hacc⟩ := opn2 w [.bool q0, .string q1, .string q2] [.int .i64 0, .int .i64 0] 92 24
 go_upto_region 1 with fail
 generalize (w.alloc (.cells #[.bool q0, .string q1, .string q2] 92)).alloc (.cells #[.int .i64 0, .int .i64 0] 24) = W0 at *; generalize hgR : w.heap.size + 1 = gR at *; obtain ⟨gA, hgA⟩ : ∃ g, g = w.heap.size := ⟨_, rfl⟩; rw [← hgA] at bA
 simp only [← hgA]
 have ngAgR : gA ≠ gR := by omega
 have kgA : w.heap.size ≤ gA := by omega
 have kgR : w.heap.size ≤ gR := by omega
 clear hgA hgR; have ⟨cgA0, fgA0, cgA1, fgA1, cgA2, fgA2⟩ := bA.all3
 go_wp2_with fail
 clear cgA0 fgA0 cgA1 fgA1 cgA2 fgA2
 with_reducible refine (N.out _).mono ?_
 rintro e wZ ⟨rfl, hbX⟩; replace hacc := hacc.trans (hbX.mono hacc.size); replace bA := bA.below hbX; replace bR := bR.below hbX; clear hbX
 go_wp2_with fail
 with_reducible refine (B.out _ (hG.below hacc)).mono ?_
 rintro e wZ ⟨rfl, hbX⟩; replace hacc := hacc.trans (hbX.mono hacc.size); replace bA := bA.below hbX; replace bR := bR.below hbX; clear hbX; have kgX := hacc.size; replace hacc := hacc.alloc hacc.size (.cells #[.int .i64 n, .int .i64 s] 24); have dgA := bA.lt; have dgR := bR.lt; replace bA := bA.alloc (.cells #[.int .i64 n, .int .i64 s] 24); replace bR := bR.alloc (.cells #[.int .i64 n, .int .i64 s] 24)
 have bX : Rx (wZ.alloc (.cells #[.int .i64 n, .int .i64 s] 24)) wZ.heap.size [.int .i64 n, .int .i64 s] := Rx.new wZ _ rfl [.int .i64 n, .int .i64 s] 24
 go_upto_region 2 with fail
 generalize wZ.heap.size = gX at *; generalize wZ.alloc (.cells #[.int .i64 n, .int .i64 s] 24) = WgX at *
 have ngAgX : gA ≠ gX := by omega
 have ngRgX : gR ≠ gX := by omega
 clear dgA dgR; have ⟨cgX0, fgX0, cgX1, fgX1⟩ := bX.all2; replace hacc := hacc.setCell (p := ⟨gX, 0, none⟩) kgX (.int .i64 (-n)); replace bA := bA.other (p := ⟨gX, 0, none⟩) (Ne.symm ngAgX) (.int .i64 (-n)); replace bR := bR.other (p := ⟨gX, 0, none⟩) (Ne.symm ngRgX) (.int .i64 (-n))
 replace bX := bX.put 0 (.int .i64 (-n)) (by simp)
 simp only [List.set] at bX
 go_upto_region 3 with fail
 clear cgX0 fgX0 cgX1 fgX1; generalize WgX.setCell ⟨gX, 0, none⟩ (.int .i64 (-n)) = WS at *; have ⟨cgX0, fgX0, cgX1, fgX1⟩ := bX.all2; have cgR0 := bR.at 0 rfl; have fgR0 := bR.fr 0 rfl; have cgR1 := bR.at 1 rfl; have fgR1 := bR.fr 1 rfl; have cgR0 := bR.at 0 rfl; have fgR0 := bR.fr 0 rfl; have cgR1 := bR.at 1 rfl; have fgR1 := bR.fr 1 rfl
 go_wp2_with fail
 refine bodyPost_ret (v := .agg #[.int .i64 (-n), .int .i64 s]) (by simp [results, Tryz.results73, go_sem, cgR0, cgR1]) rfl ⟨rfl, ((hacc.setCell kgR _).setCell kgR _)⟩
end Go.Proofs.YtmacnhjbjembiaaGreatDoor
namespace Go.Proofs.YtmacnhjbjembiaaGreatDoor
open Go.RowKit W Go.Shelf
open Pl (uv vn vs fitO makeO roundO p10 cmpI oN oS oB dtext)
open Pl (nb bv bv_nb nb_size_zero)
open Iv
attribute [local go_sem] Oper.semAt_some
abbrev Zb := { z : Int // z.natAbs ≤ 10000000000000000000000000000000000000000000 }
def sel (i : Nat) (p : Int × Int) : Int := if i = 0 then p.1 else p.2
theorem sel_in {i : Nat} {p : Int × Int} (h : InP p) : InR (sel i p) := by unfold sel; split; exact h.1; exact h.2
def KeptC (T : Nat → Prop) (W W' : World) : Prop := ∀ k cs t fr, ¬ T k → W.heap[k]? = some (.cells cs t fr) → W'.heap[k]? = some (.cells cs t fr)
theorem KeptC.t {T : Nat → Prop} {A B C : World} (h : KeptC T A B) (k : KeptC T B C) : KeptC T A C := fun i cs t fr hT hi => k i cs t fr hT (h i cs t fr hT hi)
theorem KeptC.refl {T : Nat → Prop} (A : World) : KeptC T A A := fun _ _ _ _ _ h => h
theorem KeptC.b {T : Nat → Prop} {B : Nat} (W : World) (l : Nat) (o o' : Obj) (_ : B ≤ l) (hl : W.heap[l]? = some o) (ho : o.isCells = false) (_ : o.isWalk = false) : KeptC T W (W.putObj l o') :=
 fun k cs t fr _ hk => by
  rw [World.putObj_heap_other (by rintro rfl; rw [hl] at hk; cases hk; cases ho)]
  exact hk
theorem KeptC.below {T : Nat → Prop} {W W' : World} (h : Below W.heap.size W W') : KeptC T W W' :=
 fun k _ _ _ _ hk => (h.block k (Array.getElem?_eq_some_iff.1 hk).1).trans hk
def KP (T : Nat → Prop) (B : Nat) (W W' : World) : Prop := KeptC T W W' ∧ Below B W W'
theorem KP.t {T : Nat → Prop} {B : Nat} {A C D : World} (h : KP T B A C) (k : KP T B C D) : KP T B A D := ⟨h.1.t k.1, h.2.trans k.2⟩
theorem KP.below {T : Nat → Prop} {B : Nat} {W W' : World} (h : Below W.heap.size W W') (hB : B ≤ W.heap.size) : KP T B W W' := ⟨KeptC.below h, h.mono hB⟩
theorem abide {β : Type} {B : Nat} {J : β → World → Prop} (h : AbidesFrom B J) {s : β} {W W' : World} (hs : J s W) (hb : Below W.heap.size W W') : J s W' :=
 h s W W' none hs ⟨hb.os, hb.tape, hb.output, hb.size, fun k hk _ => hb.block k hk⟩ (fun r e => by cases e)
section
variable (fz : Int → Int → Int) (hb : ∀ u v, InR u → InR v → (fz u v).natAbs ≤ 10000000000000000000000000000000000000000000) (p q : Int × Int) (hp : InP p) (hq : InP q)
def cnd (i j : Nat) : Zb := ⟨fz (sel i p) (sel j q), hb _ _ (sel_in hp) (sel_in hq)⟩
def cnds : List Zb := [cnd fz hb p q hp hq 0 0, cnd fz hb p q hp hq 0 1, cnd fz hb p q hp hq 1 0, cnd fz hb p q hp hq 1 1]
theorem cnds_take {i j : Nat} (hi : i < 2) (hj : j < 2) : (cnds fz hb p q hp hq).take (2 * i + j + 1) = (cnds fz hb p q hp hq).take (2 * i + j) ++ [cnd fz hb p q hp hq i j] := by
 rcases (show i = 0 ∨ i = 1 by omega) with rfl | rfl <;> rcases (show j = 0 ∨ j = 1 by omega) with rfl | rfl <;> rfl
end
theorem icand_any (a b c d e' f' g' h' : Int) (fop : Nat) (w : World) :
  Calls Tryz.prog 116 #[rg a b c d, rg e' f' g' h', .func (.func fop) #[] #[]] w fun e w' => e = .returned (.func (.func 144) #[] #[.pointer (some ⟨w.heap.size, 0, none⟩), .pointer (some ⟨w.heap.size + 1, 0, none⟩), .pointer (some ⟨w.heap.size + 2, 0, none⟩)]) ∧ w' = ((w.alloc (.cells #[.int .i64 a, .int .i64 b, .int .i64 c, .int .i64 d] 30)).alloc (.cells #[.int .i64 e', .int .i64 f', .int .i64 g', .int .i64 h'] 30)).alloc (.cells #[.func (.func fop) #[] #[]] 87) := by
 go_enter Tryz.func116, Tryz.ntmps116
 go_wp2
 go_ret
 exact ⟨rfl, rfl⟩
def Cut9 (a : Act) (i1 i2 i3 i4 i5 i6 i7 i8 i9 : Nat) (R : Value → World → Prop) : Exit → Act → World → Prop
  | .normal, a', w' => ∃ t1 t2 t3 t4 t5 t6 t7 t8 t9 : Value, a' = { tmps := ((((((((a.tmps.setIfInBounds i1 t1).setIfInBounds i2 t2).setIfInBounds i3 t3).setIfInBounds i4 t4).setIfInBounds i5 t5).setIfInBounds i6 t6).setIfInBounds i7 t7).setIfInBounds i8 t8).setIfInBounds i9 t9, defers := a.defers } ∧ R t9 w'
  | _, _, _ => False
theorem wpIn_cut9 {F : Fence} {n : Nat} {P : Program} {c : Code} {Q : Exit → Act → World → Prop} {a : Act} {w : World} (i1 i2 i3 i4 i5 i6 i7 i8 i9 : Nat) (R : Value → World → Prop)
  (h1 : c.wpIn F n P (Cut9 a i1 i2 i3 i4 i5 i6 i7 i8 i9 R) a w)
  (h2 : ∀ (t1 t2 t3 t4 t5 t6 t7 t8 t9 : Value) (w' : World), R t9 w' → Q .normal { tmps := ((((((((a.tmps.setIfInBounds i1 t1).setIfInBounds i2 t2).setIfInBounds i3 t3).setIfInBounds i4 t4).setIfInBounds i5 t5).setIfInBounds i6 t6).setIfInBounds i7 t7).setIfInBounds i8 t8).setIfInBounds i9 t9, defers := a.defers } w') : c.wpIn F n P Q a w :=
 wpIn_mono h1 (fun e a' w' h => by
  cases e with
  | normal => obtain ⟨t1, t2, t3, t4, t5, t6, t7, t8, t9, rfl, hR⟩ := h; exact h2 t1 t2 t3 t4 t5 t6 t7 t8 t9 w' hR
  | _ => exact (h : False).elim)
theorem yb {e : Ending} {A B : Prop} (h : (e = .returned (.bool true) ∧ A) ∨ (e = .returned (.bool false) ∧ B)) : ∃ b : Bool, e = .returned (.bool b) ∧ ((b = true ∧ A) ∨ (b = false ∧ B)) := by
 rcases h with ⟨rfl, h⟩ | ⟨rfl, h⟩
 ·exact ⟨true, rfl, .inl ⟨rfl, h⟩⟩
 ·exact ⟨false, rfl, .inr ⟨rfl, h⟩⟩
theorem idx2 {a0 a1 b0 b1 : Int} (p : Int × Int) (h0 : a0 = Dn p.1) (h1 : a1 = Ds p.1) (h2 : b0 = Dn p.2) (h3 : b1 = Ds p.2) (k : Nat) (hk : k < 2) (w : World) :
  (Instr.index 150 (.agg #[.int .i64 a0, .int .i64 a1, .int .i64 b0, .int .i64 b1]) (.int .i64 (k : Int))).run Tryz.prog w = .ok (.agg #[.int .i64 (Dn (sel k p)), .int .i64 (Ds (sel k p))]) w := by
 subst h0 h1 h2 h3
 rcases (show k = 0 ∨ k = 1 by omega) with rfl | rfl
 ·kernel_rfl
 ·kernel_rfl
end Go.Proofs.YtmacnhjbjembiaaGreatDoor
