/- Parts of the proofs about this seat's statements. -/
import Derived.Test.YtinmmkcjjlconaaGreatS1t
set_option maxRecDepth 100000
set_option maxHeartbeats 16000000
namespace Go.Proofs.YtinmmkcjjlconaaGreat
open Go.RowKit W
open Pl (nb bv bv_nb nb_size_zero)
open Lp (S S_succ)
def valsT (v : Value) (l : List Value) : Thing := ⟨fun b => v.ownBlock = some b, fun W => Vals 27 W 0 v l, fun _ _ _ h ho hm => h.off ho hm⟩
structure Parts (m n : Nat) (A : Nat → Nat → Rat) (B C : Nat → Rat) (vA vB vC : Value) (rv_ : Nat → Value) (T : Nat → Thing) : Prop where
  b : T 0 = listT vB (raws m B)
  c : T 1 = listT vC (raws n C)
  a : T 3 = valsT vA ((List.range m).map rv_)
  r : ∀ i, i < m → T (4 + i) = listT (rv_ i) (raws n (A i))
theorem Parts.pr {m n : Nat} {A : Nat → Nat → Rat} {B C : Nat → Rat} {vA vB vC : Value} {rv_ : Nat → Value} {T : Nat → Thing} {W : World} (h : Parts m n A B C vA vB vC rv_ T) (hp : ∀ i, (T i).P W) : PR W (.agg #[vA, vB, vC]) m n A B C := by
 have hb : Rats W 0 vB (raws m B) := by have := hp 0; rw [h.b] at this; exact this
 have hc : Rats W 0 vC (raws n C) := by have := hp 1; rw [h.c] at this; exact this
 have ha : Vals 27 W 0 vA ((List.range m).map rv_) := by have := hp 3; rw [h.a] at this; exact this
 obtain ⟨a, cap, e, _⟩ := ha.form
 simp only [List.length_map, List.length_range] at e
 subst e
 refine pr_of ha (by simp) (fun i hi => ?_) hb.slr hc.slr
 have hr : Rats W 0 (rv_ i) (raws n (A i)) := by have := hp (4 + i); rw [h.r i hi] at this; exact this
 have : ((List.range m).map rv_).getD i undef = rv_ i := by simp [List.getD_eq_getElem?_getD, hi]
 rw [this]
 exact hr.slr
theorem upd_o {T : Nat → Thing} {i j : Nat} {t u : Thing} (h : j ≠ i) (e : T j = u) : upd T i t j = u := (upd_ne h).trans e
section
variable {w0 : World} {g : Nat} {cells : List Value} {vA : Value} {q : Nat} {rv_ : Nat → Value} {R : Nat → List Raw} {vB : Value} {lB : List Raw} {vC : Value} {lC : List Raw} {vr : Value} {lr : List Raw} {lab : Nat → Nat} {W W' : World}
theorem LO.newcur (h : LO w0 g cells vA q rv_ R vB lB vC lC (.slice none 0 0) [] lab W) (t : TypeId) (ht : t = 33) : LO w0 g cells vA q rv_ R vB lB vC lC (.slice (some ⟨W.heap.size, 0, none⟩) 0 0) [] (upd lab W.heap.size 5) (W.alloc (.cells #[] t)) := by
 subst ht; have h' := h.alloc (.cells #[] 33); have hs := h.old.size
 exact { h' with
  cur := Rats.lit W hs [] (by simp)
  l1 := h.keepL h.l1 (by decide)
  l2 := fun k hk => h.keepL (h.l2 k hk) (by decide)
  l3 := fun k hk => h.keepL (h.l3 k hk) (by decide)
  l4 := fun k hk => h.keepL (h.l4 k hk) (by decide)
  l5 := fun k hk => by
   obtain rfl : W.heap.size = k := by simpa [Value.ownBlock] using hk
   exact upd_same _ _ _
  l6 := fun i hi k hk => h.keepL (h.l6 i hi k hk) (by omega)
  fr := fun k hk => by
   by_cases e : k = W.heap.size
   ·subst e; simp; exact hs
   ·rw [upd_ne e] at hk
    have := h'.fr k hk
    exact this }
theorem LO.of_lists {T : Nat → Thing} (h : Sep w0 W T) (t0 : T 0 = listT vB lB) (t1 : T 1 = listT vC lC) (t2 : T 2 = boxT g cells) : ∃ lab, LO w0 g cells (.slice none 0 0) 0 rv_ R vB lB vC lC (.slice none 0 0) [] lab W := by
  have rB : Rats W 0 vB lB := h.as 0 t0; have rC : Rats W 0 vC lC := h.as 1 t1; have rX : Rx W g cells := h.as 2 t2
  have oB : ∀ k, vB.ownBlock = some k → w0.heap.size ≤ k ∧ k < W.heap.size := fun k hk => h.o 0 k (by rw [t0]; exact hk)
  have oC : ∀ k, vC.ownBlock = some k → w0.heap.size ≤ k ∧ k < W.heap.size := fun k hk => h.o 1 k (by rw [t1]; exact hk)
  have oX : w0.heap.size ≤ g ∧ g < W.heap.size := h.o 2 g (by rw [t2]; rfl)
  have nBC : ∀ k, vB.ownBlock = some k → ¬ vC.ownBlock = some k := h.ne 0 1 (by decide) t0 t1
  have nBX : ∀ k, vB.ownBlock = some k → ¬ k = g := h.ne 0 2 (by decide) t0 t2
  have nCX : ∀ k, vC.ownBlock = some k → ¬ k = g := h.ne 1 2 (by decide) t1 t2
  have own : ∀ {v : Value} {l : List Raw}, Rats W 0 v l → (∀ k, v.ownBlock = some k → w0.heap.size ≤ k ∧ k < W.heap.size) → Rats W w0.heap.size v l := fun {v l} hr ho => by
    refine ⟨hr.1, ?_⟩
    rcases hr.2 with h1 | ⟨b, cap, cur, rfl, hb, hx⟩
    · exact .inl h1
    · exact .inr ⟨b, cap, cur, rfl, (ho b rfl).1, hx⟩
  refine ⟨fun k => if k = g then 1 else if vB.ownBlock = some k then 3 else if vC.ownBlock = some k then 4 else 0, ?_⟩
  exact {
    old := h.acc
    fix := rX
    A := Vals.nil _ _ _
    rows := fun i hi => by omega
    B := own rB oB
    C := own rC oC
    cur := Rats.nil _ _
    l1 := if_pos rfl
    l2 := fun k hk => by cases hk
    l3 := fun k hk => by
      show (if k = g then 1 else if vB.ownBlock = some k then 3 else if vC.ownBlock = some k then 4 else 0) = 3
      rw [if_neg (nBX k hk), if_pos hk]
    l4 := fun k hk => by
      show (if k = g then 1 else if vB.ownBlock = some k then 3 else if vC.ownBlock = some k then 4 else 0) = 4
      rw [if_neg (nCX k hk), if_neg (fun e => nBC k e hk), if_pos hk]
    l5 := fun k hk => by cases hk
    l6 := fun i hi => by omega
    fr := fun k hk => by
      by_cases e : k = g
      · subst e; exact oX
      · by_cases eB : vB.ownBlock = some k
        · exact oB k eB
        · by_cases eC : vC.ownBlock = some k
          · exact oC k eC
          · simp [e, eB, eC] at hk }
theorem LO.parts {m n : Nat} {A : Nat → Nat → Rat} {B C : Nat → Rat} (h : LO w0 g cells vA m rv_ (fun i => raws n (A i)) vB (raws m B) vC (raws n C) (.slice none 0 0) [] lab W) : ∃ T, Sep w0 W T ∧ Parts m n A B C vA vB vC rv_ T := by
 have z : ∀ {v : Value} {l : List Raw}, Rats W w0.heap.size v l → Rats W 0 v l := fun h => h.mono (Nat.zero_le _)
 refine ⟨fun i => if i = 0 then listT vB (raws m B) else if i = 1 then listT vC (raws n C) else if i = 3 then valsT vA ((List.range m).map rv_) else if 4 ≤ i ∧ i - 4 < m then listT (rv_ (i - 4)) (raws n (A (i - 4))) else nothing, ⟨h.old, fun i => ?_, fun i b hb => ?_, fun i j hne b h1 h2 => ?_⟩, rfl, rfl, rfl, fun i hi => ?_⟩
 ·show Thing.P (if i = 0 then _ else _) W
  split
  ·exact z h.B
  ·split
   ·exact z h.C
   ·split
    ·exact h.A.mono (Nat.zero_le _)
    ·split
     ·next hh => exact z (h.rows _ hh.2)
     ·trivial
 ·have key : ∀ {k c : Nat}, lab k = c → c ≠ 0 → w0.heap.size ≤ k ∧ k < W.heap.size := fun e hc => h.fr _ (by omega)
  have hb : Thing.O (if i = 0 then _ else _) b := hb
  split at hb
  ·exact key (h.l3 b hb) (by decide)
  ·split at hb
   ·exact key (h.l4 b hb) (by decide)
   ·split at hb
    ·exact key (h.l2 b hb) (by decide)
    ·split at hb
     ·next hh => exact key (h.l6 _ hh.2 b hb) (by omega)
     ·exact hb.elim
 ·have lb : ∀ x, Thing.O (if x = 0 then listT vB (raws m B) else if x = 1 then listT vC (raws n C) else if x = 3 then valsT vA ((List.range m).map rv_) else if 4 ≤ x ∧ x - 4 < m then listT (rv_ (x - 4)) (raws n (A (x - 4))) else nothing) b → (x = 0 ∧ lab b = 3) ∨ (x = 1 ∧ lab b = 4) ∨ (x = 3 ∧ lab b = 2) ∨ (4 ≤ x ∧ lab b = 2 + x) := by
   intro x hx
   split at hx
   ·next e => exact .inl ⟨e, h.l3 b hx⟩
   ·split at hx
    ·next e => exact .inr (.inl ⟨e, h.l4 b hx⟩)
    ·split at hx
     ·next e => exact .inr (.inr (.inl ⟨e, h.l2 b hx⟩))
     ·split at hx
      ·next hh => exact .inr (.inr (.inr ⟨hh.1, by have := h.l6 _ hh.2 b hx; omega⟩))
      ·exact hx.elim
  have a1 := lb i h1; have a2 := lb j h2
  omega
 ·show (if 4 + i = 0 then _ else _) = _
  rw [if_neg (by omega), if_neg (by omega), if_neg (by omega), if_pos ⟨by omega, by omega⟩, show 4 + i - 4 = i by omega]
end
theorem copy_any (p : Value) (m n : Nat) (A : Nat → Nat → Rat) (B C : Nat → Rat) (w : World) (h : PR w p m n A B C) (hm : m ≤ 1000) (hn : n ≤ 1000) :
  Calls Tryz.prog 27 #[p] w fun e w' => ∃ a0 c0 a1 c1 a2 c2 rv_ T, e = .returned (.agg #[.slice a0 m c0, .slice a1 m c1, .slice a2 n c2]) ∧ Sep w w' T ∧ Parts m n A B C (.slice a0 m c0) (.slice a1 m c1) (.slice a2 n c2) rv_ T := by
 obtain ⟨pa, pb, pc, rfl, hA, hB, hC⟩ := h.ex
 obtain ⟨aA, cA, rfl⟩ : ∃ a c, pa = .slice a m c := by obtain ⟨a, c, e, _⟩ := hA; exact ⟨a, c, e⟩
 obtain ⟨aB, cB, rfl⟩ : ∃ a c, pb = .slice a m c := by obtain ⟨a, c, e, _⟩ := hB; exact ⟨a, c, e⟩
 obtain ⟨aC, cC, rfl⟩ : ∃ a c, pc = .slice a n c := by obtain ⟨a, c, e, _⟩ := hC; exact ⟨a, c, e⟩
 have HRA := Lib.hid (fun i (hi : i < m) => hA.row hi); have HSB := Lib.hid (fun W (hb : Below w.heap.size w W) => hB.below hb); have HSC := Lib.hid (fun W (hb : Below w.heap.size w W) => hC.below hb); clear h hA hB hC
 go_enter Tryz.func27, Tryz.ntmps27
 have ⟨bP, bR, hacc⟩ := opn2 w [.slice aA m cA, .slice aB m cB, .slice aC n cC] [.slice none 0 0, .slice none 0 0, .slice none 0 0] 29 29
 go_upto_region 1 with fail
 generalize (w.alloc (.cells #[.slice aA m cA, .slice aB m cB, .slice aC n cC] 29)).alloc (.cells #[.slice none 0 0, .slice none 0 0, .slice none 0 0] 29) = W0 at *; generalize hgR : w.heap.size + 1 = gR at *; obtain ⟨gP, hgP⟩ : ∃ g, g = w.heap.size := ⟨_, rfl⟩; rw [← hgP] at bP
 simp only [← hgP]
 have ngPgR : gP ≠ gR := by omega
 have kgP : w.heap.size ≤ gP := by omega
 have kgR : w.heap.size ≤ gR := by omega
 clear hgP hgR; have HB0 := Lib.hid (fun W (hb : Below W0.heap.size W0 W) => hacc.trans (hb.mono hacc.size)); have HP := Lib.hid (fun W (hb : Below W0.heap.size W0 W) => bP.below hb); have HR := Lib.hid (fun W (hb : Below W0.heap.size W0 W) => bR.below hb); have hgR := bR.lt; have kgR' := kgR; clear hacc bP bR kgP ngPgR kgR
 have hap : Apart 0 3 4 7 9 10 5 8 9 12 3 := ⟨by decide, by decide⟩
 refine wp_region_inv (a := ?a0) (by kernel_rfl) (by kernel_rfl) (InvA ?a0 [5, 6, 7, 8, 9, 10, 11, 12, 13, 3] (fun L V W => ∃ T, J2 W0 (raws m B) (raws n C) [.slice none 0 0, .slice none 0 0, .slice none 0 0] (fun x y => [.slice none 0 0, x, y]) 0 3 4 7 9 10 5 8 9 12 3 L V T W ∧ (∀ i, 3 ≤ i → T i = nothing) ∧ (L 1 = true → V 6 = .pointer (some ⟨gP, 1, none⟩)) ∧ (L 2 = true → V 7 = .slice aB m cB) ∧ (L 5 = true → V 10 = .pointer (some ⟨gP, 2, none⟩)) ∧ (L 6 = true → V 11 = .slice aC n cC) ∧ (L 8 = true → L 3 = true ∧ L 7 = true ∧ V 13 = .agg #[.slice none 0 0, V 8, V 12]))) ?_ ?_ ?_
 ·exact InvA.start (fun V => ⟨_, J2.start (Below.refl _ _).drew, fun _ _ => rfl, fun h => (by cases h), fun h => (by cases h), fun h => (by cases h), fun h => (by cases h), fun h => (by cases h)⟩)
 ·rintro i o L a W K ho hL hdep ⟨V, rfl, T, hJ, hN, h1, h2, h5, h6, h8⟩ hK
  have hK := Lib.hid hK; have hi : i < 11 := (Array.getElem?_eq_some_iff.1 ho).1
  rcases (by omega : i = 0 ∨ i = 1 ∨ i = 2 ∨ i = 3 ∨ i = 4 ∨ i = 5 ∨ i = 6 ∨ i = 7 ∨ i = 8 ∨ i = 9 ∨ i = 10) with rfl | rfl | rfl | rfl | rfl | rfl | rfl | rfl | rfl | rfl | rfl
  ·simp only [List.getElem?_toArray, List.getElem?_cons_zero, Option.some.injEq] at ho
   subst ho; have hb := (Below.refl W.heap.size W).alloc (Nat.le_refl _) (.cells #[] 33)
   have hv : Rats (W.alloc (.cells #[] 33)) 0 (.slice (some ⟨W.heap.size, 0, none⟩) 0 0) [] := Rats.lit W (Nat.zero_le _) [] (by simp)
   clear hdep
   simp only [setAll, List.foldl_cons, List.foldl_nil, List.setIfInBounds_toArray, List.set_cons_zero, List.set_cons_succ]
   go_simp
   refine hK.out _ _ ⟨upd V 5 (.slice (some ⟨W.heap.size, 0, none⟩) 0 0), (by simp only [setAll, List.foldl_cons, List.foldl_nil, List.setIfInBounds_toArray, List.set_cons_zero, List.set_cons_succ]; rfl), _, hJ.build0 hap hL hb hv (fun b hb => ?_), fun j hj => (upd_ne (by omega)).trans (hN j hj), ?_, ?_, ?_, ?_, ?_⟩
   ·simp [Value.ownBlock] at hb; subst hb; simp
   all_goals first | exact h1 | exact h2 | exact h5 | exact h6 | exact h8
  ·simp only [List.getElem?_toArray, List.getElem?_cons_succ, List.getElem?_cons_zero, Option.some.injEq] at ho
   subst ho; clear hdep
   simp only [setAll, List.foldl_cons, List.foldl_nil, List.setIfInBounds_toArray, List.set_cons_zero, List.set_cons_succ]
   go_simp
   refine hK.out _ _ ⟨upd V 6 (.pointer (some ⟨gP, 1, none⟩)), (by simp only [setAll, List.foldl_cons, List.foldl_nil, List.setIfInBounds_toArray, List.set_cons_zero, List.set_cons_succ]; rfl), _, hJ.other (by decide) (by decide), hN, ?_, ?_, ?_, ?_, ?_⟩
   all_goals first | exact fun _ => rfl | exact h1 | exact h2 | exact h5 | exact h6 | exact h8
  ·simp only [List.getElem?_toArray, List.getElem?_cons_succ, List.getElem?_cons_zero, Option.some.injEq] at ho
   subst ho
   have d1 : L 1 = true := hdep ⟨1, .data⟩ (by simp) rfl
   have e := h1 d1; have cc := (HP.out _ hJ.sep.acc).at 1 rfl; clear hdep
   simp only [setAll, List.foldl_cons, List.foldl_nil, List.setIfInBounds_toArray, List.set_cons_zero, List.set_cons_succ]
   go_simp
   refine hK.out _ _ ⟨upd V 7 (.slice aB m cB), (by simp only [setAll, List.foldl_cons, List.foldl_nil, List.setIfInBounds_toArray, List.set_cons_zero, List.set_cons_succ]; first | rfl | (rw [← e]; rfl)), _, hJ.other (by decide) (by decide), hN, ?_, ?_, ?_, ?_, ?_⟩
   all_goals first | exact fun _ => rfl | exact h1 | exact h2 | exact h5 | exact h6 | exact h8
  ·simp only [List.getElem?_toArray, List.getElem?_cons_succ, List.getElem?_cons_zero, Option.some.injEq] at ho
   subst ho
   have d0 : L 0 = true := hdep ⟨0, .data⟩ (by simp) rfl
   have d2 : L 2 = true := hdep ⟨2, .data⟩ (by simp) rfl
   have ev := h2 d2; have hTT := hJ.f0 d0 hL; have hown : Rats W 0 (V 5) [] := hJ.sep.as 0 hTT; have hsr := HSB.out _ (HB0.out _ hJ.sep.acc); clear hdep
   simp only [setAll, List.foldl_cons, List.foldl_nil, List.setIfInBounds_toArray, List.set_cons_zero, List.set_cons_succ]
   refine step_slr (by rfl) (by rfl) (by rfl) (by first | rfl | exact ev) 0 hown hsr (by simp; omega) (Nat.zero_le _) ?_
   intro v' w' e1 e2 e3
   refine hK.out _ _ ⟨upd V 8 v', (by simp only [setAll, List.foldl_cons, List.foldl_nil, List.setIfInBounds_toArray, List.set_cons_zero, List.set_cons_succ]; first | rfl | (simp only [Act.put]; simp only [setAll, List.foldl_cons, List.foldl_nil, List.setIfInBounds_toArray, List.set_cons_zero, List.set_cons_succ])), _, hJ.app0 hap d0 hL ((off_grown e2).mono (fun _ _ e => e)) e1 (own_app e1 e3), fun j hj => (upd_ne (by omega)).trans (hN j hj), ?_, ?_, ?_, ?_, ?_⟩
   all_goals first | exact h1 | exact h2 | exact h5 | exact h6 | exact fun h => (by have hh := h8 h; first | (rw [hL] at hh; cases hh.1) | (rw [hL] at hh; cases hh.2.1))
  ·simp only [List.getElem?_toArray, List.getElem?_cons_succ, List.getElem?_cons_zero, Option.some.injEq] at ho
   subst ho; have hb := (Below.refl W.heap.size W).alloc (Nat.le_refl _) (.cells #[] 33)
   have hv : Rats (W.alloc (.cells #[] 33)) 0 (.slice (some ⟨W.heap.size, 0, none⟩) 0 0) [] := Rats.lit W (Nat.zero_le _) [] (by simp)
   clear hdep
   simp only [setAll, List.foldl_cons, List.foldl_nil, List.setIfInBounds_toArray, List.set_cons_zero, List.set_cons_succ]
   go_simp
   refine hK.out _ _ ⟨upd V 9 (.slice (some ⟨W.heap.size, 0, none⟩) 0 0), (by simp only [setAll, List.foldl_cons, List.foldl_nil, List.setIfInBounds_toArray, List.set_cons_zero, List.set_cons_succ]; rfl), _, hJ.build1 hap hL hb hv (fun b hb => ?_), fun j hj => (upd_ne (by omega)).trans (hN j hj), ?_, ?_, ?_, ?_, ?_⟩
   ·simp [Value.ownBlock] at hb; subst hb; simp
   all_goals first | exact h1 | exact h2 | exact h5 | exact h6 | exact h8
  ·simp only [List.getElem?_toArray, List.getElem?_cons_succ, List.getElem?_cons_zero, Option.some.injEq] at ho
   subst ho; clear hdep
   simp only [setAll, List.foldl_cons, List.foldl_nil, List.setIfInBounds_toArray, List.set_cons_zero, List.set_cons_succ]
   go_simp
   refine hK.out _ _ ⟨upd V 10 (.pointer (some ⟨gP, 2, none⟩)), (by simp only [setAll, List.foldl_cons, List.foldl_nil, List.setIfInBounds_toArray, List.set_cons_zero, List.set_cons_succ]; rfl), _, hJ.other (by decide) (by decide), hN, ?_, ?_, ?_, ?_, ?_⟩
   all_goals first | exact fun _ => rfl | exact h1 | exact h2 | exact h5 | exact h6 | exact h8
  ·simp only [List.getElem?_toArray, List.getElem?_cons_succ, List.getElem?_cons_zero, Option.some.injEq] at ho
   subst ho
   have d5 : L 5 = true := hdep ⟨5, .data⟩ (by simp) rfl
   have e := h5 d5; have cc := (HP.out _ hJ.sep.acc).at 2 rfl; clear hdep
   simp only [setAll, List.foldl_cons, List.foldl_nil, List.setIfInBounds_toArray, List.set_cons_zero, List.set_cons_succ]
   go_simp
   refine hK.out _ _ ⟨upd V 11 (.slice aC n cC), (by simp only [setAll, List.foldl_cons, List.foldl_nil, List.setIfInBounds_toArray, List.set_cons_zero, List.set_cons_succ]; first | rfl | (rw [← e]; rfl)), _, hJ.other (by decide) (by decide), hN, ?_, ?_, ?_, ?_, ?_⟩
   all_goals first | exact fun _ => rfl | exact h1 | exact h2 | exact h5 | exact h6 | exact h8
  ·simp only [List.getElem?_toArray, List.getElem?_cons_succ, List.getElem?_cons_zero, Option.some.injEq] at ho
   subst ho
   have d4 : L 4 = true := hdep ⟨4, .data⟩ (by simp) rfl
   have d6 : L 6 = true := hdep ⟨6, .data⟩ (by simp) rfl
   have ev := h6 d6; have hTT := hJ.f1 d4 hL; have hown : Rats W 0 (V 9) [] := hJ.sep.as 1 hTT; have hsr := HSC.out _ (HB0.out _ hJ.sep.acc); clear hdep
   simp only [setAll, List.foldl_cons, List.foldl_nil, List.setIfInBounds_toArray, List.set_cons_zero, List.set_cons_succ]
   refine step_slr (by rfl) (by rfl) (by rfl) (by first | rfl | exact ev) 0 hown hsr (by simp; omega) (Nat.zero_le _) ?_
   intro v' w' e1 e2 e3
   refine hK.out _ _ ⟨upd V 12 v', (by simp only [setAll, List.foldl_cons, List.foldl_nil, List.setIfInBounds_toArray, List.set_cons_zero, List.set_cons_succ]; first | rfl | (simp only [Act.put]; simp only [setAll, List.foldl_cons, List.foldl_nil, List.setIfInBounds_toArray, List.set_cons_zero, List.set_cons_succ])), _, hJ.app1 hap d4 hL ((off_grown e2).mono (fun _ _ e => e)) e1 (own_app e1 e3), fun j hj => (upd_ne (by omega)).trans (hN j hj), ?_, ?_, ?_, ?_, ?_⟩
   all_goals first | exact h1 | exact h2 | exact h5 | exact h6 | exact fun h => (by have hh := h8 h; first | (rw [hL] at hh; cases hh.1) | (rw [hL] at hh; cases hh.2.1))
  ·simp only [List.getElem?_toArray, List.getElem?_cons_succ, List.getElem?_cons_zero, Option.some.injEq] at ho
   subst ho
   have d3 : L 3 = true := hdep ⟨3, .data⟩ (by simp) rfl
   have d7 : L 7 = true := hdep ⟨7, .data⟩ (by simp) rfl
   have r8 : Rats W 0 (V 8) (raws m B) := hJ.sep.as 0 (hJ.g0 d3).2; have r12 : Rats W 0 (V 12) (raws n C) := hJ.sep.as 1 (hJ.g1 d7).2; obtain ⟨a8, c8, e8⟩ := r8.form; obtain ⟨a12, c12, e12⟩ := r12.form; clear hdep r8 r12
   simp only [setAll, List.foldl_cons, List.foldl_nil, List.setIfInBounds_toArray, List.set_cons_zero, List.set_cons_succ]
   go_simp
   refine hK.out _ _ ⟨upd V 13 (.agg #[.slice none 0 0, .slice a8 (raws m B).length c8, .slice a12 (raws n C).length c12]), (by simp only [setAll, List.foldl_cons, List.foldl_nil, List.setIfInBounds_toArray, List.set_cons_zero, List.set_cons_succ]; first | rfl | (rw [← e8, ← e12]; rfl)), _, hJ.other (by decide) (by decide), hN, h1, h2, h5, h6, fun _ => ⟨d3, d7, by rw [← e8, ← e12]; rfl⟩⟩
  ·simp only [List.getElem?_toArray, List.getElem?_cons_succ, List.getElem?_cons_zero, Option.some.injEq] at ho
   subst ho; have hb := (Below.refl W.heap.size W).alloc (Nat.le_refl _) (.cells #[.slice none 0 0, .slice none 0 0, .slice none 0 0] 29); have hr : Rx (W.alloc (.cells #[.slice none 0 0, .slice none 0 0, .slice none 0 0] 29)) W.heap.size [.slice none 0 0, .slice none 0 0, .slice none 0 0] := Rx.new W _ rfl [.slice none 0 0, .slice none 0 0, .slice none 0 0] 29; clear hdep
   simp only [setAll, List.foldl_cons, List.foldl_nil, List.setIfInBounds_toArray, List.set_cons_zero, List.set_cons_succ]
   go_simp
   refine hK.out _ _ ⟨upd V 3 (.pointer (some ⟨W.heap.size, 0, none⟩)), (by simp only [setAll, List.foldl_cons, List.foldl_nil, List.setIfInBounds_toArray, List.set_cons_zero, List.set_cons_succ]; rfl), _, hJ.alloc hap hL hb rfl hr, fun j hj => (upd_ne (by omega)).trans (hN j hj), ?_, ?_, ?_, ?_, ?_⟩
   all_goals first | exact h1 | exact h2 | exact h5 | exact h6 | exact h8
  ·simp only [List.getElem?_toArray, List.getElem?_cons_succ, List.getElem?_cons_zero, Option.some.injEq] at ho
   subst ho
   have d8 : L 8 = true := hdep ⟨8, .data⟩ (by simp) rfl
   have d9 : L 9 = true := hdep ⟨9, .data⟩ (by simp) rfl
   have HH := Lib.hid (h8 d8); have HJ := Lib.hid hJ; have HN := Lib.hid hN; have H8 := Lib.hid h8; clear hdep hJ hN h8
   simp only [setAll, List.foldl_cons, List.foldl_nil, List.setIfInBounds_toArray, List.set_cons_zero, List.set_cons_succ]
   have d3 := HH.out.1; have d7 := HH.out.2.1; have e13 := HH.out.2.2; have r8 : Rats W 0 (V 8) (raws m B) := HJ.out.sep.as 0 (HJ.out.g0 d3).2; have r12 : Rats W 0 (V 12) (raws n C) := HJ.out.sep.as 1 (HJ.out.g1 d7).2; obtain ⟨a8, c8, e8⟩ := r8.form; obtain ⟨a12, c12, e12⟩ := r12.form; rw [e8, e12] at e13; obtain ⟨g, eg, hz, _⟩ := HJ.out.fa d9; have hr : Rx W g [.slice none 0 0, .slice none 0 0, .slice none 0 0] := HJ.out.sep.as 2 (hz hL)
   have c0 := hr.at 0 rfl; have c1 := hr.at 1 rfl; have c2 := hr.at 2 rfl; have f0 := hr.fr 0 rfl; have f1 := hr.fr 1 rfl; have f2 := hr.fr 2 rfl; have E8 := Lib.hid e8; have E12 := Lib.hid e12; clear r8 r12 e8 e12
   go_simp
   refine hK.out _ _ ⟨V, (by simp only [setAll, List.foldl_cons, List.foldl_nil, List.setIfInBounds_toArray, List.set_cons_zero, List.set_cons_succ]; rw [eg, e13]), _, HJ.out.store hap d3 d7 d9 eg hL ((((Off.refl (fun k => k = g) W).set (p := ⟨g, 0, none⟩) rfl (.slice none 0 0)).set (p := ⟨g, 1, none⟩) rfl _).set (p := ⟨g, 2, none⟩) rfl _) (by rw [E8.out, E12.out]; exact hr.put3 _ _ _), fun j hj => (upd_ne (by omega)).trans (HN.out j hj), h1, h2, h5, h6, H8.out⟩
 ·rintro L a W hall ⟨V, rfl, T, hJ, hN, _⟩
  have t0 := (hJ.g0 (hall 3 (by decide))).2
  have t1 := (hJ.g1 (hall 7 (by decide))).2
  obtain ⟨gO, e3, _, hz⟩ := hJ.fa (hall 9 (by decide))
  have t2 := hz (hall 10 (by decide))
  have hS := hJ.sep; have r8 : Rats W 0 (V 8) (raws m B) := hS.as 0 t0; have r12 : Rats W 0 (V 12) (raws n C) := hS.as 1 t1; obtain ⟨a8, c8, e8⟩ := r8.form; obtain ⟨a12, c12, e12⟩ := r12.form; rw [raws_len] at e8 e12; clear hJ hz hall r8 r12
  simp only [setAll, List.foldl_cons, List.foldl_nil, List.setIfInBounds_toArray, List.set_cons_zero, List.set_cons_succ]
  rw [e8] at t0 t2; rw [e12] at t1 t2; rw [e3, e8, e12]; clear e3 e8 e12 hap; clear hN; obtain ⟨lab, hL⟩ := LO.of_lists (rv_ := fun _ => .slice none 0 0) (R := fun x => raws n (A x)) hS t0 t1 t2; clear hS t0 t1 t2
  go_upto_region 3 with fail
  go_loopw [4] (fun s4 wr => ∃ i : Nat, i ≤ m ∧ s4 = .int .i64 (i : Int) ∧ ∃ vA rv_ lab, LO W0 gO [vA, .slice a8 m c8, .slice a12 n c12] vA (i) rv_ (fun x => raws n (A x)) (.slice a8 m c8) (raws m B) (.slice a12 n c12) (raws n C) (.slice none 0 0) ([]) lab wr) (fun s4 _ => m - (intOf s4).toNat)
  case atStart => exact ⟨0, by omega, rfl, _, _, _, hL⟩
  case round =>
   clear hL; obtain ⟨i, hi, rfl, vA, rv_, lab, hL⟩ := hrel
   by_cases hlt : i < m
   ·have hi0 : (0 : Int) ≤ (i : Int) := by omega
    have hi1 : (i : Int) < (m : Int) := by omega
    obtain ⟨b, a3, c3, rfl, hg⟩ := HRA.out i hlt; have HG := Lib.hid hg; clear hg; have p0 := (HP.out _ hL.old).at 0 rfl
    go_upto_region 5 with fail
    clear p0; have hacc := Below.refl wr.heap.size wr; replace hacc := hacc.drew; replace hL := hL.drew
    refine wp_schH (S := (fun w' => w'.cell? ⟨gP, 0, none⟩ = some (.slice (some ⟨b, 0, none⟩) m cA) ∧ w'.cell? ⟨b, i, none⟩ = some (.slice a3 n c3))) (.p 0 (ps 3 5 (.b (.c 1 (.c 2 (.c 8 (.c 9 (.c 10 (.p 11 (.c 12 .e))))))) (.c 2 (.b (.c 1 (.c 8 (.c 9 (.c 10 (.p 11 (.c 12 .e)))))) (.c 8 (.b (.c 1 (.c 9 (.c 10 (.p 11 (.c 12 .e))))) (.c 9 (.c 1 (.c 10 (.p 11 (.c 12 .e)))))))))))) [3, 1, 4] fun A WD hA hWD => ?_
    simp only [← hWD.out] at hacc hL
    clear hWD
    refine ⟨?_, fun hHeld => ?_⟩
    ·try dsimp only
     with_reducible exact ⟨(HP.out _ hL.old).at 0 rfl, (HG.out _ (HB0.out _ hL.old)).1⟩
    repeat (refine isP ?_; refine tkO ?_)
    refine ⟨?_, ?_⟩
    ·refine acO fun aa KK hF hK => ?_
     dsimp only [Fa] at hF
     have cc := hL.fix.at 0 rfl
     go_simp
     clear cc
     (first | refine hK.out _ _ ?_ (fun hHeld => ?_) | (go_wp2_with fail; refine hK.out _ _ ?_ (fun hHeld => ?_)))
     ·try dsimp only
      with_reducible exact ⟨(HP.out _ hL.old).at 0 rfl, (HG.out _ (HB0.out _ hL.old)).1⟩
     clear hK KK hF aa
     refine acO fun aa KK hF hK => ?_
     dsimp only [Fa] at hF
     replace hL := hL.newcur 33 rfl
     go_simp
     generalize upd lab WD.heap.size 5 = lab at *; generalize WD.heap.size = gN at *; generalize WD.alloc (.cells #[] 33) = WN at *
     (first | refine hK.out _ _ ?_ (fun hHeld => ?_) | (go_wp2_with fail; refine hK.out _ _ ?_ (fun hHeld => ?_)))
     ·try dsimp only
      with_reducible exact ⟨(HP.out _ hL.old).at 0 rfl, (HG.out _ (HB0.out _ hL.old)).1⟩
     clear hK KK hF aa
     refine acO fun aa KK hF hK => ?_
     dsimp only [Fa] at hF
     have hsr := (HG.out _ (HB0.out _ hL.old)).2
     refine ifw (by rfl) (step_slr (ops := #[]) (ts := #[]) (E := True) (by rfl) (by rfl) (by apply evF; first | exact hF.1 | exact hF.2.1 | exact hF.2.2.1) (by apply evF; first | exact hF.1 | exact hF.2.1 | exact hF.2.2.1) W0.heap.size hL.cur hsr (by simp; omega) hL.old.size ?_)
     intro v2 w4 e1 e2 e3
     rw [List.nil_append] at e1; obtain ⟨aN, cN, eN⟩ := e1.form; rw [raws_len] at eN; subst eN; replace hL := hL.appR e2 e1 e3; clear hsr e1 e2 e3
     (first | refine hK.out _ _ ?_ (fun hHeld => ?_) | (go_wp2_with fail; refine hK.out _ _ ?_ (fun hHeld => ?_)))
     ·try dsimp only
      with_reducible exact ⟨(HP.out _ hL.old).at 0 rfl, (HG.out _ (HB0.out _ hL.old)).1⟩
     clear hK KK hF aa
     refine acO fun aa KK hF hK => ?_
     dsimp only [Fa] at hF
     have hS := Vals.lit (B := 0) w4 (Nat.zero_le _) 27 [.slice aN n cN] (by simp)
     replace hL := hL.alloc (.cells #[.slice aN n cN] 27)
     go_simp
     have hS : Vals 27 (w4.alloc (.cells #[.slice aN n cN] 27)) 0 (.slice (some ⟨w4.heap.size, 0, none⟩) 1 1) [.slice aN n cN] := hS; generalize w4.heap.size = gM at *; generalize w4.alloc (.cells #[.slice aN n cN] 27) = WM at *
     (first | refine hK.out _ _ ?_ (fun hHeld => ?_) | (go_wp2_with fail; refine hK.out _ _ ?_ (fun hHeld => ?_)))
     ·try dsimp only
      with_reducible exact ⟨(HP.out _ hL.old).at 0 rfl, (HG.out _ (HB0.out _ hL.old)).1⟩
     clear hK KK hF aa
     refine acO fun aa KK hF hK => ?_
     dsimp only [Fa] at hF
     refine ifw (by rfl) (step_vals (ops := #[]) (E := True) Tryz.underlying26 info_rats rfl (by decide) (by rfl) (by rfl) (by apply evF; first | exact hF.1 | exact hF.2.1 | exact hF.2.2.1) (by apply evF; first | exact hF.1 | exact hF.2.1 | exact hF.2.2.1) W0.heap.size hL.A hS (fun u hu => by simp at hu; subst hu; rfl) (by simp; omega) hL.old.size ?_)
     intro vA2 w2 e1 e2 e3
     obtain ⟨aM, cM, rfl⟩ : ∃ a c, vA2 = .slice a (i + 1) c := (by obtain ⟨a, c, e, _⟩ := e1.form; simp only [List.length_append, List.length_map, List.length_range, List.length_cons, List.length_nil, Nat.zero_add] at e; exact ⟨a, c, e⟩)
     obtain ⟨lab2, hL2⟩ := hL.pushA e2 e1 e3; have hL := hL2; clear hL2 hS e1 e2 e3
     (first | refine hK.out _ _ ?_ (fun hHeld => ?_) | (go_wp2_with fail; refine hK.out _ _ ?_ (fun hHeld => ?_)))
     ·try dsimp only
      with_reducible exact ⟨(HP.out _ hL.old).at 0 rfl, (HG.out _ (HB0.out _ hL.old)).1⟩
     clear hK KK hF aa
     repeat (refine isP ?_; refine tkO ?_)
     refine acO fun aa KK hF hK => ?_
     dsimp only [Fa] at hF
     have cc := hL.fix.at 0 rfl; have ff := hL.fix.fr 0 rfl
     go_simp
     clear cc ff
     replace hL := hL.cell 0 (.slice aM (i + 1) cM) (by simp)
     simp only [List.set] at hL
     generalize w2.setCell ⟨gO, 0, none⟩ (.slice aM (i + 1) cM) = WS at *
     (first | refine hK.out undef _ ?_ (fun hHeld => ?_) | (go_wp2_with fail; refine hK.out undef _ ?_ (fun hHeld => ?_)))
     ·try dsimp only
      with_reducible exact ⟨(HP.out _ hL.old).at 0 rfl, (HG.out _ (HB0.out _ hL.old)).1⟩
     clear hK KK hF aa
     refine enO hA ?_
     clear hA; clear hacc
     go_wp2_with fail
     go_roundw
     case rel => exact ⟨i + 1, by omega, by go_num, _, _, _, hL.setRows (fun _ _ => rfl) (fun x hx => by
      by_cases e : x = i
      ·subst e; rw [upd_same]
      ·rw [upd_ne e])⟩
     case measure => simp [intOf]; omega
    refine acO fun aa KK hF hK => ?_
    dsimp only [Fa] at hF
    replace hL := hL.newcur 33 rfl
    go_simp
    generalize upd lab WD.heap.size 5 = lab at *; generalize WD.heap.size = gN at *; generalize WD.alloc (.cells #[] 33) = WN at *
    (first | refine hK.out _ _ ?_ (fun hHeld => ?_) | (go_wp2_with fail; refine hK.out _ _ ?_ (fun hHeld => ?_)))
    ·try dsimp only
     with_reducible exact ⟨(HP.out _ hL.old).at 0 rfl, (HG.out _ (HB0.out _ hL.old)).1⟩
    clear hK KK hF aa
    refine ⟨?_, ?_⟩
    ·refine acO fun aa KK hF hK => ?_
     dsimp only [Fa] at hF
     have cc := hL.fix.at 0 rfl
     go_simp
     clear cc
     (first | refine hK.out _ _ ?_ (fun hHeld => ?_) | (go_wp2_with fail; refine hK.out _ _ ?_ (fun hHeld => ?_)))
     ·try dsimp only
      with_reducible exact ⟨(HP.out _ hL.old).at 0 rfl, (HG.out _ (HB0.out _ hL.old)).1⟩
     clear hK KK hF aa
     refine acO fun aa KK hF hK => ?_
     dsimp only [Fa] at hF
     have hsr := (HG.out _ (HB0.out _ hL.old)).2
     refine ifw (by rfl) (step_slr (ops := #[]) (ts := #[]) (E := True) (by rfl) (by rfl) (by apply evF; first | exact hF.1 | exact hF.2.1 | exact hF.2.2.1) (by apply evF; first | exact hF.1 | exact hF.2.1 | exact hF.2.2.1) W0.heap.size hL.cur hsr (by simp; omega) hL.old.size ?_)
     intro v2 w4 e1 e2 e3
     rw [List.nil_append] at e1; obtain ⟨aN, cN, eN⟩ := e1.form; rw [raws_len] at eN; subst eN; replace hL := hL.appR e2 e1 e3; clear hsr e1 e2 e3
     (first | refine hK.out _ _ ?_ (fun hHeld => ?_) | (go_wp2_with fail; refine hK.out _ _ ?_ (fun hHeld => ?_)))
     ·try dsimp only
      with_reducible exact ⟨(HP.out _ hL.old).at 0 rfl, (HG.out _ (HB0.out _ hL.old)).1⟩
     clear hK KK hF aa
     refine acO fun aa KK hF hK => ?_
     dsimp only [Fa] at hF
     have hS := Vals.lit (B := 0) w4 (Nat.zero_le _) 27 [.slice aN n cN] (by simp)
     replace hL := hL.alloc (.cells #[.slice aN n cN] 27)
     go_simp
     have hS : Vals 27 (w4.alloc (.cells #[.slice aN n cN] 27)) 0 (.slice (some ⟨w4.heap.size, 0, none⟩) 1 1) [.slice aN n cN] := hS; generalize w4.heap.size = gM at *; generalize w4.alloc (.cells #[.slice aN n cN] 27) = WM at *
     (first | refine hK.out _ _ ?_ (fun hHeld => ?_) | (go_wp2_with fail; refine hK.out _ _ ?_ (fun hHeld => ?_)))
     ·try dsimp only
      with_reducible exact ⟨(HP.out _ hL.old).at 0 rfl, (HG.out _ (HB0.out _ hL.old)).1⟩
     clear hK KK hF aa
     refine acO fun aa KK hF hK => ?_
     dsimp only [Fa] at hF
     refine ifw (by rfl) (step_vals (ops := #[]) (E := True) Tryz.underlying26 info_rats rfl (by decide) (by rfl) (by rfl) (by apply evF; first | exact hF.1 | exact hF.2.1 | exact hF.2.2.1) (by apply evF; first | exact hF.1 | exact hF.2.1 | exact hF.2.2.1) W0.heap.size hL.A hS (fun u hu => by simp at hu; subst hu; rfl) (by simp; omega) hL.old.size ?_)
     intro vA2 w2 e1 e2 e3
     obtain ⟨aM, cM, rfl⟩ : ∃ a c, vA2 = .slice a (i + 1) c := (by obtain ⟨a, c, e, _⟩ := e1.form; simp only [List.length_append, List.length_map, List.length_range, List.length_cons, List.length_nil, Nat.zero_add] at e; exact ⟨a, c, e⟩)
     obtain ⟨lab2, hL2⟩ := hL.pushA e2 e1 e3; have hL := hL2; clear hL2 hS e1 e2 e3
     (first | refine hK.out _ _ ?_ (fun hHeld => ?_) | (go_wp2_with fail; refine hK.out _ _ ?_ (fun hHeld => ?_)))
     ·try dsimp only
      with_reducible exact ⟨(HP.out _ hL.old).at 0 rfl, (HG.out _ (HB0.out _ hL.old)).1⟩
     clear hK KK hF aa
     repeat (refine isP ?_; refine tkO ?_)
     refine acO fun aa KK hF hK => ?_
     dsimp only [Fa] at hF
     have cc := hL.fix.at 0 rfl; have ff := hL.fix.fr 0 rfl
     go_simp
     clear cc ff
     replace hL := hL.cell 0 (.slice aM (i + 1) cM) (by simp)
     simp only [List.set] at hL
     generalize w2.setCell ⟨gO, 0, none⟩ (.slice aM (i + 1) cM) = WS at *
     (first | refine hK.out undef _ ?_ (fun hHeld => ?_) | (go_wp2_with fail; refine hK.out undef _ ?_ (fun hHeld => ?_)))
     ·try dsimp only
      with_reducible exact ⟨(HP.out _ hL.old).at 0 rfl, (HG.out _ (HB0.out _ hL.old)).1⟩
     clear hK KK hF aa
     refine enO hA ?_
     clear hA; clear hacc
     go_wp2_with fail
     go_roundw
     case rel => exact ⟨i + 1, by omega, by go_num, _, _, _, hL.setRows (fun _ _ => rfl) (fun x hx => by
      by_cases e : x = i
      ·subst e; rw [upd_same]
      ·rw [upd_ne e])⟩
     case measure => simp [intOf]; omega
    refine acO fun aa KK hF hK => ?_
    dsimp only [Fa] at hF
    have hsr := (HG.out _ (HB0.out _ hL.old)).2
    refine ifw (by rfl) (step_slr (ops := #[]) (ts := #[]) (E := True) (by rfl) (by rfl) (by apply evF; first | exact hF.1 | exact hF.2.1 | exact hF.2.2.1) (by apply evF; first | exact hF.1 | exact hF.2.1 | exact hF.2.2.1) W0.heap.size hL.cur hsr (by simp; omega) hL.old.size ?_)
    intro v2 w4 e1 e2 e3
    rw [List.nil_append] at e1; obtain ⟨aN, cN, eN⟩ := e1.form; rw [raws_len] at eN; subst eN; replace hL := hL.appR e2 e1 e3; clear hsr e1 e2 e3
    (first | refine hK.out _ _ ?_ (fun hHeld => ?_) | (go_wp2_with fail; refine hK.out _ _ ?_ (fun hHeld => ?_)))
    ·try dsimp only
     with_reducible exact ⟨(HP.out _ hL.old).at 0 rfl, (HG.out _ (HB0.out _ hL.old)).1⟩
    clear hK KK hF aa
    refine ⟨?_, ?_⟩
    ·refine acO fun aa KK hF hK => ?_
     dsimp only [Fa] at hF
     have cc := hL.fix.at 0 rfl
     go_simp
     clear cc
     (first | refine hK.out _ _ ?_ (fun hHeld => ?_) | (go_wp2_with fail; refine hK.out _ _ ?_ (fun hHeld => ?_)))
     ·try dsimp only
      with_reducible exact ⟨(HP.out _ hL.old).at 0 rfl, (HG.out _ (HB0.out _ hL.old)).1⟩
     clear hK KK hF aa
     refine acO fun aa KK hF hK => ?_
     dsimp only [Fa] at hF
     have hS := Vals.lit (B := 0) w4 (Nat.zero_le _) 27 [.slice aN n cN] (by simp)
     replace hL := hL.alloc (.cells #[.slice aN n cN] 27)
     go_simp
     have hS : Vals 27 (w4.alloc (.cells #[.slice aN n cN] 27)) 0 (.slice (some ⟨w4.heap.size, 0, none⟩) 1 1) [.slice aN n cN] := hS; generalize w4.heap.size = gM at *; generalize w4.alloc (.cells #[.slice aN n cN] 27) = WM at *
     (first | refine hK.out _ _ ?_ (fun hHeld => ?_) | (go_wp2_with fail; refine hK.out _ _ ?_ (fun hHeld => ?_)))
     ·try dsimp only
      with_reducible exact ⟨(HP.out _ hL.old).at 0 rfl, (HG.out _ (HB0.out _ hL.old)).1⟩
     clear hK KK hF aa
     refine acO fun aa KK hF hK => ?_
     dsimp only [Fa] at hF
     refine ifw (by rfl) (step_vals (ops := #[]) (E := True) Tryz.underlying26 info_rats rfl (by decide) (by rfl) (by rfl) (by apply evF; first | exact hF.1 | exact hF.2.1 | exact hF.2.2.1) (by apply evF; first | exact hF.1 | exact hF.2.1 | exact hF.2.2.1) W0.heap.size hL.A hS (fun u hu => by simp at hu; subst hu; rfl) (by simp; omega) hL.old.size ?_)
     intro vA2 w2 e1 e2 e3
     obtain ⟨aM, cM, rfl⟩ : ∃ a c, vA2 = .slice a (i + 1) c := (by obtain ⟨a, c, e, _⟩ := e1.form; simp only [List.length_append, List.length_map, List.length_range, List.length_cons, List.length_nil, Nat.zero_add] at e; exact ⟨a, c, e⟩)
     obtain ⟨lab2, hL2⟩ := hL.pushA e2 e1 e3; have hL := hL2; clear hL2 hS e1 e2 e3
     (first | refine hK.out _ _ ?_ (fun hHeld => ?_) | (go_wp2_with fail; refine hK.out _ _ ?_ (fun hHeld => ?_)))
     ·try dsimp only
      with_reducible exact ⟨(HP.out _ hL.old).at 0 rfl, (HG.out _ (HB0.out _ hL.old)).1⟩
     clear hK KK hF aa
     repeat (refine isP ?_; refine tkO ?_)
     refine acO fun aa KK hF hK => ?_
     dsimp only [Fa] at hF
     have cc := hL.fix.at 0 rfl; have ff := hL.fix.fr 0 rfl
     go_simp
     clear cc ff
     replace hL := hL.cell 0 (.slice aM (i + 1) cM) (by simp)
     simp only [List.set] at hL
     generalize w2.setCell ⟨gO, 0, none⟩ (.slice aM (i + 1) cM) = WS at *
     (first | refine hK.out undef _ ?_ (fun hHeld => ?_) | (go_wp2_with fail; refine hK.out undef _ ?_ (fun hHeld => ?_)))
     ·try dsimp only
      with_reducible exact ⟨(HP.out _ hL.old).at 0 rfl, (HG.out _ (HB0.out _ hL.old)).1⟩
     clear hK KK hF aa
     refine enO hA ?_
     clear hA; clear hacc
     go_wp2_with fail
     go_roundw
     case rel => exact ⟨i + 1, by omega, by go_num, _, _, _, hL.setRows (fun _ _ => rfl) (fun x hx => by
      by_cases e : x = i
      ·subst e; rw [upd_same]
      ·rw [upd_ne e])⟩
     case measure => simp [intOf]; omega
    refine acO fun aa KK hF hK => ?_
    dsimp only [Fa] at hF
    have hS := Vals.lit (B := 0) w4 (Nat.zero_le _) 27 [.slice aN n cN] (by simp)
    replace hL := hL.alloc (.cells #[.slice aN n cN] 27)
    go_simp
    have hS : Vals 27 (w4.alloc (.cells #[.slice aN n cN] 27)) 0 (.slice (some ⟨w4.heap.size, 0, none⟩) 1 1) [.slice aN n cN] := hS; generalize w4.heap.size = gM at *; generalize w4.alloc (.cells #[.slice aN n cN] 27) = WM at *
    (first | refine hK.out _ _ ?_ (fun hHeld => ?_) | (go_wp2_with fail; refine hK.out _ _ ?_ (fun hHeld => ?_)))
    ·try dsimp only
     with_reducible exact ⟨(HP.out _ hL.old).at 0 rfl, (HG.out _ (HB0.out _ hL.old)).1⟩
    clear hK KK hF aa
    refine acO fun aa KK hF hK => ?_
    dsimp only [Fa] at hF
    have cc := hL.fix.at 0 rfl
    go_simp
    clear cc
    (first | refine hK.out _ _ ?_ (fun hHeld => ?_) | (go_wp2_with fail; refine hK.out _ _ ?_ (fun hHeld => ?_)))
    ·try dsimp only
     with_reducible exact ⟨(HP.out _ hL.old).at 0 rfl, (HG.out _ (HB0.out _ hL.old)).1⟩
    clear hK KK hF aa
    refine acO fun aa KK hF hK => ?_
    dsimp only [Fa] at hF
    refine ifw (by rfl) (step_vals (ops := #[]) (E := True) Tryz.underlying26 info_rats rfl (by decide) (by rfl) (by rfl) (by apply evF; first | exact hF.1 | exact hF.2.1 | exact hF.2.2.1) (by apply evF; first | exact hF.1 | exact hF.2.1 | exact hF.2.2.1) W0.heap.size hL.A hS (fun u hu => by simp at hu; subst hu; rfl) (by simp; omega) hL.old.size ?_)
    intro vA2 w2 e1 e2 e3
    obtain ⟨aM, cM, rfl⟩ : ∃ a c, vA2 = .slice a (i + 1) c := (by obtain ⟨a, c, e, _⟩ := e1.form; simp only [List.length_append, List.length_map, List.length_range, List.length_cons, List.length_nil, Nat.zero_add] at e; exact ⟨a, c, e⟩)
    obtain ⟨lab2, hL2⟩ := hL.pushA e2 e1 e3; have hL := hL2; clear hL2 hS e1 e2 e3
    (first | refine hK.out _ _ ?_ (fun hHeld => ?_) | (go_wp2_with fail; refine hK.out _ _ ?_ (fun hHeld => ?_)))
    ·try dsimp only
     with_reducible exact ⟨(HP.out _ hL.old).at 0 rfl, (HG.out _ (HB0.out _ hL.old)).1⟩
    clear hK KK hF aa
    repeat (refine isP ?_; refine tkO ?_)
    refine acO fun aa KK hF hK => ?_
    dsimp only [Fa] at hF
    have cc := hL.fix.at 0 rfl; have ff := hL.fix.fr 0 rfl
    go_simp
    clear cc ff
    replace hL := hL.cell 0 (.slice aM (i + 1) cM) (by simp)
    simp only [List.set] at hL
    generalize w2.setCell ⟨gO, 0, none⟩ (.slice aM (i + 1) cM) = WS at *
    (first | refine hK.out undef _ ?_ (fun hHeld => ?_) | (go_wp2_with fail; refine hK.out undef _ ?_ (fun hHeld => ?_)))
    ·try dsimp only
     with_reducible exact ⟨(HP.out _ hL.old).at 0 rfl, (HG.out _ (HB0.out _ hL.old)).1⟩
    clear hK KK hF aa
    refine enO hA ?_
    clear hA; clear hacc
    go_wp2_with fail
    go_roundw
    case rel => exact ⟨i + 1, by omega, by go_num, _, _, _, hL.setRows (fun _ _ => rfl) (fun x hx => by
     by_cases e : x = i
     ·subst e; rw [upd_same]
     ·rw [upd_ne e])⟩
    case measure => simp [intOf]; omega
   ·obtain rfl : m = i := by omega
    have hi1 : ¬ (m : Int) < (m : Int) := by omega
    obtain ⟨aM, cM, eA, _⟩ := hL.A.form
    simp only [List.length_map, List.length_range] at eA
    subst eA; have p0 := (HP.out _ hL.old).at 0 rfl; have x0 := hL.fix.at 0 rfl; have x1 := hL.fix.at 1 rfl; have x2 := hL.fix.at 2 rfl; have bR2 := HR.out _ hL.old; have y0 := bR2.at 0 rfl; have y1 := bR2.at 1 rfl; have y2 := bR2.at 2 rfl; have f0 := bR2.fr 0 rfl; have f1 := bR2.fr 1 rfl; have f2 := bR2.fr 2 rfl; have h0 := hL.lab0 hgR; have hLw := hL.base (HB0.out _ (Below.refl _ _))
    go_wp2_with fail
    have bR3 := bR2.put3 (.slice aM m cM) (.slice a8 m c8) (.slice a12 n c12); have z0 := bR3.at 0 rfl; have z1 := bR3.at 1 rfl; have z2 := bR3.at 2 rfl
    refine bodyPost_ret (v := .agg #[.slice aM m cM, .slice a8 m c8, .slice a12 n c12]) (by simp [results, Tryz.results27, go_sem, z0, z1, z2]) rfl ?_
    have hfin := hLw.off (M := fun k => k = gR) ((((Off.refl (fun k => k = gR) wr).set (p := ⟨gR, 0, none⟩) rfl (.slice aM m cM)).set (p := ⟨gR, 1, none⟩) rfl (.slice a8 m c8)).set (p := ⟨gR, 2, none⟩) rfl (.slice a12 n c12)) (fun k hk e => hk (by rw [e]; exact h0)) (fun k hk e => by omega)
    obtain ⟨T, hS, hPt⟩ := hfin.parts
    exact ⟨aM, cM, a8, c8, a12, c12, rfl, rv_, T, hS, hPt⟩
end Go.Proofs.YtinmmkcjjlconaaGreat
namespace Go.Proofs.YtinmmkcjjlconaaGreat
open Go.RowKit W
open Pl (nb)
theorem flat3_set (l : List Raw) (x : Raw) : ∀ j, j < l.length → (((flat3 l).set (j * 3) (.bool x.neg)).set (j * 3 + 1) (.string x.s)).set (j * 3 + 1 + 1) (.string x.t) = flat3 (l.set j x) := by
 intro j hj
 apply List.ext_getElem?
 intro k
 have hl : (flat3 l).length = l.length * 3 := flat3_len l
 by_cases hk : k < l.length * 3
 ·obtain ⟨i, r, hr, rfl⟩ : ∃ i r, r < 3 ∧ k = i * 3 + r := ⟨k / 3, k % 3, Nat.mod_lt _ (by decide), by omega⟩
  have hi : i < l.length := by omega
  rw [flat3_get (l.set j x) i r (by simpa using hi) hr]
  have h0 := flat3_get l i r hi hr
  by_cases e : i = j
  ·subst e
   have hr3 : r = 0 ∨ r = 1 ∨ r = 2 := by omega
   rcases hr3 with rfl | rfl | rfl
   ·rw [List.getElem?_set_ne (by omega), List.getElem?_set_ne (by omega), Nat.add_zero, List.getElem?_set_self (by omega)]
    simp [Raw.cells]
   ·rw [List.getElem?_set_ne (by omega), List.getElem?_set_self (by simp; omega)]
    simp [Raw.cells]
   ·rw [show i * 3 + 2 = i * 3 + 1 + 1 by omega, List.getElem?_set_self (by simp; omega)]
    simp [Raw.cells]
  ·have e1 : i * 3 + r ≠ j * 3 + 1 + 1 := by omega
   have e2 : i * 3 + r ≠ j * 3 + 1 := by omega
   have e3 : i * 3 + r ≠ j * 3 := by omega
   rw [List.getElem?_set_ne (Ne.symm e1), List.getElem?_set_ne (Ne.symm e2), List.getElem?_set_ne (Ne.symm e3), h0]
   simp [List.getElem_set_ne (Ne.symm e)]
 ·rw [List.getElem?_eq_none (by simp [hl]; omega), List.getElem?_eq_none (by rw [flat3_len]; simp; omega)]
theorem Rats.set {w : World} {B g j n cap : Nat} {l : List Raw} (h : Rats w B (.slice (some ⟨g, 0, none⟩) n cap) l) (hj : j < l.length) (v : V3) (x : Raw) (ha : v.a = .bool x.neg) (hb : v.b = .string x.s) (hc : v.c = .string x.t) :
  Rats (sto3 w g j v) B (.slice (some ⟨g, 0, none⟩) n cap) (l.set j x) := by
 obtain ⟨a, cap', e⟩ := h.form
 obtain ⟨-, rfl, -⟩ : some ⟨g, 0, none⟩ = a ∧ n = l.length ∧ cap = cap' := by simpa using e
 have h1 := (World.ownsRow.stored h (j * 3) v.a).1; have h2 := (World.ownsRow.stored h1 (j * 3 + 1) v.b).1; have h3 := (World.ownsRow.stored h2 (j * 3 + 1 + 1) v.c).1; rw [ha, hb, hc, flat3_set l x j hj] at h3; unfold Rats sto3; rw [List.length_set, ha, hb, hc]
 exact h3
theorem raws_set {m j : Nat} {F : Nat → Rat} {q : Rat} (hj : j < m) : (raws m F).set j ⟨decide (q.num < 0), nb q.num.natAbs, nb q.den⟩ = raws m (upd F j q) := by
 apply List.ext_getElem?
 intro k
 by_cases hk : k < m
 ·by_cases e : k = j
  ·subst e
   rw [List.getElem?_set_self (by rw [raws_len]; exact hk)]
   rw [List.getElem?_eq_getElem (by rw [raws_len]; exact hk), raws_get, upd_same]
   rfl
  ·rw [List.getElem?_set_ne (Ne.symm e), List.getElem?_eq_getElem (by rw [raws_len]; exact hk), List.getElem?_eq_getElem (by rw [raws_len]; exact hk), raws_get, raws_get, upd_ne e]
 ·rw [List.getElem?_eq_none (by simp [raws_len]; omega), List.getElem?_eq_none (by rw [raws_len]; omega)]
def Made (m n : Nat) (A : Nat → Nat → Rat) (B C : Nat → Rat) (_ : Nat) (O : Nat → Prop) (v : Value) (W : World) : Prop :=
  ∃ a0 c0 a1 c1 a2 c2 rv_ T, v = .agg #[.slice a0 m c0, .slice a1 m c1, .slice a2 n c2] ∧ (∀ b, O b ↔ ∃ j, (T j).O b) ∧ (∀ j, (T j).P W) ∧ (∀ i j, i ≠ j → ∀ b, (T i).O b → ¬ (T j).O b) ∧ Parts m n A B C (.slice a0 m c0) (.slice a1 m c1) (.slice a2 n c2) rv_ T ∧ T 2 = nothing
theorem made_keeps (m n : Nat) (A : Nat → Nat → Rat) (B C : Nat → Rat) : Keeps (Made m n A B C) := by
 intro i O v W W' M ⟨a0, c0, a1, c1, a2, c2, rv_, T, hv, hO, hP, hd, hp, h2⟩ ho hm
 exact ⟨a0, c0, a1, c1, a2, c2, rv_, T, hv, hO, fun j => (T j).st _ _ _ (hP j) ho (fun b hb => hm b ((hO b).2 ⟨j, hb⟩)), hd, hp, h2⟩
theorem made_of {m n : Nat} {A : Nat → Nat → Rat} {B C : Nat → Rat} {w w' : World} {a0 a1 a2 : Option Addr} {c0 c1 c2 : Nat} {rv_ : Nat → Value} {T : Nat → Thing} (h : Sep w w' T) (hp : Parts m n A B C (.slice a0 m c0) (.slice a1 m c1) (.slice a2 n c2) rv_ T) (i : Nat) :
  ∃ O, Made m n A B C i O (.agg #[.slice a0 m c0, .slice a1 m c1, .slice a2 n c2]) w' ∧ ∀ b, O b → w.heap.size ≤ b ∧ b < w'.heap.size := by
 refine ⟨fun b => ∃ j, j ≠ 2 ∧ (T j).O b, ⟨a0, c0, a1, c1, a2, c2, rv_, upd T 2 nothing, rfl, fun b => ⟨?_, ?_⟩, fun j => ?_, fun i j hne b h1 h2 => ?_, ⟨upd_o (by decide) hp.b, upd_o (by decide) hp.c, upd_o (by decide) hp.a, fun x hx => upd_o (by omega) (hp.r x hx)⟩, upd_same _ _ _⟩, fun b ⟨j, _, hj⟩ => h.o j b hj⟩
 ·rintro ⟨j, hj, hb⟩; exact ⟨j, by rw [upd_ne hj]; exact hb⟩
 ·rintro ⟨j, hb⟩
  by_cases e : j = 2
  ·subst e; rw [upd_same] at hb; exact hb.elim
  ·rw [upd_ne e] at hb; exact ⟨j, e, hb⟩
 ·by_cases e : j = 2
  ·subst e; rw [upd_same]; trivial
  ·rw [upd_ne e]; exact h.p j
 ·by_cases e : i = 2
  ·subst e; rw [upd_same] at h1; exact h1
  ·by_cases e2 : j = 2
   ·subst e2; rw [upd_same] at h2; exact h2
   ·rw [upd_ne e] at h1; rw [upd_ne e2] at h2; exact h.d i j hne b h1 h2
theorem copy_o (p : Value) (m n : Nat) (A : Nat → Nat → Rat) (B C : Nat → Rat) (w : World) (h : PR w p m n A B C) (hm : m ≤ 1000) (hn : n ≤ 1000) (i : Nat) :
  Calls Tryz.prog 27 #[p] w fun e w' => ∃ v O, e = .returned v ∧ Made m n A B C i O v w' ∧ (∀ b, O b → w.heap.size ≤ b ∧ b < w'.heap.size) ∧ Below w.heap.size w w' :=
 (copy_any p m n A B C w h hm hn).mono (by
  rintro e w' ⟨a0, c0, a1, c1, a2, c2, rv_, T, rfl, hS, hP⟩; obtain ⟨O, h1, h2⟩ := made_of hS hP i
  exact ⟨_, O, rfl, h1, h2, hS.acc⟩)
theorem JC.done {wb W : World} {pv : Nat → Value} {m n : Nat} {A : Nat → Nat → Rat} {B C : Nat → Rat} {zs : List Value} {sl sc sa : Nat → Nat} {L : Nat → Bool} {V : Nat → Value} {O : Nat → Nat → Prop} {G : Nat → Nat} (h : JC wb 3 pv (Made m n A B C) zs sl sc sa L V O G W) (hall : ∀ i, i < 12 → L i = true) :
  ∃ (T : Nat → Thing) (v0 v1 v2 : Nat → Value) (rv_ : Nat → Nat → Value), Sep wb W T ∧ (∀ i, i < 3 → V (sa i) = .pointer (some ⟨G i, 0, none⟩) ∧ (∃ a c, v0 i = .slice a m c) ∧ (∃ a c, v1 i = .slice a m c) ∧ (∃ a c, v2 i = .slice a n c) ∧ T (6 + i) = boxT (G i) [v0 i, v1 i, v2 i] ∧ Parts m n A B C (v0 i) (v1 i) (v2 i) (rv_ i) (fun j => T (3 * j + i))) := by
 have key : ∀ i, ∃ (v0 v1 v2 : Value) (rv_ : Nat → Value) (T : Nat → Thing), i < 3 → V (sa i) = .pointer (some ⟨G i, 0, none⟩) ∧ (∃ a c, v0 = .slice a m c) ∧ (∃ a c, v1 = .slice a m c) ∧ (∃ a c, v2 = .slice a n c) ∧ Rx W (G i) [v0, v1, v2] ∧ Parts m n A B C v0 v1 v2 rv_ T ∧ (∀ j, (T j).P W) ∧ (∀ b, O i b ↔ ∃ j, (T j).O b) ∧ (∀ a c, a ≠ c → ∀ b, (T a).O b → ¬ (T c).O b) ∧ T 2 = nothing ∧ wb.heap.size ≤ G i ∧ G i < W.heap.size := by
  intro i
  by_cases hi : i < 3
  ·obtain ⟨a0, c0, a1, c1, a2, c2, rv_, T, hv, hO, hP, hd, hp, h2⟩ := h.cl i hi (hall _ (by omega))
   obtain ⟨g1, g2, g3, _, g4⟩ := h.bx i hi (hall _ (by omega))
   obtain ⟨cs, e1, e2⟩ := g4 (hall _ (by omega))
   rw [hv] at e1
   have : cs = [.slice a0 m c0, .slice a1 m c1, .slice a2 n c2] := by
    simp only [Value.agg.injEq] at e1
    have := congrArg Array.toList e1
    simpa using this.symm
   subst this
   exact ⟨_, _, _, rv_, T, fun _ => ⟨g1, ⟨_, _, rfl⟩, ⟨_, _, rfl⟩, ⟨_, _, rfl⟩, e2, hp, hP, hO, hd, h2, g2, g3⟩⟩
  ·exact ⟨undef, undef, undef, fun _ => undef, fun _ => nothing, fun h => absurd h hi⟩
 obtain ⟨v0, key⟩ := Classical.axiomOfChoice key; obtain ⟨v1, key⟩ := Classical.axiomOfChoice key; obtain ⟨v2, key⟩ := Classical.axiomOfChoice key; obtain ⟨rv_, key⟩ := Classical.axiomOfChoice key; obtain ⟨T, key⟩ := Classical.axiomOfChoice key
 have om : ∀ i j b, i < 3 → (upd (T i) 2 (boxT (G i) [v0 i, v1 i, v2 i]) j).O b → (j ≠ 2 ∧ (T i j).O b ∧ O i b) ∨ (j = 2 ∧ b = G i) := by
  intro i j b hi hb
  obtain ⟨_, _, _, _, _, _, _, hO, _⟩ := key i hi
  by_cases e : j = 2
  ·subst e; rw [upd_same] at hb; exact .inr ⟨rfl, hb⟩
  ·rw [upd_ne e] at hb; exact .inl ⟨e, hb, (hO b).2 ⟨j, hb⟩⟩
 have ex : ∀ x, x = 3 * (x / 3) + x % 3 ∧ x % 3 < 3 := fun x => ⟨by omega, Nat.mod_lt _ (by decide)⟩
 have cL : ∀ i, i < 3 → L (2 * i + 1) = true := fun i hi => hall _ (by omega)
 have aL : ∀ i, i < 3 → L (2 * 3 + i) = true := fun i hi => hall _ (by omega)
 refine ⟨fun x => upd (T (x % 3)) 2 (boxT (G (x % 3)) [v0 (x % 3), v1 (x % 3), v2 (x % 3)]) (x / 3), v0, v1, v2, rv_, ⟨h.acc, fun x => ?_, fun x b hb => ?_, fun x y hne b h1 h2 => ?_⟩, fun i hi => ?_⟩
 ·obtain ⟨_, _, _, _, hr, hp, hP, hO, hd, h2, _⟩ := key (x % 3) (ex x).2
  by_cases e : x / 3 = 2
  ·rw [e, upd_same]; exact hr
  ·rw [upd_ne e]; exact hP _
 ·obtain ⟨_, _, _, _, _, _, _, _, _, _, g1, g2⟩ := key (x % 3) (ex x).2
  rcases om _ _ b (ex x).2 hb with ⟨_, _, ho⟩ | ⟨_, rfl⟩
  ·exact h.own _ (ex x).2 (cL _ (ex x).2) b ho
  ·exact ⟨g1, g2⟩
 ·obtain ⟨_, _, _, _, _, _, _, _, hd, _⟩ := key (x % 3) (ex x).2
  have hx := (ex x).2; have hy := (ex y).2
  rcases om _ _ b hx h1 with ⟨n1, t1, o1⟩ | ⟨n1, e1⟩ <;> rcases om _ _ b hy h2 with ⟨n2, t2, o2⟩ | ⟨n2, e2⟩
  ·by_cases e : x % 3 = y % 3
   ·rw [← e] at t2
    exact hd _ _ (fun e3 => hne (by omega)) b t1 t2
   ·exact h.d1 _ _ hx hy e (cL _ hx) (cL _ hy) b o1 o2
  ·subst e2
   exact h.d2 _ _ hx hy (cL _ hx) (aL _ hy) o1
  ·subst e1
   exact h.d2 _ _ hy hx (cL _ hy) (aL _ hx) o2
  ·have e : x % 3 ≠ y % 3 := fun e => hne (by omega)
   exact h.d3 _ _ hx hy e (aL _ hx) (aL _ hy) (e1.symm.trans e2)
 ·obtain ⟨e1, f0, f1, f2, hr, hp, hP, hO, hd, h2, g1, g2⟩ := key i hi
  have m3 : ∀ j, (3 * j + i) % 3 = i ∧ (3 * j + i) / 3 = j := fun j => ⟨by omega, by omega⟩
  refine ⟨e1, f0, f1, f2, ?_, ⟨?_, ?_, ?_, fun x hx => ?_⟩⟩
  ·show upd (T ((6 + i) % 3)) 2 _ ((6 + i) / 3) = _
   rw [show (6 + i) % 3 = i by omega, show (6 + i) / 3 = 2 by omega, upd_same]
  ·show upd (T ((3 * 0 + i) % 3)) 2 _ ((3 * 0 + i) / 3) = _
   rw [(m3 0).1, (m3 0).2, upd_ne (by decide)]; exact hp.b
  ·show upd (T ((3 * 1 + i) % 3)) 2 _ ((3 * 1 + i) / 3) = _
   rw [(m3 1).1, (m3 1).2, upd_ne (by decide)]; exact hp.c
  ·show upd (T ((3 * 3 + i) % 3)) 2 _ ((3 * 3 + i) / 3) = _
   rw [(m3 3).1, (m3 3).2, upd_ne (by decide)]; exact hp.a
  ·show upd (T ((3 * (4 + x) + i) % 3)) 2 _ ((3 * (4 + x) + i) / 3) = _
   rw [(m3 _).1, (m3 _).2, upd_ne (by omega)]; exact hp.r x hx
end Go.Proofs.YtinmmkcjjlconaaGreat
namespace Go.Proofs.YtinmmkcjjlconaaGreat
open Go.RowKit W
open Pl (nb bv bv_nb nb_size_zero)
open Lp (S S_succ S_zero S_congr S_mulr Cert Feas Dual Unb Out)
section
variable {m n k : Nat} {A : Nat → Nat → Rat} {B C x y d : Nat → Rat} {v f : Rat}
theorem mul_le_f (hf : 0 < f) {a b : Rat} : a * f ≤ b * f ↔ a ≤ b := ⟨fun h => Rat.le_of_mul_le_mul_right h hf, fun h => Rat.mul_le_mul_of_nonneg_right h (Rat.le_of_lt hf)⟩
theorem nn_f (hf : 0 < f) {a : Rat} (h : 0 ≤ a) : 0 ≤ a * f := Rat.mul_nonneg h (Rat.le_of_lt hf)
theorem S_r (n : Nat) (F G : Nat → Rat) (f : Rat) : S n (fun j => F j * (G j * f)) = S n (fun j => F j * G j) * f := by rw [← S_mulr]; exact S_congr fun j _ => by grind
theorem S_l (n : Nat) (F G : Nat → Rat) (f : Rat) : S n (fun j => F j * f * G j) = S n (fun j => F j * G j) * f := by rw [← S_mulr]; exact S_congr fun j _ => by grind
theorem cert_c (hf : 0 < f) (h : Cert m n A B C x y v) : Cert m n A B (fun j => C j * f) x (fun i => y i * f) (v * f) := by
 refine ⟨h.px, ⟨fun i hi => nn_f hf (h.py.1 i hi), fun j hj => ?_⟩, ?_, ?_⟩
 ·rw [S_r]; exact (mul_le_f hf).2 (h.py.2 j hj)
 ·rw [S_l, h.vx]
 ·rw [S_r, h.vy]
theorem out_c (hf : 0 < f) (h : Out m n A B C k) : Out m n A B (fun j => C j * f) k := by
 cases h with
 | ok h => exact .ok (cert_c hf h)
 | empty h => exact .empty h
 | unb h => exact .unb ⟨h.px, h.dpos, h.drow, by rw [S_l]; exact Rat.mul_pos h.dval hf⟩
theorem feas_b (hf : 0 < f) (h : Feas m n A B x) : Feas m n A (fun i => B i * f) (fun j => x j * f) := ⟨fun j hj => nn_f hf (h.1 j hj), fun i hi => by rw [S_r]; exact (mul_le_f hf).2 (h.2 i hi)⟩
theorem cert_b (hf : 0 < f) (h : Cert m n A B C x y v) : Cert m n A (fun i => B i * f) C (fun j => x j * f) y (v * f) := ⟨feas_b hf h.px, h.py, by rw [S_r, h.vx], by rw [S_l, h.vy]⟩
theorem inv_f (hf : 0 < f) : 0 < 1 / f ∧ ∀ a : Rat, a * f * (1 / f) = a := by
 have h0 : f ≠ 0 := Rat.ne_of_gt hf
 have h2 : f * (1 / f) = 1 := by rw [Rat.mul_comm]; exact Rat.div_mul_cancel h0
 have h1 : 0 < 1 / f := Rat.lt_of_le_of_ne (Lp.div_nonneg (by decide +kernel) hf) (fun e => by
  rw [← e, Rat.mul_zero] at h2
  exact absurd h2 (by decide +kernel))
 refine ⟨h1, fun a => ?_⟩
 rw [Rat.mul_assoc, h2, Rat.mul_one]
theorem out_b (hf : 0 < f) (h : Out m n A B C k) : Out m n A (fun i => B i * f) C k := by
 cases h with
 | ok h => exact .ok (cert_b hf h)
 | empty h =>
  refine .empty fun x hx => h (fun j => x j * (1 / f)) ?_
  have h1 := feas_b (inv_f hf).1 hx; have e : (fun i => B i * f * (1 / f)) = B := funext fun i => (inv_f hf).2 _
  rwa [e] at h1
 | unb h => exact .unb ⟨feas_b hf h.px, h.dpos, h.drow, h.dval⟩
theorem row_S (A : Nat → Nat → Rat) (q i : Nat) (f : Rat) (x : Nat → Rat) : S n (fun j => upd A q (fun j => A q j * f) i j * x j) = if i = q then S n (fun j => A q j * x j) * f else S n (fun j => A i j * x j) := by
 split
 ·next e => subst e; rw [upd_same, S_l]
 ·next e => rw [upd_ne e]
theorem feas_r (hf : 0 < f) (q : Nat) : Feas m n (upd A q (fun j => A q j * f)) (upd B q (B q * f)) x ↔ Feas m n A B x := by
 constructor
 ·rintro ⟨h1, h2⟩
  refine ⟨h1, fun i hi => ?_⟩
  have := h2 i hi; rw [row_S] at this
  by_cases e : i = q
  ·subst e; rw [if_pos rfl, upd_same] at this; exact (mul_le_f hf).1 this
  ·rwa [if_neg e, upd_ne e] at this
 ·rintro ⟨h1, h2⟩
  refine ⟨h1, fun i hi => ?_⟩
  rw [row_S]
  by_cases e : i = q
  ·subst e; rw [if_pos rfl, upd_same]; exact (mul_le_f hf).2 (h2 i hi)
  ·rw [if_neg e, upd_ne e]; exact h2 i hi
theorem cert_r (hf : 0 < f) (q : Nat) (h : Cert m n A B C x y v) : Cert m n (upd A q (fun j => A q j * f)) (upd B q (B q * f)) C x (upd y q (y q * (1 / f))) v := by
 obtain ⟨g1, g2⟩ := inv_f hf
 refine ⟨(feas_r hf q).2 h.px, ⟨fun i hi => ?_, fun j hj => ?_⟩, h.vx, ?_⟩
 ·by_cases e : i = q
  ·subst e; rw [upd_same]; exact nn_f g1 (h.py.1 i hi)
  ·rw [upd_ne e]; exact h.py.1 i hi
 ·have e : S m (fun i => upd A q (fun j => A q j * f) i j * upd y q (y q * (1 / f)) i) = S m (fun i => A i j * y i) := S_congr fun i _ => by
   by_cases e : i = q
   ·subst e; rw [upd_same, upd_same]; have := g2 (A i j * y i); grind
   ·rw [upd_ne e, upd_ne e]
  rw [e]; exact h.py.2 j hj
 ·rw [← h.vy]
  exact S_congr fun i _ => by
   by_cases e : i = q
   ·subst e; rw [upd_same, upd_same]; have := g2 (B i * y i); grind
   ·rw [upd_ne e, upd_ne e]
theorem out_r (hf : 0 < f) (q : Nat) (h : Out m n A B C k) : Out m n (upd A q (fun j => A q j * f)) (upd B q (B q * f)) C k := by
 cases h with
 | ok h => exact .ok (cert_r hf q h)
 | empty h => exact .empty fun x hx => h x ((feas_r hf q).1 hx)
 | unb h =>
  refine .unb ⟨(feas_r hf q).2 h.px, h.dpos, fun i hi => ?_, h.dval⟩
  rw [row_S]
  split
  ·next e => subst e; have := (mul_le_f hf).2 (h.drow i hi); rwa [Rat.zero_mul] at this
  ·exact h.drow i hi
end
def Num3 (b : Bool) (t u : ByteArray) (p : Rat) : Prop := (b = decide (p.num < 0) ∧ t = nb p.num.natAbs ∧ u = nb p.den) ∨ (p = 0 ∧ b = false ∧ t = ⟨#[]⟩ ∧ u = ⟨#[]⟩)
def ecOf (k : Nat) : Int := if k = 0 then 0 else if k = 1 then 16 else 40
structure SolU (m n : Nat) (A : Nat → Nat → Rat) (B C : Nat → Rat) (k : Nat) (b : Bool) (t u : ByteArray) (p : Rat) (ec : Int) : Prop where
  out : Out m n A B C k
  num : Num3 b t u p
  sz : Sz p 33554432
  ec : ec = ecOf k
  ok : k = 0 → (b = decide (p.num < 0) ∧ t = nb p.num.natAbs ∧ u = nb p.den) ∧ ∃ X Y, Cert m n A B C X Y p
theorem solve_u {m n : Nat} {A : Nat → Nat → Rat} {B C : Nat → Rat} (ft : Fits m n A B C) (p : Value) (w : World) (h : PR w p m n A B C) : Calls Tryz.prog 14 #[p] w fun e w' => ∃ k a0 l0 d0 a1 l1 d1 b t u q ec, e = .returned (.tuple #[.agg #[.slice a0 l0 d0, .slice a1 l1 d1, .bool b, .string t, .string u], .int .i64 ec]) ∧ SolU m n A B C k b t u q ec ∧ Below w.heap.size w w' :=
 (solve_c ft p w h).mono (by
  rintro e w' ⟨k, hk⟩; obtain ⟨hb, hout, hres⟩ := hk.ex
  rcases hres with ⟨rfl, gx, gy, X, Y, v, rfl, hc, _, _, _, _, _, _, _, sv⟩ | ⟨rfl, rfl⟩ | ⟨rfl, rfl⟩
  ·exact ⟨0, _, _, _, _, _, _, _, _, _, v, 0, rfl, ⟨hout, .inl ⟨rfl, rfl, rfl⟩, sv, rfl, fun _ => ⟨⟨rfl, rfl, rfl⟩, X, Y, hc⟩⟩, hb⟩
  ·exact ⟨1, _, _, _, _, _, _, _, _, _, 0, 16, rfl, ⟨hout, .inr ⟨rfl, rfl, rfl, rfl⟩, Sz_zero.mono (by decide), rfl, fun h => by cases h⟩, hb⟩
  ·exact ⟨2, _, _, _, _, _, _, _, _, _, 0, 40, rfl, ⟨hout, .inr ⟨rfl, rfl, rfl, rfl⟩, Sz_zero.mono (by decide), rfl, fun h => by cases h⟩, hb⟩)
section
open Rq
theorem rmul2_z (p q : Rat) (w : World) (hp0 : p = 0) (hp : Sz p 33554432) (hq : Sz q 33554432) :
  Calls Tryz.prog 29 #[.agg #[.bool false, .string ⟨#[]⟩, .string ⟨#[]⟩], rv q] w fun e w' => e = .returned (rv (p * q)) ∧ Below w.heap.size w w' := by
 have HV : Hid (∀ W, Calls Tryz.prog 62 #[.agg #[.bool false, .string ⟨#[]⟩, .string ⟨#[]⟩]] W fun e w' => e = .returned (rv p) ∧ Below W.heap.size W w') := Lib.hid (fun W => by rw [hp0]; exact rvalue2_bad false ⟨#[]⟩ ⟨#[]⟩ W (by decide) (by decide) (rawB_den (by decide)))
 clear hp0; unfold rv
 go_enter Tryz.func29, Tryz.ntmps29
 have ⟨bA, bB, bR, hacc⟩ := opn3 w [.bool false, .string ⟨#[]⟩, .string ⟨#[]⟩] [.bool (decide (q.num < 0)), .string (nb q.num.natAbs), .string (nb q.den)] [.bool false, .string ⟨#[]⟩, .string ⟨#[]⟩] 33 33 33
 go_upto_region 1 with fail
 generalize ((w.alloc (.cells #[.bool false, .string ⟨#[]⟩, .string ⟨#[]⟩] 33)).alloc (.cells #[.bool (decide (q.num < 0)), .string (nb q.num.natAbs), .string (nb q.den)] 33)).alloc (.cells #[.bool false, .string ⟨#[]⟩, .string ⟨#[]⟩] 33) = W0 at *; generalize hgR : w.heap.size + 1 + 1 = gR at *; generalize hgB : w.heap.size + 1 = gB at *; obtain ⟨gA, hgA⟩ : ∃ g, g = w.heap.size := ⟨_, rfl⟩; rw [← hgA] at bA
 simp only [← hgA]
 have ngAgB : gA ≠ gB := by omega
 have ngAgR : gA ≠ gR := by omega
 have ngBgR : gB ≠ gR := by omega
 have kgA : w.heap.size ≤ gA := by omega
 have kgB : w.heap.size ≤ gB := by omega
 have kgR : w.heap.size ≤ gR := by omega
 clear hgA hgB hgR; have s1 := size_mul hp.1 hq.1; have s2 := size_mul hp.2 hq.2; have s3 := size_mul hp.1 hq.2; have s4 := size_mul hq.1 hp.2; have s5 := size_mul hp.2 hq.1; obtain ⟨a1, a2⟩ := hp; obtain ⟨b1, b2⟩ := hq; have hp : Sz p 33554432 := ⟨a1, a2⟩; have hq : Sz q 33554432 := ⟨b1, b2⟩; have dp := p.den_pos; have dq := q.den_pos; have E := Lib.hid (show Rq.mk (!(decide (p.num < 0) == decide (q.num < 0))) (p.num.natAbs * q.num.natAbs) (p.den * q.den) = p * q from mul_mk p q)
 have ⟨cgA0, fgA0, cgA1, fgA1, cgA2, fgA2⟩ := bA.all3
 go_wp2_with fail
 clear cgA0 fgA0 cgA1 fgA1 cgA2 fgA2
 with_reducible refine (HV.out _).mono ?_
 rintro e wZ ⟨rfl, hbX⟩; replace hacc := hacc.trans (hbX.mono hacc.size); replace bA := bA.below hbX; replace bB := bB.below hbX; replace bR := bR.below hbX; clear hbX; unfold rv; have ⟨cgA0, fgA0, cgA1, fgA1, cgA2, fgA2⟩ := bA.all3; replace hacc := ((hacc.setCell (p := ⟨gA, 0, none⟩) kgA (.bool (decide (p.num < 0)))).setCell (p := ⟨gA, 1, none⟩) kgA (.string (nb p.num.natAbs))).setCell (p := ⟨gA, 2, none⟩) kgA (.string (nb p.den))
 replace bB := (((bB.other (p := ⟨gA, 0, none⟩) ngAgB (.bool (decide (p.num < 0)))).other (p := ⟨gA, 1, none⟩) ngAgB (.string (nb p.num.natAbs))).other (p := ⟨gA, 2, none⟩) ngAgB (.string (nb p.den))); replace bR := (((bR.other (p := ⟨gA, 0, none⟩) ngAgR (.bool (decide (p.num < 0)))).other (p := ⟨gA, 1, none⟩) ngAgR (.string (nb p.num.natAbs))).other (p := ⟨gA, 2, none⟩) ngAgR (.string (nb p.den)))
 replace bA := bA.put3 (.bool (decide (p.num < 0))) (.string (nb p.num.natAbs)) (.string (nb p.den))
 go_upto_region 2 with fail
 clear cgA0 fgA0 cgA1 fgA1 cgA2 fgA2; generalize ((wZ.setCell ⟨gA, 0, none⟩ (.bool (decide (p.num < 0)))).setCell ⟨gA, 1, none⟩ (.string (nb p.num.natAbs))).setCell ⟨gA, 2, none⟩ (.string (nb p.den)) = WS at *; have ⟨cgB0, fgB0, cgB1, fgB1, cgB2, fgB2⟩ := bB.all3
 go_wp2_with fail
 clear cgB0 fgB0 cgB1 fgB1 cgB2 fgB2
 with_reducible refine (rvalue2_any q _ (hq.mono (by decide))).mono ?_
 rintro e wZ ⟨rfl, hbX⟩; replace hacc := hacc.trans (hbX.mono hacc.size); replace bA := bA.below hbX; replace bB := bB.below hbX; replace bR := bR.below hbX; clear hbX; unfold rv; have ⟨cgB0, fgB0, cgB1, fgB1, cgB2, fgB2⟩ := bB.all3; replace hacc := ((hacc.setCell (p := ⟨gB, 0, none⟩) kgB (.bool (decide (q.num < 0)))).setCell (p := ⟨gB, 1, none⟩) kgB (.string (nb q.num.natAbs))).setCell (p := ⟨gB, 2, none⟩) kgB (.string (nb q.den))
 replace bA := (((bA.other (p := ⟨gB, 0, none⟩) (Ne.symm ngAgB) (.bool (decide (q.num < 0)))).other (p := ⟨gB, 1, none⟩) (Ne.symm ngAgB) (.string (nb q.num.natAbs))).other (p := ⟨gB, 2, none⟩) (Ne.symm ngAgB) (.string (nb q.den))); replace bR := (((bR.other (p := ⟨gB, 0, none⟩) ngBgR (.bool (decide (q.num < 0)))).other (p := ⟨gB, 1, none⟩) ngBgR (.string (nb q.num.natAbs))).other (p := ⟨gB, 2, none⟩) ngBgR (.string (nb q.den)))
 replace bB := bB.put3 (.bool (decide (q.num < 0))) (.string (nb q.num.natAbs)) (.string (nb q.den))
 go_upto_region 3 with fail
 clear cgB0 fgB0 cgB1 fgB1 cgB2 fgB2; generalize ((wZ.setCell ⟨gB, 0, none⟩ (.bool (decide (q.num < 0)))).setCell ⟨gB, 1, none⟩ (.string (nb q.num.natAbs))).setCell ⟨gB, 2, none⟩ (.string (nb q.den)) = WS at *; have cgA0 := bA.at 0 rfl; have cgA1 := bA.at 1 rfl; have cgA2 := bA.at 2 rfl; have cgB0 := bB.at 0 rfl; have cgB1 := bB.at 1 rfl; have cgB2 := bB.at 2 rfl; have ⟨cgR0, fgR0, cgR1, fgR1, cgR2, fgR2⟩ := bR.all3
 replace hacc := hacc.drew; replace bA := bA.drew; replace bB := bB.drew; replace bR := bR.drew
 go_region_held3 (fun w' => w'.cell? ⟨gA, 0, none⟩ = some (.bool (decide (p.num < 0))) ∧ w'.cell? ⟨gA, 1, none⟩ = some (.string (nb p.num.natAbs)) ∧ w'.cell? ⟨gA, 2, none⟩ = some (.string (nb p.den)) ∧ w'.cell? ⟨gB, 0, none⟩ = some (.bool (decide (q.num < 0))) ∧ w'.cell? ⟨gB, 1, none⟩ = some (.string (nb q.num.natAbs)) ∧ w'.cell? ⟨gB, 2, none⟩ = some (.string (nb q.den))) (first | exact qz33 bA bB | exact qz33 (((bA.other (p := ⟨gR, 0, none⟩) (Ne.symm ngAgR) _).other (p := ⟨gR, 1, none⟩) (Ne.symm ngAgR) _).other (p := ⟨gR, 2, none⟩) (Ne.symm ngAgR) _) (((bB.other (p := ⟨gR, 0, none⟩) (Ne.symm ngBgR) _).other (p := ⟨gR, 1, none⟩) (Ne.symm ngBgR) _).other (p := ⟨gR, 2, none⟩) (Ne.symm ngBgR) _) | exact qz33 (((((bA.other (p := ⟨gR, 0, none⟩) (Ne.symm ngAgR) _).other (p := ⟨gR, 1, none⟩) (Ne.symm ngAgR) _).other (p := ⟨gR, 2, none⟩) (Ne.symm ngAgR) _)).drew) (((((bB.other (p := ⟨gR, 0, none⟩) (Ne.symm ngBgR) _).other (p := ⟨gR, 1, none⟩) (Ne.symm ngBgR) _).other (p := ⟨gR, 2, none⟩) (Ne.symm ngBgR) _)).drew) | go_keep) (first | (go_at_call 64; (first | (with_reducible refine (mul_any (nb p.num.natAbs) (nb q.num.natAbs) _ (by omega) (by omega)).mono ?_; rw [bv_nb, bv_nb]; rintro e wX ⟨rfl, hbX⟩; replace hacc := hacc.trans (hbX.mono hacc.size); replace bA := bA.below hbX; replace bB := bB.below hbX; replace bR := bR.below hbX; clear hbX; have ⟨cgR0, fgR0, cgR1, fgR1, cgR2, fgR2⟩ := bR.all3) | (with_reducible refine (mul_any (nb p.den) (nb q.den) _ (by omega) (by omega)).mono ?_; rw [bv_nb, bv_nb]; rintro e wX ⟨rfl, hbX⟩; replace hacc := hacc.trans (hbX.mono hacc.size); replace bA := bA.below hbX; replace bB := bB.below hbX; replace bR := bR.below hbX; clear hbX; have ⟨cgR0, fgR0, cgR1, fgR1, cgR2, fgR2⟩ := bR.all3))) | (go_at_call 63; (first | (with_reducible refine (rlow_any _ _ _ _ (Nat.mul_pos dp dq) (by omega) (by omega)).mono ?_; rw [E.out, rv]; rintro e wX ⟨rfl, hbX⟩; replace hacc := hacc.trans (hbX.mono hacc.size); replace bA := bA.below hbX; replace bB := bB.below hbX; replace bR := bR.below hbX; clear hbX; have ⟨cgR0, fgR0, cgR1, fgR1, cgR2, fgR2⟩ := bR.all3))))
 all_goals
  go_wp2_with fail
  refine bodyPost_ret (v := .agg #[.bool (decide ((p * q).num < 0)), .string (nb (p * q).num.natAbs), .string (nb (p * q).den)]) (by simp [results, Tryz.results29, go_sem, cgR0, cgR1, cgR2]) rfl ⟨rfl, ?_⟩
  first | exact (((hacc.setCell kgR _).setCell kgR _).setCell kgR _) | exact (((hacc.setCell kgR _).setCell kgR _).setCell kgR _).drew
end
theorem rmul2_u {b : Bool} {t u : ByteArray} {p : Rat} (q : Rat) (w : World) (h : Num3 b t u p) (hp : Sz p 33554432) (hq : Sz q 33554432) : Calls Tryz.prog 29 #[.agg #[.bool b, .string t, .string u], rv q] w fun e w' => e = .returned (rv (p * q)) ∧ Below w.heap.size w w' := by
 rcases h with ⟨rfl, rfl, rfl⟩ | ⟨h0, rfl, rfl, rfl⟩
 ·exact rmul2_any p q w hp hq
 ·exact rmul2_z p q w h0 hp hq
end Go.Proofs.YtinmmkcjjlconaaGreat
namespace Go.Proofs.YtinmmkcjjlconaaGreat
open Go.RowKit W
open Pl (nb)
section
variable {wb W : World} {T : Nat → Thing}
theorem Sep.box {g i : Nat} {cs : List Value} (h : Sep wb W T) (e : T i = boxT g cs) : Rx W g cs := h.as i e
theorem Sep.lst {i : Nat} {v : Value} {l : List Raw} (h : Sep wb W T) (e : T i = listT v l) : Rats W 0 v l := h.as i e
theorem upd_upd (T : Nat → Thing) (i : Nat) (t u : Thing) : upd (upd T i t) i u = upd T i u := funext fun j => by
 unfold upd
 split <;> rfl
theorem Sep.put {b c m j x : Nat} {F : Nat → Rat} (h : Sep wb W T) (e : T x = listT (.slice (some ⟨b, 0, none⟩) m c) (raws m F)) (hj : j < m) (q : Rat) :
  Sep wb (sto3 W b j (q3 q)) (upd T x (listT (.slice (some ⟨b, 0, none⟩) m c) (raws m (upd F j q)))) := by
 have hr := h.lst e
 have h1 := Rats.set hr (by rw [raws_len]; exact hj) (q3 q) ⟨decide (q.num < 0), nb q.num.natAbs, nb q.den⟩ rfl rfl rfl
 rw [raws_set hj] at h1
 refine h.step x _ ?_ h1 (fun b' hb => .inl (by rw [e]; exact hb))
 rw [e]
 exact off_sto3 (M := fun b' => (Value.slice (some ⟨b, 0, none⟩) m c).ownBlock = some b') rfl j (q3 q)
end
theorem Rats.fr {w : World} {B g n c : Nat} {l : List Raw} (h : Rats w B (.slice (some ⟨g, 0, none⟩) n c) l) (j : Nat) : w.frozen? ⟨g, j, none⟩ = false := by
 rcases h.2 with ⟨e, _⟩ | ⟨g', cap, cur, e, hb2, hg, _⟩
 ·cases e
 ·obtain rfl : g = g' := by
   simp only [Value.slice.injEq, Option.some.injEq, Addr.mk.injEq] at e
   exact e.1.1
  rw [World.frozen?, hg]; rfl
def pre (F : Nat → Rat) (f : Rat) (j x : Nat) : Rat := if x < j then F x * f else F x
theorem pre_zero (F : Nat → Rat) (f : Rat) : pre F f 0 = F := funext fun x => if_neg (by omega)
theorem pre_at (F : Nat → Rat) (f : Rat) (j : Nat) : pre F f j j = F j := if_neg (by omega)
theorem pre_step (F : Nat → Rat) (f : Rat) (j : Nat) : upd (pre F f j) j (F j * f) = pre F f (j + 1) := funext fun x => by
 unfold upd pre
 by_cases e : x = j
 ·subst e; simp
 ·rw [if_neg e]
  by_cases h : x < j
  ·rw [if_pos h, if_pos (by omega)]
  ·rw [if_neg h, if_neg (by omega)]
theorem raws_congr {m : Nat} {F G : Nat → Rat} (h : ∀ i, i < m → F i = G i) : raws m F = raws m G := List.map_congr_left fun i hi => by rw [h i (List.mem_range.1 hi)]
theorem pre_all (F : Nat → Rat) (f : Rat) (m : Nat) : raws m (pre F f m) = raws m (fun x => F x * f) := raws_congr fun _ hi => if_pos hi
section
variable {m n i : Nat} {A : Nat → Nat → Rat} {B C : Nat → Rat} {vA vB vC : Value} {rv_ : Nat → Value} {T : Nat → Thing}
theorem Parts.other (h : Parts m n A B C vA vB vC rv_ (fun j => T (3 * j + i))) (hi : i < 3) {x : Nat} (t : Thing) (hx : x % 3 ≠ i) : Parts m n A B C vA vB vC rv_ (fun j => upd T x t (3 * j + i)) := by
 have e : (fun j => upd T x t (3 * j + i)) = fun j => T (3 * j + i) := funext fun j => upd_ne (by omega)
 rw [e]; exact h
theorem Parts.setB (h : Parts m n A B C vA vB vC rv_ (fun j => T (3 * j + i))) (_hi : i < 3) (B' : Nat → Rat) : Parts m n A B' C vA vB vC rv_ (fun j => upd T i (listT vB (raws m B')) (3 * j + i)) where
 b := by show upd T i _ (3 * 0 + i) = _; rw [show 3 * 0 + i = i by omega, upd_same]
 c := upd_o (by omega) h.c
 a := upd_o (by omega) h.a
 r := fun x hx => upd_o (by omega) (h.r x hx)
theorem Parts.setC (h : Parts m n A B C vA vB vC rv_ (fun j => T (3 * j + i))) (_hi : i < 3) (C' : Nat → Rat) : Parts m n A B C' vA vB vC rv_ (fun j => upd T (3 + i) (listT vC (raws n C')) (3 * j + i)) where
 b := upd_o (by omega) h.b
 c := by show upd T (3 + i) _ (3 * 1 + i) = _; rw [show 3 * 1 + i = 3 + i by omega, upd_same]
 a := upd_o (by omega) h.a
 r := fun x hx => upd_o (by omega) (h.r x hx)
theorem Parts.setR (h : Parts m n A B C vA vB vC rv_ (fun j => T (3 * j + i))) (_hi : i < 3) (q : Nat) (F : Nat → Rat) : Parts m n (upd A q F) B C vA vB vC rv_ (fun j => upd T (3 * (4 + q) + i) (listT (rv_ q) (raws n F)) (3 * j + i)) where
 b := upd_o (by omega) h.b
 c := upd_o (by omega) h.c
 a := upd_o (by omega) h.a
 r := fun x hx => by
  by_cases e : x = q
  ·subst e; show upd T _ _ (3 * (4 + x) + i) = _; rw [upd_same, upd_same]
  ·rw [upd_ne e]; exact upd_o (by omega) (h.r x hx)
end
end Go.Proofs.YtinmmkcjjlconaaGreat
