/- Parts of the proofs about this seat's statements. -/
import Derived.Test.YtinmmkcjjlconaaGreatP1t
set_option maxRecDepth 100000
set_option maxHeartbeats 16000000
namespace Go.Proofs.YtinmmkcjjlconaaGreat
open Go.RowKit W
open Pl (nb bv bv_nb nb_size_zero)
open Lp (S S_succ)
def valsT (v : Value) (l : List Value) : Thing := ⟨fun b => v.ownBlock = some b, fun W => Vals 27 W 0 v l, fun _ _ _ h ho hm => h.off ho hm⟩
structure Parts (m n : Nat) (A : Nat → Nat → Rat) (B C : Nat → Rat) (vA vB vC : Value) (rv_ : Nat → Value) (T : Nat → Thing) : Prop where
  b : T 0 = listT vB (raws m B)
  c : T 1 = listT vC (raws n C)
  a : T 3 = valsT vA ((List.range m).map rv_)
  r : ∀ i, i < m → T (4 + i) = listT (rv_ i) (raws n (A i))
theorem Parts.pr {m n : Nat} {A : Nat → Nat → Rat} {B C : Nat → Rat} {vA vB vC : Value} {rv_ : Nat → Value} {T : Nat → Thing} {W : World} (h : Parts m n A B C vA vB vC rv_ T) (hp : ∀ i, (T i).P W) : PR W (.agg #[vA, vB, vC]) m n A B C := by
 have hb : Rats W 0 vB (raws m B) := by have := hp 0; rw [h.b] at this; exact this
 have hc : Rats W 0 vC (raws n C) := by have := hp 1; rw [h.c] at this; exact this
 have ha : Vals 27 W 0 vA ((List.range m).map rv_) := by have := hp 3; rw [h.a] at this; exact this
 obtain ⟨a, cap, e, _⟩ := ha.form
 simp only [List.length_map, List.length_range] at e
 subst e
 refine pr_of ha (by simp) (fun i hi => ?_) hb.slr hc.slr
 have hr : Rats W 0 (rv_ i) (raws n (A i)) := by have := hp (4 + i); rw [h.r i hi] at this; exact this
 have : ((List.range m).map rv_).getD i undef = rv_ i := by simp [List.getD_eq_getElem?_getD, hi]
 rw [this]
 exact hr.slr
theorem upd_o {T : Nat → Thing} {i j : Nat} {t u : Thing} (h : j ≠ i) (e : T j = u) : upd T i t j = u := (upd_ne h).trans e
section
variable {w0 : World} {g : Nat} {cells : List Value} {vA : Value} {q : Nat} {rv_ : Nat → Value} {R : Nat → List Raw} {vB : Value} {lB : List Raw} {vC : Value} {lC : List Raw} {vr : Value} {lr : List Raw} {lab : Nat → Nat} {W W' : World}
theorem LO.newcur (h : LO w0 g cells vA q rv_ R vB lB vC lC (.slice none 0 0) [] lab W) (t : TypeId) (ht : t = 33) : LO w0 g cells vA q rv_ R vB lB vC lC (.slice (some ⟨W.heap.size, 0, none⟩) 0 0) [] (upd lab W.heap.size 5) (W.alloc (.cells #[] t)) := by
 subst ht; have h' := h.alloc (.cells #[] 33); have hs := h.old.size
 exact { h' with
  cur := Rats.lit W hs [] (by simp)
  l1 := h.keepL h.l1 (by decide)
  l2 := fun k hk => h.keepL (h.l2 k hk) (by decide)
  l3 := fun k hk => h.keepL (h.l3 k hk) (by decide)
  l4 := fun k hk => h.keepL (h.l4 k hk) (by decide)
  l5 := fun k hk => by
   obtain rfl : W.heap.size = k := by simpa [Value.ownBlock] using hk
   exact upd_same _ _ _
  l6 := fun i hi k hk => h.keepL (h.l6 i hi k hk) (by omega)
  fr := fun k hk => by
   by_cases e : k = W.heap.size
   ·subst e; simp; exact hs
   ·rw [upd_ne e] at hk
    have := h'.fr k hk
    exact this }
theorem LO.of_lists {T : Nat → Thing} (h : Sep w0 W T) (t0 : T 0 = listT vB lB) (t1 : T 1 = listT vC lC) (t2 : T 2 = boxT g cells) : ∃ lab, LO w0 g cells (.slice none 0 0) 0 rv_ R vB lB vC lC (.slice none 0 0) [] lab W := by
  have rB : Rats W 0 vB lB := h.as 0 t0; have rC : Rats W 0 vC lC := h.as 1 t1; have rX : Rx W g cells := h.as 2 t2
  have oB : ∀ k, vB.ownBlock = some k → w0.heap.size ≤ k ∧ k < W.heap.size := fun k hk => h.o 0 k (by rw [t0]; exact hk)
  have oC : ∀ k, vC.ownBlock = some k → w0.heap.size ≤ k ∧ k < W.heap.size := fun k hk => h.o 1 k (by rw [t1]; exact hk)
  have oX : w0.heap.size ≤ g ∧ g < W.heap.size := h.o 2 g (by rw [t2]; rfl)
  have nBC : ∀ k, vB.ownBlock = some k → ¬ vC.ownBlock = some k := h.ne 0 1 (by decide) t0 t1
  have nBX : ∀ k, vB.ownBlock = some k → ¬ k = g := h.ne 0 2 (by decide) t0 t2
  have nCX : ∀ k, vC.ownBlock = some k → ¬ k = g := h.ne 1 2 (by decide) t1 t2
  have own : ∀ {v : Value} {l : List Raw}, Rats W 0 v l → (∀ k, v.ownBlock = some k → w0.heap.size ≤ k ∧ k < W.heap.size) → Rats W w0.heap.size v l := fun {v l} hr ho => by
    refine ⟨hr.1, ?_⟩
    rcases hr.2 with h1 | ⟨b, cap, cur, rfl, hb, hx⟩
    · exact .inl h1
    · exact .inr ⟨b, cap, cur, rfl, (ho b rfl).1, hx⟩
  refine ⟨fun k => if k = g then 1 else if vB.ownBlock = some k then 3 else if vC.ownBlock = some k then 4 else 0, ?_⟩
  exact {
    old := h.acc
    fix := rX
    A := Vals.nil _ _ _
    rows := fun i hi => by omega
    B := own rB oB
    C := own rC oC
    cur := Rats.nil _ _
    l1 := if_pos rfl
    l2 := fun k hk => by cases hk
    l3 := fun k hk => by
      show (if k = g then 1 else if vB.ownBlock = some k then 3 else if vC.ownBlock = some k then 4 else 0) = 3
      rw [if_neg (nBX k hk), if_pos hk]
    l4 := fun k hk => by
      show (if k = g then 1 else if vB.ownBlock = some k then 3 else if vC.ownBlock = some k then 4 else 0) = 4
      rw [if_neg (nCX k hk), if_neg (fun e => nBC k e hk), if_pos hk]
    l5 := fun k hk => by cases hk
    l6 := fun i hi => by omega
    fr := fun k hk => by
      by_cases e : k = g
      · subst e; exact oX
      · by_cases eB : vB.ownBlock = some k
        · exact oB k eB
        · by_cases eC : vC.ownBlock = some k
          · exact oC k eC
          · simp [e, eB, eC] at hk }
theorem LO.parts {m n : Nat} {A : Nat → Nat → Rat} {B C : Nat → Rat} (h : LO w0 g cells vA m rv_ (fun i => raws n (A i)) vB (raws m B) vC (raws n C) (.slice none 0 0) [] lab W) : ∃ T, Sep w0 W T ∧ Parts m n A B C vA vB vC rv_ T := by
 have z : ∀ {v : Value} {l : List Raw}, Rats W w0.heap.size v l → Rats W 0 v l := fun h => h.mono (Nat.zero_le _)
 refine ⟨fun i => if i = 0 then listT vB (raws m B) else if i = 1 then listT vC (raws n C) else if i = 3 then valsT vA ((List.range m).map rv_) else if 4 ≤ i ∧ i - 4 < m then listT (rv_ (i - 4)) (raws n (A (i - 4))) else nothing, ⟨h.old, fun i => ?_, fun i b hb => ?_, fun i j hne b h1 h2 => ?_⟩, rfl, rfl, rfl, fun i hi => ?_⟩
 ·show Thing.P (if i = 0 then _ else _) W
  split
  ·exact z h.B
  ·split
   ·exact z h.C
   ·split
    ·exact h.A.mono (Nat.zero_le _)
    ·split
     ·next hh => exact z (h.rows _ hh.2)
     ·trivial
 ·have key : ∀ {k c : Nat}, lab k = c → c ≠ 0 → w0.heap.size ≤ k ∧ k < W.heap.size := fun e hc => h.fr _ (by omega)
  have hb : Thing.O (if i = 0 then _ else _) b := hb
  split at hb
  ·exact key (h.l3 b hb) (by decide)
  ·split at hb
   ·exact key (h.l4 b hb) (by decide)
   ·split at hb
    ·exact key (h.l2 b hb) (by decide)
    ·split at hb
     ·next hh => exact key (h.l6 _ hh.2 b hb) (by omega)
     ·exact hb.elim
 ·have lb : ∀ x, Thing.O (if x = 0 then listT vB (raws m B) else if x = 1 then listT vC (raws n C) else if x = 3 then valsT vA ((List.range m).map rv_) else if 4 ≤ x ∧ x - 4 < m then listT (rv_ (x - 4)) (raws n (A (x - 4))) else nothing) b → (x = 0 ∧ lab b = 3) ∨ (x = 1 ∧ lab b = 4) ∨ (x = 3 ∧ lab b = 2) ∨ (4 ≤ x ∧ lab b = 2 + x) := by
   intro x hx
   split at hx
   ·next e => exact .inl ⟨e, h.l3 b hx⟩
   ·split at hx
    ·next e => exact .inr (.inl ⟨e, h.l4 b hx⟩)
    ·split at hx
     ·next e => exact .inr (.inr (.inl ⟨e, h.l2 b hx⟩))
     ·split at hx
      ·next hh => exact .inr (.inr (.inr ⟨hh.1, by have := h.l6 _ hh.2 b hx; omega⟩))
      ·exact hx.elim
  have a1 := lb i h1; have a2 := lb j h2
  omega
 ·show (if 4 + i = 0 then _ else _) = _
  rw [if_neg (by omega), if_neg (by omega), if_neg (by omega), if_pos ⟨by omega, by omega⟩, show 4 + i - 4 = i by omega]
end
theorem copy_any (p : Value) (m n : Nat) (A : Nat → Nat → Rat) (B C : Nat → Rat) (w : World) (h : PR w p m n A B C) (hm : m ≤ 1000) (hn : n ≤ 1000) :
  Calls Tryz.prog 27 #[p] w fun e w' => ∃ a0 c0 a1 c1 a2 c2 rv_ T, e = .returned (.agg #[.slice a0 m c0, .slice a1 m c1, .slice a2 n c2]) ∧ Sep w w' T ∧ Parts m n A B C (.slice a0 m c0) (.slice a1 m c1) (.slice a2 n c2) rv_ T := by
 obtain ⟨pa, pb, pc, rfl, hA, hB, hC⟩ := h.ex
 obtain ⟨aA, cA, rfl⟩ : ∃ a c, pa = .slice a m c := by obtain ⟨a, c, e, _⟩ := hA; exact ⟨a, c, e⟩
 obtain ⟨aB, cB, rfl⟩ : ∃ a c, pb = .slice a m c := by obtain ⟨a, c, e, _⟩ := hB; exact ⟨a, c, e⟩
 obtain ⟨aC, cC, rfl⟩ : ∃ a c, pc = .slice a n c := by obtain ⟨a, c, e, _⟩ := hC; exact ⟨a, c, e⟩
 have HRA := Lib.hid (fun i (hi : i < m) => hA.row hi); have HSB := Lib.hid (fun W (hb : Below w.heap.size w W) => hB.below hb); have HSC := Lib.hid (fun W (hb : Below w.heap.size w W) => hC.below hb); clear h hA hB hC
 go_enter Tryz.func27, Tryz.ntmps27
 have ⟨bP, bR, hacc⟩ := opn2 w [.slice aA m cA, .slice aB m cB, .slice aC n cC] [.slice none 0 0, .slice none 0 0, .slice none 0 0] 29 29
 go_upto_region 1 with fail
 generalize (w.alloc (.cells #[.slice aA m cA, .slice aB m cB, .slice aC n cC] 29)).alloc (.cells #[.slice none 0 0, .slice none 0 0, .slice none 0 0] 29) = W0 at *; generalize hgR : w.heap.size + 1 = gR at *; obtain ⟨gP, hgP⟩ : ∃ g, g = w.heap.size := ⟨_, rfl⟩; rw [← hgP] at bP
 simp only [← hgP]
 have ngPgR : gP ≠ gR := by omega
 have kgP : w.heap.size ≤ gP := by omega
 have kgR : w.heap.size ≤ gR := by omega
 clear hgP hgR; have HB0 := Lib.hid (fun W (hb : Below W0.heap.size W0 W) => hacc.trans (hb.mono hacc.size)); have HP := Lib.hid (fun W (hb : Below W0.heap.size W0 W) => bP.below hb); have HR := Lib.hid (fun W (hb : Below W0.heap.size W0 W) => bR.below hb); have hgR := bR.lt; have kgR' := kgR; clear hacc bP bR kgP ngPgR kgR
 have hap : Apart 0 3 4 7 9 10 5 8 9 12 3 := ⟨by decide, by decide⟩
 refine wp_region_inv (a := ?a0) (by kernel_rfl) (by kernel_rfl) (InvA ?a0 [5, 6, 7, 8, 9, 10, 11, 12, 13, 3] (fun L V W => ∃ T, J2 W0 (raws m B) (raws n C) [.slice none 0 0, .slice none 0 0, .slice none 0 0] (fun x y => [.slice none 0 0, x, y]) 0 3 4 7 9 10 5 8 9 12 3 L V T W ∧ (∀ i, 3 ≤ i → T i = nothing) ∧ (L 1 = true → V 6 = .pointer (some ⟨gP, 1, none⟩)) ∧ (L 2 = true → V 7 = .slice aB m cB) ∧ (L 5 = true → V 10 = .pointer (some ⟨gP, 2, none⟩)) ∧ (L 6 = true → V 11 = .slice aC n cC) ∧ (L 8 = true → L 3 = true ∧ L 7 = true ∧ V 13 = .agg #[.slice none 0 0, V 8, V 12]))) ?_ ?_ ?_
 ·exact InvA.start (fun V => ⟨_, J2.start (Below.refl _ _).drew, fun _ _ => rfl, fun h => (by cases h), fun h => (by cases h), fun h => (by cases h), fun h => (by cases h), fun h => (by cases h)⟩)
 ·rintro i o L a W K ho hL hdep ⟨V, rfl, T, hJ, hN, h1, h2, h5, h6, h8⟩ hK
  have hK := Lib.hid hK; have hi : i < 11 := (Array.getElem?_eq_some_iff.1 ho).1
  rcases (by omega : i = 0 ∨ i = 1 ∨ i = 2 ∨ i = 3 ∨ i = 4 ∨ i = 5 ∨ i = 6 ∨ i = 7 ∨ i = 8 ∨ i = 9 ∨ i = 10) with rfl | rfl | rfl | rfl | rfl | rfl | rfl | rfl | rfl | rfl | rfl
  ·simp only [List.getElem?_toArray, List.getElem?_cons_zero, Option.some.injEq] at ho
   subst ho; have hb := (Below.refl W.heap.size W).alloc (Nat.le_refl _) (.cells #[] 33)
   have hv : Rats (W.alloc (.cells #[] 33)) 0 (.slice (some ⟨W.heap.size, 0, none⟩) 0 0) [] := Rats.lit W (Nat.zero_le _) [] (by simp)
   clear hdep
   simp only [setAll, List.foldl_cons, List.foldl_nil, List.setIfInBounds_toArray, List.set_cons_zero, List.set_cons_succ]
   go_simp
   refine hK.out _ _ ⟨upd V 5 (.slice (some ⟨W.heap.size, 0, none⟩) 0 0), (by simp only [setAll, List.foldl_cons, List.foldl_nil, List.setIfInBounds_toArray, List.set_cons_zero, List.set_cons_succ]; rfl), _, hJ.build0 hap hL hb hv (fun b hb => ?_), fun j hj => (upd_ne (by omega)).trans (hN j hj), ?_, ?_, ?_, ?_, ?_⟩
   ·simp [Value.ownBlock] at hb; subst hb; simp
   all_goals first | exact h1 | exact h2 | exact h5 | exact h6 | exact h8
  ·simp only [List.getElem?_toArray, List.getElem?_cons_succ, List.getElem?_cons_zero, Option.some.injEq] at ho
   subst ho; clear hdep
   simp only [setAll, List.foldl_cons, List.foldl_nil, List.setIfInBounds_toArray, List.set_cons_zero, List.set_cons_succ]
   go_simp
   refine hK.out _ _ ⟨upd V 6 (.pointer (some ⟨gP, 1, none⟩)), (by simp only [setAll, List.foldl_cons, List.foldl_nil, List.setIfInBounds_toArray, List.set_cons_zero, List.set_cons_succ]; rfl), _, hJ.other (by decide) (by decide), hN, ?_, ?_, ?_, ?_, ?_⟩
   all_goals first | exact fun _ => rfl | exact h1 | exact h2 | exact h5 | exact h6 | exact h8
  ·simp only [List.getElem?_toArray, List.getElem?_cons_succ, List.getElem?_cons_zero, Option.some.injEq] at ho
   subst ho
   have d1 : L 1 = true := hdep ⟨1, .data⟩ (by simp) rfl
   have e := h1 d1; have cc := (HP.out _ hJ.sep.acc).at 1 rfl; clear hdep
   simp only [setAll, List.foldl_cons, List.foldl_nil, List.setIfInBounds_toArray, List.set_cons_zero, List.set_cons_succ]
   go_simp
   refine hK.out _ _ ⟨upd V 7 (.slice aB m cB), (by simp only [setAll, List.foldl_cons, List.foldl_nil, List.setIfInBounds_toArray, List.set_cons_zero, List.set_cons_succ]; first | rfl | (rw [← e]; rfl)), _, hJ.other (by decide) (by decide), hN, ?_, ?_, ?_, ?_, ?_⟩
   all_goals first | exact fun _ => rfl | exact h1 | exact h2 | exact h5 | exact h6 | exact h8
  ·simp only [List.getElem?_toArray, List.getElem?_cons_succ, List.getElem?_cons_zero, Option.some.injEq] at ho
   subst ho
   have d0 : L 0 = true := hdep ⟨0, .data⟩ (by simp) rfl
   have d2 : L 2 = true := hdep ⟨2, .data⟩ (by simp) rfl
   have ev := h2 d2; have hTT := hJ.f0 d0 hL; have hown : Rats W 0 (V 5) [] := hJ.sep.as 0 hTT; have hsr := HSB.out _ (HB0.out _ hJ.sep.acc); clear hdep
   simp only [setAll, List.foldl_cons, List.foldl_nil, List.setIfInBounds_toArray, List.set_cons_zero, List.set_cons_succ]
   refine step_slr (by rfl) (by rfl) (by rfl) (by first | rfl | exact ev) 0 hown hsr (by simp; omega) (Nat.zero_le _) ?_
   intro v' w' e1 e2 e3
   refine hK.out _ _ ⟨upd V 8 v', (by simp only [setAll, List.foldl_cons, List.foldl_nil, List.setIfInBounds_toArray, List.set_cons_zero, List.set_cons_succ]; first | rfl | (simp only [Act.put]; simp only [setAll, List.foldl_cons, List.foldl_nil, List.setIfInBounds_toArray, List.set_cons_zero, List.set_cons_succ])), _, hJ.app0 hap d0 hL ((off_grown e2).mono (fun _ _ e => e)) e1 (own_app e1 e3), fun j hj => (upd_ne (by omega)).trans (hN j hj), ?_, ?_, ?_, ?_, ?_⟩
   all_goals first | exact h1 | exact h2 | exact h5 | exact h6 | exact fun h => (by have hh := h8 h; first | (rw [hL] at hh; cases hh.1) | (rw [hL] at hh; cases hh.2.1))
  ·simp only [List.getElem?_toArray, List.getElem?_cons_succ, List.getElem?_cons_zero, Option.some.injEq] at ho
   subst ho; have hb := (Below.refl W.heap.size W).alloc (Nat.le_refl _) (.cells #[] 33)
   have hv : Rats (W.alloc (.cells #[] 33)) 0 (.slice (some ⟨W.heap.size, 0, none⟩) 0 0) [] := Rats.lit W (Nat.zero_le _) [] (by simp)
   clear hdep
   simp only [setAll, List.foldl_cons, List.foldl_nil, List.setIfInBounds_toArray, List.set_cons_zero, List.set_cons_succ]
   go_simp
   refine hK.out _ _ ⟨upd V 9 (.slice (some ⟨W.heap.size, 0, none⟩) 0 0), (by simp only [setAll, List.foldl_cons, List.foldl_nil, List.setIfInBounds_toArray, List.set_cons_zero, List.set_cons_succ]; rfl), _, hJ.build1 hap hL hb hv (fun b hb => ?_), fun j hj => (upd_ne (by omega)).trans (hN j hj), ?_, ?_, ?_, ?_, ?_⟩
   ·simp [Value.ownBlock] at hb; subst hb; simp
   all_goals first | exact h1 | exact h2 | exact h5 | exact h6 | exact h8
  ·simp only [List.getElem?_toArray, List.getElem?_cons_succ, List.getElem?_cons_zero, Option.some.injEq] at ho
   subst ho; clear hdep
   simp only [setAll, List.foldl_cons, List.foldl_nil, List.setIfInBounds_toArray, List.set_cons_zero, List.set_cons_succ]
   go_simp
   refine hK.out _ _ ⟨upd V 10 (.pointer (some ⟨gP, 2, none⟩)), (by simp only [setAll, List.foldl_cons, List.foldl_nil, List.setIfInBounds_toArray, List.set_cons_zero, List.set_cons_succ]; rfl), _, hJ.other (by decide) (by decide), hN, ?_, ?_, ?_, ?_, ?_⟩
   all_goals first | exact fun _ => rfl | exact h1 | exact h2 | exact h5 | exact h6 | exact h8
  ·simp only [List.getElem?_toArray, List.getElem?_cons_succ, List.getElem?_cons_zero, Option.some.injEq] at ho
   subst ho
   have d5 : L 5 = true := hdep ⟨5, .data⟩ (by simp) rfl
   have e := h5 d5; have cc := (HP.out _ hJ.sep.acc).at 2 rfl; clear hdep
   simp only [setAll, List.foldl_cons, List.foldl_nil, List.setIfInBounds_toArray, List.set_cons_zero, List.set_cons_succ]
   go_simp
   refine hK.out _ _ ⟨upd V 11 (.slice aC n cC), (by simp only [setAll, List.foldl_cons, List.foldl_nil, List.setIfInBounds_toArray, List.set_cons_zero, List.set_cons_succ]; first | rfl | (rw [← e]; rfl)), _, hJ.other (by decide) (by decide), hN, ?_, ?_, ?_, ?_, ?_⟩
   all_goals first | exact fun _ => rfl | exact h1 | exact h2 | exact h5 | exact h6 | exact h8
  ·simp only [List.getElem?_toArray, List.getElem?_cons_succ, List.getElem?_cons_zero, Option.some.injEq] at ho
   subst ho
   have d4 : L 4 = true := hdep ⟨4, .data⟩ (by simp) rfl
   have d6 : L 6 = true := hdep ⟨6, .data⟩ (by simp) rfl
   have ev := h6 d6; have hTT := hJ.f1 d4 hL; have hown : Rats W 0 (V 9) [] := hJ.sep.as 1 hTT; have hsr := HSC.out _ (HB0.out _ hJ.sep.acc); clear hdep
   simp only [setAll, List.foldl_cons, List.foldl_nil, List.setIfInBounds_toArray, List.set_cons_zero, List.set_cons_succ]
   refine step_slr (by rfl) (by rfl) (by rfl) (by first | rfl | exact ev) 0 hown hsr (by simp; omega) (Nat.zero_le _) ?_
   intro v' w' e1 e2 e3
   refine hK.out _ _ ⟨upd V 12 v', (by simp only [setAll, List.foldl_cons, List.foldl_nil, List.setIfInBounds_toArray, List.set_cons_zero, List.set_cons_succ]; first | rfl | (simp only [Act.put]; simp only [setAll, List.foldl_cons, List.foldl_nil, List.setIfInBounds_toArray, List.set_cons_zero, List.set_cons_succ])), _, hJ.app1 hap d4 hL ((off_grown e2).mono (fun _ _ e => e)) e1 (own_app e1 e3), fun j hj => (upd_ne (by omega)).trans (hN j hj), ?_, ?_, ?_, ?_, ?_⟩
   all_goals first | exact h1 | exact h2 | exact h5 | exact h6 | exact fun h => (by have hh := h8 h; first | (rw [hL] at hh; cases hh.1) | (rw [hL] at hh; cases hh.2.1))
  ·simp only [List.getElem?_toArray, List.getElem?_cons_succ, List.getElem?_cons_zero, Option.some.injEq] at ho
   subst ho
   have d3 : L 3 = true := hdep ⟨3, .data⟩ (by simp) rfl
   have d7 : L 7 = true := hdep ⟨7, .data⟩ (by simp) rfl
   have r8 : Rats W 0 (V 8) (raws m B) := hJ.sep.as 0 (hJ.g0 d3).2; have r12 : Rats W 0 (V 12) (raws n C) := hJ.sep.as 1 (hJ.g1 d7).2; obtain ⟨a8, c8, e8⟩ := r8.form; obtain ⟨a12, c12, e12⟩ := r12.form; clear hdep r8 r12
   simp only [setAll, List.foldl_cons, List.foldl_nil, List.setIfInBounds_toArray, List.set_cons_zero, List.set_cons_succ]
   go_simp
   refine hK.out _ _ ⟨upd V 13 (.agg #[.slice none 0 0, .slice a8 (raws m B).length c8, .slice a12 (raws n C).length c12]), (by simp only [setAll, List.foldl_cons, List.foldl_nil, List.setIfInBounds_toArray, List.set_cons_zero, List.set_cons_succ]; first | rfl | (rw [← e8, ← e12]; rfl)), _, hJ.other (by decide) (by decide), hN, h1, h2, h5, h6, fun _ => ⟨d3, d7, by rw [← e8, ← e12]; rfl⟩⟩
  ·simp only [List.getElem?_toArray, List.getElem?_cons_succ, List.getElem?_cons_zero, Option.some.injEq] at ho
   subst ho; have hb := (Below.refl W.heap.size W).alloc (Nat.le_refl _) (.cells #[.slice none 0 0, .slice none 0 0, .slice none 0 0] 29); have hr : Rx (W.alloc (.cells #[.slice none 0 0, .slice none 0 0, .slice none 0 0] 29)) W.heap.size [.slice none 0 0, .slice none 0 0, .slice none 0 0] := Rx.new W _ rfl [.slice none 0 0, .slice none 0 0, .slice none 0 0] 29; clear hdep
   simp only [setAll, List.foldl_cons, List.foldl_nil, List.setIfInBounds_toArray, List.set_cons_zero, List.set_cons_succ]
   go_simp
   refine hK.out _ _ ⟨upd V 3 (.pointer (some ⟨W.heap.size, 0, none⟩)), (by simp only [setAll, List.foldl_cons, List.foldl_nil, List.setIfInBounds_toArray, List.set_cons_zero, List.set_cons_succ]; rfl), _, hJ.alloc hap hL hb rfl hr, fun j hj => (upd_ne (by omega)).trans (hN j hj), ?_, ?_, ?_, ?_, ?_⟩
   all_goals first | exact h1 | exact h2 | exact h5 | exact h6 | exact h8
  ·simp only [List.getElem?_toArray, List.getElem?_cons_succ, List.getElem?_cons_zero, Option.some.injEq] at ho
   subst ho
   have d8 : L 8 = true := hdep ⟨8, .data⟩ (by simp) rfl
   have d9 : L 9 = true := hdep ⟨9, .data⟩ (by simp) rfl
   have HH := Lib.hid (h8 d8); have HJ := Lib.hid hJ; have HN := Lib.hid hN; have H8 := Lib.hid h8; clear hdep hJ hN h8
   simp only [setAll, List.foldl_cons, List.foldl_nil, List.setIfInBounds_toArray, List.set_cons_zero, List.set_cons_succ]
   have d3 := HH.out.1; have d7 := HH.out.2.1; have e13 := HH.out.2.2; have r8 : Rats W 0 (V 8) (raws m B) := HJ.out.sep.as 0 (HJ.out.g0 d3).2; have r12 : Rats W 0 (V 12) (raws n C) := HJ.out.sep.as 1 (HJ.out.g1 d7).2; obtain ⟨a8, c8, e8⟩ := r8.form; obtain ⟨a12, c12, e12⟩ := r12.form; rw [e8, e12] at e13; obtain ⟨g, eg, hz, _⟩ := HJ.out.fa d9; have hr : Rx W g [.slice none 0 0, .slice none 0 0, .slice none 0 0] := HJ.out.sep.as 2 (hz hL)
   have c0 := hr.at 0 rfl; have c1 := hr.at 1 rfl; have c2 := hr.at 2 rfl; have f0 := hr.fr 0 rfl; have f1 := hr.fr 1 rfl; have f2 := hr.fr 2 rfl; have E8 := Lib.hid e8; have E12 := Lib.hid e12; clear r8 r12 e8 e12
   go_simp
   refine hK.out _ _ ⟨V, (by simp only [setAll, List.foldl_cons, List.foldl_nil, List.setIfInBounds_toArray, List.set_cons_zero, List.set_cons_succ]; rw [eg, e13]), _, HJ.out.store hap d3 d7 d9 eg hL ((((Off.refl (fun k => k = g) W).set (p := ⟨g, 0, none⟩) rfl (.slice none 0 0)).set (p := ⟨g, 1, none⟩) rfl _).set (p := ⟨g, 2, none⟩) rfl _) (by rw [E8.out, E12.out]; exact hr.put3 _ _ _), fun j hj => (upd_ne (by omega)).trans (HN.out j hj), h1, h2, h5, h6, H8.out⟩
 ·rintro L a W hall ⟨V, rfl, T, hJ, hN, _⟩
  have t0 := (hJ.g0 (hall 3 (by decide))).2
  have t1 := (hJ.g1 (hall 7 (by decide))).2
  obtain ⟨gO, e3, _, hz⟩ := hJ.fa (hall 9 (by decide))
  have t2 := hz (hall 10 (by decide))
  have hS := hJ.sep; have r8 : Rats W 0 (V 8) (raws m B) := hS.as 0 t0; have r12 : Rats W 0 (V 12) (raws n C) := hS.as 1 t1; obtain ⟨a8, c8, e8⟩ := r8.form; obtain ⟨a12, c12, e12⟩ := r12.form; rw [raws_len] at e8 e12; clear hJ hz hall r8 r12
  simp only [setAll, List.foldl_cons, List.foldl_nil, List.setIfInBounds_toArray, List.set_cons_zero, List.set_cons_succ]
  rw [e8] at t0 t2; rw [e12] at t1 t2; rw [e3, e8, e12]; clear e3 e8 e12 hap; clear hN; obtain ⟨lab, hL⟩ := LO.of_lists (rv_ := fun _ => .slice none 0 0) (R := fun x => raws n (A x)) hS t0 t1 t2; clear hS t0 t1 t2
  go_upto_region 3 with fail
  go_loopw [4] (fun s4 wr => ∃ i : Nat, i ≤ m ∧ s4 = .int .i64 (i : Int) ∧ ∃ vA rv_ lab, LO W0 gO [vA, .slice a8 m c8, .slice a12 n c12] vA (i) rv_ (fun x => raws n (A x)) (.slice a8 m c8) (raws m B) (.slice a12 n c12) (raws n C) (.slice none 0 0) ([]) lab wr) (fun s4 _ => m - (intOf s4).toNat)
  case atStart => exact ⟨0, by omega, rfl, _, _, _, hL⟩
  case round =>
   clear hL; obtain ⟨i, hi, rfl, vA, rv_, lab, hL⟩ := hrel
   by_cases hlt : i < m
   ·have hi0 : (0 : Int) ≤ (i : Int) := by omega
    have hi1 : (i : Int) < (m : Int) := by omega
    obtain ⟨b, a3, c3, rfl, hg⟩ := HRA.out i hlt; have HG := Lib.hid hg; clear hg; have p0 := (HP.out _ hL.old).at 0 rfl
    go_upto_region 5 with fail
    clear p0; have hacc := Below.refl wr.heap.size wr; replace hacc := hacc.drew; replace hL := hL.drew
    refine wp_schH (S := (fun w' => w'.cell? ⟨gP, 0, none⟩ = some (.slice (some ⟨b, 0, none⟩) m cA) ∧ w'.cell? ⟨b, i, none⟩ = some (.slice a3 n c3))) (.p 0 (ps 3 5 (.b (.c 1 (.c 2 (.c 8 (.c 9 (.c 10 (.p 11 (.c 12 .e))))))) (.c 2 (.b (.c 1 (.c 8 (.c 9 (.c 10 (.p 11 (.c 12 .e)))))) (.c 8 (.b (.c 1 (.c 9 (.c 10 (.p 11 (.c 12 .e))))) (.c 9 (.c 1 (.c 10 (.p 11 (.c 12 .e)))))))))))) [3, 1, 4] fun A WD hA hWD => ?_
    simp only [← hWD.out] at hacc hL
    clear hWD
    refine ⟨?_, fun hHeld => ?_⟩
    ·try dsimp only
     with_reducible exact ⟨(HP.out _ hL.old).at 0 rfl, (HG.out _ (HB0.out _ hL.old)).1⟩
    repeat (refine isP ?_; refine tkO ?_)
    refine ⟨?_, ?_⟩
    ·refine acO fun aa KK hF hK => ?_
     dsimp only [Fa] at hF
     have cc := hL.fix.at 0 rfl
     go_simp
     clear cc
     (first | refine hK.out _ _ ?_ (fun hHeld => ?_) | (go_wp2_with fail; refine hK.out _ _ ?_ (fun hHeld => ?_)))
     ·try dsimp only
      with_reducible exact ⟨(HP.out _ hL.old).at 0 rfl, (HG.out _ (HB0.out _ hL.old)).1⟩
     clear hK KK hF aa
     refine acO fun aa KK hF hK => ?_
     dsimp only [Fa] at hF
     replace hL := hL.newcur 33 rfl
     go_simp
     generalize upd lab WD.heap.size 5 = lab at *; generalize WD.heap.size = gN at *; generalize WD.alloc (.cells #[] 33) = WN at *
     (first | refine hK.out _ _ ?_ (fun hHeld => ?_) | (go_wp2_with fail; refine hK.out _ _ ?_ (fun hHeld => ?_)))
     ·try dsimp only
      with_reducible exact ⟨(HP.out _ hL.old).at 0 rfl, (HG.out _ (HB0.out _ hL.old)).1⟩
     clear hK KK hF aa
     refine acO fun aa KK hF hK => ?_
     dsimp only [Fa] at hF
     have hsr := (HG.out _ (HB0.out _ hL.old)).2
     refine ifw (by rfl) (step_slr (ops := #[]) (ts := #[]) (E := True) (by rfl) (by rfl) (by apply evF; first | exact hF.1 | exact hF.2.1 | exact hF.2.2.1) (by apply evF; first | exact hF.1 | exact hF.2.1 | exact hF.2.2.1) W0.heap.size hL.cur hsr (by simp; omega) hL.old.size ?_)
     intro v2 w4 e1 e2 e3
     rw [List.nil_append] at e1; obtain ⟨aN, cN, eN⟩ := e1.form; rw [raws_len] at eN; subst eN; replace hL := hL.appR e2 e1 e3; clear hsr e1 e2 e3
     (first | refine hK.out _ _ ?_ (fun hHeld => ?_) | (go_wp2_with fail; refine hK.out _ _ ?_ (fun hHeld => ?_)))
     ·try dsimp only
      with_reducible exact ⟨(HP.out _ hL.old).at 0 rfl, (HG.out _ (HB0.out _ hL.old)).1⟩
     clear hK KK hF aa
     refine acO fun aa KK hF hK => ?_
     dsimp only [Fa] at hF
     have hS := Vals.lit (B := 0) w4 (Nat.zero_le _) 27 [.slice aN n cN] (by simp)
     replace hL := hL.alloc (.cells #[.slice aN n cN] 27)
     go_simp
     have hS : Vals 27 (w4.alloc (.cells #[.slice aN n cN] 27)) 0 (.slice (some ⟨w4.heap.size, 0, none⟩) 1 1) [.slice aN n cN] := hS; generalize w4.heap.size = gM at *; generalize w4.alloc (.cells #[.slice aN n cN] 27) = WM at *
     (first | refine hK.out _ _ ?_ (fun hHeld => ?_) | (go_wp2_with fail; refine hK.out _ _ ?_ (fun hHeld => ?_)))
     ·try dsimp only
      with_reducible exact ⟨(HP.out _ hL.old).at 0 rfl, (HG.out _ (HB0.out _ hL.old)).1⟩
     clear hK KK hF aa
     refine acO fun aa KK hF hK => ?_
     dsimp only [Fa] at hF
     refine ifw (by rfl) (step_vals (ops := #[]) (E := True) Tryz.underlying26 info_rats rfl (by decide) (by rfl) (by rfl) (by apply evF; first | exact hF.1 | exact hF.2.1 | exact hF.2.2.1) (by apply evF; first | exact hF.1 | exact hF.2.1 | exact hF.2.2.1) W0.heap.size hL.A hS (fun u hu => by simp at hu; subst hu; rfl) (by simp; omega) hL.old.size ?_)
     intro vA2 w2 e1 e2 e3
     obtain ⟨aM, cM, rfl⟩ : ∃ a c, vA2 = .slice a (i + 1) c := (by obtain ⟨a, c, e, _⟩ := e1.form; simp only [List.length_append, List.length_map, List.length_range, List.length_cons, List.length_nil, Nat.zero_add] at e; exact ⟨a, c, e⟩)
     obtain ⟨lab2, hL2⟩ := hL.pushA e2 e1 e3; have hL := hL2; clear hL2 hS e1 e2 e3
     (first | refine hK.out _ _ ?_ (fun hHeld => ?_) | (go_wp2_with fail; refine hK.out _ _ ?_ (fun hHeld => ?_)))
     ·try dsimp only
      with_reducible exact ⟨(HP.out _ hL.old).at 0 rfl, (HG.out _ (HB0.out _ hL.old)).1⟩
     clear hK KK hF aa
     repeat (refine isP ?_; refine tkO ?_)
     refine acO fun aa KK hF hK => ?_
     dsimp only [Fa] at hF
     have cc := hL.fix.at 0 rfl; have ff := hL.fix.fr 0 rfl
     go_simp
     clear cc ff
     replace hL := hL.cell 0 (.slice aM (i + 1) cM) (by simp)
     simp only [List.set] at hL
     generalize w2.setCell ⟨gO, 0, none⟩ (.slice aM (i + 1) cM) = WS at *
     (first | refine hK.out undef _ ?_ (fun hHeld => ?_) | (go_wp2_with fail; refine hK.out undef _ ?_ (fun hHeld => ?_)))
     ·try dsimp only
      with_reducible exact ⟨(HP.out _ hL.old).at 0 rfl, (HG.out _ (HB0.out _ hL.old)).1⟩
     clear hK KK hF aa
     refine enO hA ?_
     clear hA; clear hacc
     go_wp2_with fail
     go_roundw
     case rel => exact ⟨i + 1, by omega, by go_num, _, _, _, hL.setRows (fun _ _ => rfl) (fun x hx => by
      by_cases e : x = i
      ·subst e; rw [upd_same]
      ·rw [upd_ne e])⟩
     case measure => simp [intOf]; omega
    refine acO fun aa KK hF hK => ?_
    dsimp only [Fa] at hF
    replace hL := hL.newcur 33 rfl
    go_simp
    generalize upd lab WD.heap.size 5 = lab at *; generalize WD.heap.size = gN at *; generalize WD.alloc (.cells #[] 33) = WN at *
    (first | refine hK.out _ _ ?_ (fun hHeld => ?_) | (go_wp2_with fail; refine hK.out _ _ ?_ (fun hHeld => ?_)))
    ·try dsimp only
     with_reducible exact ⟨(HP.out _ hL.old).at 0 rfl, (HG.out _ (HB0.out _ hL.old)).1⟩
    clear hK KK hF aa
    refine ⟨?_, ?_⟩
    ·refine acO fun aa KK hF hK => ?_
     dsimp only [Fa] at hF
     have cc := hL.fix.at 0 rfl
     go_simp
     clear cc
     (first | refine hK.out _ _ ?_ (fun hHeld => ?_) | (go_wp2_with fail; refine hK.out _ _ ?_ (fun hHeld => ?_)))
     ·try dsimp only
      with_reducible exact ⟨(HP.out _ hL.old).at 0 rfl, (HG.out _ (HB0.out _ hL.old)).1⟩
     clear hK KK hF aa
     refine acO fun aa KK hF hK => ?_
     dsimp only [Fa] at hF
     have hsr := (HG.out _ (HB0.out _ hL.old)).2
     refine ifw (by rfl) (step_slr (ops := #[]) (ts := #[]) (E := True) (by rfl) (by rfl) (by apply evF; first | exact hF.1 | exact hF.2.1 | exact hF.2.2.1) (by apply evF; first | exact hF.1 | exact hF.2.1 | exact hF.2.2.1) W0.heap.size hL.cur hsr (by simp; omega) hL.old.size ?_)
     intro v2 w4 e1 e2 e3
     rw [List.nil_append] at e1; obtain ⟨aN, cN, eN⟩ := e1.form; rw [raws_len] at eN; subst eN; replace hL := hL.appR e2 e1 e3; clear hsr e1 e2 e3
     (first | refine hK.out _ _ ?_ (fun hHeld => ?_) | (go_wp2_with fail; refine hK.out _ _ ?_ (fun hHeld => ?_)))
     ·try dsimp only
      with_reducible exact ⟨(HP.out _ hL.old).at 0 rfl, (HG.out _ (HB0.out _ hL.old)).1⟩
     clear hK KK hF aa
     refine acO fun aa KK hF hK => ?_
     dsimp only [Fa] at hF
     have hS := Vals.lit (B := 0) w4 (Nat.zero_le _) 27 [.slice aN n cN] (by simp)
     replace hL := hL.alloc (.cells #[.slice aN n cN] 27)
     go_simp
     have hS : Vals 27 (w4.alloc (.cells #[.slice aN n cN] 27)) 0 (.slice (some ⟨w4.heap.size, 0, none⟩) 1 1) [.slice aN n cN] := hS; generalize w4.heap.size = gM at *; generalize w4.alloc (.cells #[.slice aN n cN] 27) = WM at *
     (first | refine hK.out _ _ ?_ (fun hHeld => ?_) | (go_wp2_with fail; refine hK.out _ _ ?_ (fun hHeld => ?_)))
     ·try dsimp only
      with_reducible exact ⟨(HP.out _ hL.old).at 0 rfl, (HG.out _ (HB0.out _ hL.old)).1⟩
     clear hK KK hF aa
     refine acO fun aa KK hF hK => ?_
     dsimp only [Fa] at hF
     refine ifw (by rfl) (step_vals (ops := #[]) (E := True) Tryz.underlying26 info_rats rfl (by decide) (by rfl) (by rfl) (by apply evF; first | exact hF.1 | exact hF.2.1 | exact hF.2.2.1) (by apply evF; first | exact hF.1 | exact hF.2.1 | exact hF.2.2.1) W0.heap.size hL.A hS (fun u hu => by simp at hu; subst hu; rfl) (by simp; omega) hL.old.size ?_)
     intro vA2 w2 e1 e2 e3
     obtain ⟨aM, cM, rfl⟩ : ∃ a c, vA2 = .slice a (i + 1) c := (by obtain ⟨a, c, e, _⟩ := e1.form; simp only [List.length_append, List.length_map, List.length_range, List.length_cons, List.length_nil, Nat.zero_add] at e; exact ⟨a, c, e⟩)
     obtain ⟨lab2, hL2⟩ := hL.pushA e2 e1 e3; have hL := hL2; clear hL2 hS e1 e2 e3
     (first | refine hK.out _ _ ?_ (fun hHeld => ?_) | (go_wp2_with fail; refine hK.out _ _ ?_ (fun hHeld => ?_)))
     ·try dsimp only
      with_reducible exact ⟨(HP.out _ hL.old).at 0 rfl, (HG.out _ (HB0.out _ hL.old)).1⟩
     clear hK KK hF aa
     repeat (refine isP ?_; refine tkO ?_)
     refine acO fun aa KK hF hK => ?_
     dsimp only [Fa] at hF
     have cc := hL.fix.at 0 rfl; have ff := hL.fix.fr 0 rfl
     go_simp
     clear cc ff
     replace hL := hL.cell 0 (.slice aM (i + 1) cM) (by simp)
     simp only [List.set] at hL
     generalize w2.setCell ⟨gO, 0, none⟩ (.slice aM (i + 1) cM) = WS at *
     (first | refine hK.out undef _ ?_ (fun hHeld => ?_) | (go_wp2_with fail; refine hK.out undef _ ?_ (fun hHeld => ?_)))
     ·try dsimp only
      with_reducible exact ⟨(HP.out _ hL.old).at 0 rfl, (HG.out _ (HB0.out _ hL.old)).1⟩
     clear hK KK hF aa
     refine enO hA ?_
     clear hA; clear hacc
     go_wp2_with fail
     go_roundw
     case rel => exact ⟨i + 1, by omega, by go_num, _, _, _, hL.setRows (fun _ _ => rfl) (fun x hx => by
      by_cases e : x = i
      ·subst e; rw [upd_same]
      ·rw [upd_ne e])⟩
     case measure => simp [intOf]; omega
    refine acO fun aa KK hF hK => ?_
    dsimp only [Fa] at hF
    have hsr := (HG.out _ (HB0.out _ hL.old)).2
    refine ifw (by rfl) (step_slr (ops := #[]) (ts := #[]) (E := True) (by rfl) (by rfl) (by apply evF; first | exact hF.1 | exact hF.2.1 | exact hF.2.2.1) (by apply evF; first | exact hF.1 | exact hF.2.1 | exact hF.2.2.1) W0.heap.size hL.cur hsr (by simp; omega) hL.old.size ?_)
    intro v2 w4 e1 e2 e3
    rw [List.nil_append] at e1; obtain ⟨aN, cN, eN⟩ := e1.form; rw [raws_len] at eN; subst eN; replace hL := hL.appR e2 e1 e3; clear hsr e1 e2 e3
    (first | refine hK.out _ _ ?_ (fun hHeld => ?_) | (go_wp2_with fail; refine hK.out _ _ ?_ (fun hHeld => ?_)))
    ·try dsimp only
     with_reducible exact ⟨(HP.out _ hL.old).at 0 rfl, (HG.out _ (HB0.out _ hL.old)).1⟩
    clear hK KK hF aa
    refine ⟨?_, ?_⟩
    ·refine acO fun aa KK hF hK => ?_
     dsimp only [Fa] at hF
     have cc := hL.fix.at 0 rfl
     go_simp
     clear cc
     (first | refine hK.out _ _ ?_ (fun hHeld => ?_) | (go_wp2_with fail; refine hK.out _ _ ?_ (fun hHeld => ?_)))
     ·try dsimp only
      with_reducible exact ⟨(HP.out _ hL.old).at 0 rfl, (HG.out _ (HB0.out _ hL.old)).1⟩
     clear hK KK hF aa
     refine acO fun aa KK hF hK => ?_
     dsimp only [Fa] at hF
     have hS := Vals.lit (B := 0) w4 (Nat.zero_le _) 27 [.slice aN n cN] (by simp)
     replace hL := hL.alloc (.cells #[.slice aN n cN] 27)
     go_simp
     have hS : Vals 27 (w4.alloc (.cells #[.slice aN n cN] 27)) 0 (.slice (some ⟨w4.heap.size, 0, none⟩) 1 1) [.slice aN n cN] := hS; generalize w4.heap.size = gM at *; generalize w4.alloc (.cells #[.slice aN n cN] 27) = WM at *
     (first | refine hK.out _ _ ?_ (fun hHeld => ?_) | (go_wp2_with fail; refine hK.out _ _ ?_ (fun hHeld => ?_)))
     ·try dsimp only
      with_reducible exact ⟨(HP.out _ hL.old).at 0 rfl, (HG.out _ (HB0.out _ hL.old)).1⟩
     clear hK KK hF aa
     refine acO fun aa KK hF hK => ?_
     dsimp only [Fa] at hF
     refine ifw (by rfl) (step_vals (ops := #[]) (E := True) Tryz.underlying26 info_rats rfl (by decide) (by rfl) (by rfl) (by apply evF; first | exact hF.1 | exact hF.2.1 | exact hF.2.2.1) (by apply evF; first | exact hF.1 | exact hF.2.1 | exact hF.2.2.1) W0.heap.size hL.A hS (fun u hu => by simp at hu; subst hu; rfl) (by simp; omega) hL.old.size ?_)
     intro vA2 w2 e1 e2 e3
     obtain ⟨aM, cM, rfl⟩ : ∃ a c, vA2 = .slice a (i + 1) c := (by obtain ⟨a, c, e, _⟩ := e1.form; simp only [List.length_append, List.length_map, List.length_range, List.length_cons, List.length_nil, Nat.zero_add] at e; exact ⟨a, c, e⟩)
     obtain ⟨lab2, hL2⟩ := hL.pushA e2 e1 e3; have hL := hL2; clear hL2 hS e1 e2 e3
     (first | refine hK.out _ _ ?_ (fun hHeld => ?_) | (go_wp2_with fail; refine hK.out _ _ ?_ (fun hHeld => ?_)))
     ·try dsimp only
      with_reducible exact ⟨(HP.out _ hL.old).at 0 rfl, (HG.out _ (HB0.out _ hL.old)).1⟩
     clear hK KK hF aa
     repeat (refine isP ?_; refine tkO ?_)
     refine acO fun aa KK hF hK => ?_
     dsimp only [Fa] at hF
     have cc := hL.fix.at 0 rfl; have ff := hL.fix.fr 0 rfl
     go_simp
     clear cc ff
     replace hL := hL.cell 0 (.slice aM (i + 1) cM) (by simp)
     simp only [List.set] at hL
     generalize w2.setCell ⟨gO, 0, none⟩ (.slice aM (i + 1) cM) = WS at *
     (first | refine hK.out undef _ ?_ (fun hHeld => ?_) | (go_wp2_with fail; refine hK.out undef _ ?_ (fun hHeld => ?_)))
     ·try dsimp only
      with_reducible exact ⟨(HP.out _ hL.old).at 0 rfl, (HG.out _ (HB0.out _ hL.old)).1⟩
     clear hK KK hF aa
     refine enO hA ?_
     clear hA; clear hacc
     go_wp2_with fail
     go_roundw
     case rel => exact ⟨i + 1, by omega, by go_num, _, _, _, hL.setRows (fun _ _ => rfl) (fun x hx => by
      by_cases e : x = i
      ·subst e; rw [upd_same]
      ·rw [upd_ne e])⟩
     case measure => simp [intOf]; omega
    refine acO fun aa KK hF hK => ?_
    dsimp only [Fa] at hF
    have hS := Vals.lit (B := 0) w4 (Nat.zero_le _) 27 [.slice aN n cN] (by simp)
    replace hL := hL.alloc (.cells #[.slice aN n cN] 27)
    go_simp
    have hS : Vals 27 (w4.alloc (.cells #[.slice aN n cN] 27)) 0 (.slice (some ⟨w4.heap.size, 0, none⟩) 1 1) [.slice aN n cN] := hS; generalize w4.heap.size = gM at *; generalize w4.alloc (.cells #[.slice aN n cN] 27) = WM at *
    (first | refine hK.out _ _ ?_ (fun hHeld => ?_) | (go_wp2_with fail; refine hK.out _ _ ?_ (fun hHeld => ?_)))
    ·try dsimp only
     with_reducible exact ⟨(HP.out _ hL.old).at 0 rfl, (HG.out _ (HB0.out _ hL.old)).1⟩
    clear hK KK hF aa
    refine acO fun aa KK hF hK => ?_
    dsimp only [Fa] at hF
    have cc := hL.fix.at 0 rfl
    go_simp
    clear cc
    (first | refine hK.out _ _ ?_ (fun hHeld => ?_) | (go_wp2_with fail; refine hK.out _ _ ?_ (fun hHeld => ?_)))
    ·try dsimp only
     with_reducible exact ⟨(HP.out _ hL.old).at 0 rfl, (HG.out _ (HB0.out _ hL.old)).1⟩
    clear hK KK hF aa
    refine acO fun aa KK hF hK => ?_
    dsimp only [Fa] at hF
    refine ifw (by rfl) (step_vals (ops := #[]) (E := True) Tryz.underlying26 info_rats rfl (by decide) (by rfl) (by rfl) (by apply evF; first | exact hF.1 | exact hF.2.1 | exact hF.2.2.1) (by apply evF; first | exact hF.1 | exact hF.2.1 | exact hF.2.2.1) W0.heap.size hL.A hS (fun u hu => by simp at hu; subst hu; rfl) (by simp; omega) hL.old.size ?_)
    intro vA2 w2 e1 e2 e3
    obtain ⟨aM, cM, rfl⟩ : ∃ a c, vA2 = .slice a (i + 1) c := (by obtain ⟨a, c, e, _⟩ := e1.form; simp only [List.length_append, List.length_map, List.length_range, List.length_cons, List.length_nil, Nat.zero_add] at e; exact ⟨a, c, e⟩)
    obtain ⟨lab2, hL2⟩ := hL.pushA e2 e1 e3; have hL := hL2; clear hL2 hS e1 e2 e3
    (first | refine hK.out _ _ ?_ (fun hHeld => ?_) | (go_wp2_with fail; refine hK.out _ _ ?_ (fun hHeld => ?_)))
    ·try dsimp only
     with_reducible exact ⟨(HP.out _ hL.old).at 0 rfl, (HG.out _ (HB0.out _ hL.old)).1⟩
    clear hK KK hF aa
    repeat (refine isP ?_; refine tkO ?_)
    refine acO fun aa KK hF hK => ?_
    dsimp only [Fa] at hF
    have cc := hL.fix.at 0 rfl; have ff := hL.fix.fr 0 rfl
    go_simp
    clear cc ff
    replace hL := hL.cell 0 (.slice aM (i + 1) cM) (by simp)
    simp only [List.set] at hL
    generalize w2.setCell ⟨gO, 0, none⟩ (.slice aM (i + 1) cM) = WS at *
    (first | refine hK.out undef _ ?_ (fun hHeld => ?_) | (go_wp2_with fail; refine hK.out undef _ ?_ (fun hHeld => ?_)))
    ·try dsimp only
     with_reducible exact ⟨(HP.out _ hL.old).at 0 rfl, (HG.out _ (HB0.out _ hL.old)).1⟩
    clear hK KK hF aa
    refine enO hA ?_
    clear hA; clear hacc
    go_wp2_with fail
    go_roundw
    case rel => exact ⟨i + 1, by omega, by go_num, _, _, _, hL.setRows (fun _ _ => rfl) (fun x hx => by
     by_cases e : x = i
     ·subst e; rw [upd_same]
     ·rw [upd_ne e])⟩
    case measure => simp [intOf]; omega
   ·obtain rfl : m = i := by omega
    have hi1 : ¬ (m : Int) < (m : Int) := by omega
    obtain ⟨aM, cM, eA, _⟩ := hL.A.form
    simp only [List.length_map, List.length_range] at eA
    subst eA; have p0 := (HP.out _ hL.old).at 0 rfl; have x0 := hL.fix.at 0 rfl; have x1 := hL.fix.at 1 rfl; have x2 := hL.fix.at 2 rfl; have bR2 := HR.out _ hL.old; have y0 := bR2.at 0 rfl; have y1 := bR2.at 1 rfl; have y2 := bR2.at 2 rfl; have f0 := bR2.fr 0 rfl; have f1 := bR2.fr 1 rfl; have f2 := bR2.fr 2 rfl; have h0 := hL.lab0 hgR; have hLw := hL.base (HB0.out _ (Below.refl _ _))
    go_wp2_with fail
    have bR3 := bR2.put3 (.slice aM m cM) (.slice a8 m c8) (.slice a12 n c12); have z0 := bR3.at 0 rfl; have z1 := bR3.at 1 rfl; have z2 := bR3.at 2 rfl
    refine bodyPost_ret (v := .agg #[.slice aM m cM, .slice a8 m c8, .slice a12 n c12]) (by simp [results, Tryz.results27, go_sem, z0, z1, z2]) rfl ?_
    have hfin := hLw.off (M := fun k => k = gR) ((((Off.refl (fun k => k = gR) wr).set (p := ⟨gR, 0, none⟩) rfl (.slice aM m cM)).set (p := ⟨gR, 1, none⟩) rfl (.slice a8 m c8)).set (p := ⟨gR, 2, none⟩) rfl (.slice a12 n c12)) (fun k hk e => hk (by rw [e]; exact h0)) (fun k hk e => by omega)
    obtain ⟨T, hS, hPt⟩ := hfin.parts
    exact ⟨aM, cM, a8, c8, a12, c12, rfl, rv_, T, hS, hPt⟩
end Go.Proofs.YtinmmkcjjlconaaGreat
