/- Parts of the proofs about this seat's statements. -/
import Derived.Test.YtinmmkcjjlconaaGreatM12l
set_option maxRecDepth 100000
set_option maxHeartbeats 16000000
namespace Go.Proofs.YtinmmkcjjlconaaGreat
open Go.RowKit W
open Pl (nb bv bv_nb nb_size_zero)
open Lp (S S_succ)
def P1 (n : Nat) (T : Lp.Tab) (r s k : Nat) : Lp.Tab := { T with a := fun i x => if i = r ∧ x < n + k then T.a r x / T.a r s else T.a i x }
def P2 (n : Nat) (T : Lp.Tab) (r s i k : Nat) : Lp.Tab := { T with
  a := fun i' x => if i' = r then T.a r x / T.a r s else if i' < i ∨ (i' = i ∧ x < n + k) then T.a i' x - T.a i' s * (T.a r x / T.a r s) else T.a i' x
  b := fun i' => if i' = r then T.b r / T.a r s else if i' < i then T.b i' - T.a i' s * (T.b r / T.a r s) else T.b i' }
section
variable {D : TD} {w : World} {T : Lp.Tab} {bar : Nat → Bool} {r s i k : Nat} {y : Rat}
theorem TM.drew {U : Lp.Tab} (h : TM D w U bar) : TM D w.drew U bar := h.below (Below.refl _ _).drew
theorem TM.alloc {U : Lp.Tab} (h : TM D w U bar) (o : Obj) : TM D (w.alloc o) U bar := h.below ((Below.refl _ _).alloc (Nat.le_refl _) o)
theorem p1_zero (h : TM D w T bar) : TM D w (P1 D.n T r s 0) bar := h.congr (fun i k hi hk => by simp only [P1]; rw [if_neg (by omega)]) (fun _ _ => rfl) (fun _ _ => rfl)
theorem p1_at : (P1 D.n T r s k).a r (D.n + k) = T.a r (D.n + k) := by simp only [P1]; rw [if_neg (by omega)]
theorem p1_step (hy : y = T.a r (D.n + k) / T.a r s) (h : TM D w { P1 D.n T r s k with a := fun i' x => if i' = r ∧ x = D.n + k then y else (P1 D.n T r s k).a i' x } bar) : TM D w (P1 D.n T r s (k + 1)) bar :=
 h.congr (fun i x hi hx => by
  simp only [P1]
  by_cases e : i = r
  ·subst e
   by_cases e2 : x = k
   ·subst e2; rw [if_pos ⟨rfl, rfl⟩, if_pos ⟨rfl, by omega⟩, hy]
   ·rw [if_neg (by omega)]
    by_cases e3 : x < k
    ·rw [if_pos ⟨rfl, by omega⟩, if_pos ⟨rfl, by omega⟩]
    ·rw [if_neg (by omega), if_neg (by omega)]
  ·rw [if_neg (fun h => e h.1), if_neg (fun h => e h.1), if_neg (fun h => e h.1)]) (fun _ _ => rfl) (fun _ _ => rfl)
theorem p2_zero (hy : y = T.b r / T.a r s) (h : TM D w { P1 D.n T r s D.m with b := fun i' => if i' = r then y else (P1 D.n T r s D.m).b i' } bar) : TM D w (P2 D.n T r s 0 0) bar :=
 h.congr (fun i x hi hx => by
  simp only [P1, P2]
  by_cases e : i = r
  ·subst e; rw [if_pos ⟨rfl, by omega⟩, if_pos rfl]
  ·rw [if_neg (fun h => e h.1), if_neg e, if_neg (by omega)])
  (fun i hi => by
   simp only [P1, P2]
   by_cases e : i = r
   ·rw [if_pos e, if_pos e, hy]
   ·rw [if_neg e, if_neg e, if_neg (by omega)]) (fun _ _ => rfl)
theorem p2_skip (hs : i = r ∨ T.a i s = 0) (h : TM D w (P2 D.n T r s i 0) bar) : TM D w (P2 D.n T r s (i + 1) 0) bar :=
 h.congr (fun i' x hi hx => by
  simp only [P2]
  by_cases e : i' = r
  ·rw [if_pos e, if_pos e]
  ·rw [if_neg e, if_neg e]
   by_cases e2 : i' = i
   ·subst e2
    rw [if_neg (by omega), if_pos (by omega), hs.resolve_left e, Rat.zero_mul, Rat.sub_eq_add_neg, Rat.neg_zero, Rat.add_zero]
   ·by_cases e3 : i' < i
    ·rw [if_pos (by omega), if_pos (by omega)]
    ·rw [if_neg (by omega), if_neg (by omega)])
  (fun i' hi => by
   simp only [P2]
   by_cases e : i' = r
   ·rw [if_pos e, if_pos e]
   ·rw [if_neg e, if_neg e]
    by_cases e2 : i' = i
    ·subst e2
     rw [if_neg (by omega), if_pos (by omega), hs.resolve_left e, Rat.zero_mul, Rat.sub_eq_add_neg, Rat.neg_zero, Rat.add_zero]
    ·by_cases e3 : i' < i
     ·rw [if_pos (by omega), if_pos (by omega)]
     ·rw [if_neg (by omega), if_neg (by omega)]) (fun _ _ => rfl)
theorem p2_row {y' : Nat} : (P2 D.n T r s i k).a r (D.n + y') = T.a r (D.n + y') / T.a r s := if_pos rfl
theorem p2_at (hir : i ≠ r) : (P2 D.n T r s i k).a i (D.n + k) = T.a i (D.n + k) := by
 simp only [P2]; rw [if_neg hir, if_neg (by omega)]
theorem p2_bat (hir : i ≠ r) : (P2 D.n T r s i k).b i = T.b i := by
 simp only [P2]; rw [if_neg hir, if_neg (by omega)]
theorem p2_br : (P2 D.n T r s i k).b r = T.b r / T.a r s := if_pos rfl
theorem p2_elem0 (hir : i ≠ r) (hz : T.a r (D.n + k) / T.a r s = 0) (h : TM D w (P2 D.n T r s i k) bar) : TM D w (P2 D.n T r s i (k + 1)) bar :=
 h.congr (fun i' x hi hx => by
  simp only [P2]
  by_cases e : i' = r
  ·rw [if_pos e, if_pos e]
  ·rw [if_neg e, if_neg e]
   by_cases e2 : i' = i ∧ x = k
   ·obtain ⟨rfl, rfl⟩ := e2
    rw [if_neg (by omega), if_pos (by omega), hz, Rat.mul_zero, Rat.sub_eq_add_neg, Rat.neg_zero, Rat.add_zero]
   ·by_cases e3 : i' < i ∨ (i' = i ∧ D.n + x < D.n + k)
    ·rw [if_pos e3, if_pos (by omega)]
    ·rw [if_neg e3, if_neg (by omega)]) (fun _ _ => rfl) (fun _ _ => rfl)
theorem p2_elem (hir : i ≠ r) (hy : y = T.a i (D.n + k) - T.a i s * (T.a r (D.n + k) / T.a r s)) (h : TM D w { P2 D.n T r s i k with a := fun i' x => if i' = i ∧ x = D.n + k then y else (P2 D.n T r s i k).a i' x } bar) : TM D w (P2 D.n T r s i (k + 1)) bar :=
 h.congr (fun i' x hi hx => by
  simp only [P2]
  by_cases e2 : i' = i ∧ x = k
  ·obtain ⟨rfl, rfl⟩ := e2
   rw [if_pos ⟨rfl, rfl⟩, if_neg hir, if_pos (by omega), hy]
  ·rw [if_neg (by omega)]
   by_cases e : i' = r
   ·rw [if_pos e, if_pos e]
   ·rw [if_neg e, if_neg e]
    by_cases e3 : i' < i ∨ (i' = i ∧ D.n + x < D.n + k)
    ·rw [if_pos e3, if_pos (by omega)]
    ·rw [if_neg e3, if_neg (by omega)]) (fun _ _ => rfl) (fun _ _ => rfl)
theorem p2_next (hir : i ≠ r) (hy : y = T.b i - T.a i s * (T.b r / T.a r s)) (h : TM D w { P2 D.n T r s i D.m with b := fun i' => if i' = i then y else (P2 D.n T r s i D.m).b i' } bar) : TM D w (P2 D.n T r s (i + 1) 0) bar :=
 h.congr (fun i' x hi hx => by
  simp only [P2]
  by_cases e : i' = r
  ·rw [if_pos e, if_pos e]
  ·rw [if_neg e, if_neg e]
   by_cases e3 : i' < i + 1
   ·rw [if_pos (by omega), if_pos (by omega)]
   ·rw [if_neg (by omega), if_neg (by omega)])
  (fun i' hi => by
   simp only [P2]
   by_cases e2 : i' = i
   ·subst e2; rw [if_pos rfl, if_neg hir, if_pos (by omega), hy]
   ·rw [if_neg e2]
    by_cases e : i' = r
    ·rw [if_pos e, if_pos e]
    ·rw [if_neg e, if_neg e]
     by_cases e3 : i' < i
     ·rw [if_pos (by omega), if_pos (by omega)]
     ·rw [if_neg (by omega), if_neg (by omega)]) (fun _ _ => rfl)
theorem p2_end (h : TM D w { P2 D.n T r s D.m 0 with bas := fun i => if i = r then s else (P2 D.n T r s D.m 0).bas i } bar) : TM D w (Lp.pivot T r s) bar :=
 h.congr (fun i x hi hx => by
  simp only [P2, Lp.pivot]
  by_cases e : i = r
  ·rw [if_pos e, if_pos e]
  ·rw [if_neg e, if_neg e, if_pos (by omega)])
  (fun i hi => by
   simp only [P2, Lp.pivot]
   by_cases e : i = r
   ·rw [if_pos e, if_pos e]
   ·rw [if_neg e, if_neg e, if_pos (by omega)])
  (fun i hi => by simp only [P2, Lp.pivot])
end
end Go.Proofs.YtinmmkcjjlconaaGreat
