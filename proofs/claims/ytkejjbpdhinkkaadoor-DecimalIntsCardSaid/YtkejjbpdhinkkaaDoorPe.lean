/- Plain facts: sums. -/
import Derived.Test.YtkejjbpdhinkkaaDoorPd
namespace Pl
/-- Add: after k rounds -/
def AI (u v : List Int) (k : Nat) (out : List Int) (c : Int) : Prop :=
  Dig out ∧ out.length = k ∧ 0 ≤ c ∧ c ≤ 1 ∧ dv out + 16777216 ^ k * c = dv (u.take k) + dv (v.take k) ∧ (k ≤ u.length ∨ k ≤ v.length ∨ ((k ≤ u.length + 1 ∨ k ≤ v.length + 1) ∧ c = 0))
theorem AI.start (u v : List Int) : AI u v 0 [] 0 := ⟨Dig.nil, rfl, by omega, by omega, by simp [dv], by omega⟩
theorem AI.succ {u v : List Int} {k : Nat} {out : List Int} {c : Int} (h : AI u v k out c) (hu : Dig u) (hv : Dig v) (hgo : k < u.length ∨ k < v.length ∨ 0 < c) :
    AI u v (k + 1) (out ++ [(c + gd u k + gd v k) % 16777216]) ((c + gd u k + gd v k) / 16777216) := by
  obtain ⟨h1, h2, h3, h4, h5, h6⟩ := h
  have b1 := gd_bound hu k
  have b2 := gd_bound hv k
  have hz : (¬ k < u.length → gd u k = 0) ∧ (¬ k < v.length → gd v k = 0) := ⟨gd_ge, gd_ge⟩
  refine ⟨h1.snoc (by omega) (by omega), by simp [h2], by omega, by omega, ?_, by omega⟩
  rw [dv_snoc, h2, dv_take_gd, dv_take_gd]
  generalize hs : c + gd u k + gd v k = s
  have e : s % 16777216 + 16777216 * (s / 16777216) = s := Int.emod_add_mul_ediv s 16777216
  have e2 : (16777216 : Int) ^ (k + 1) * (s / 16777216) = 16777216 ^ k * (16777216 * (s / 16777216)) := by rw [Int.pow_succ]; grind
  have e3 : (16777216 : Int) ^ k * (s % 16777216) + 16777216 ^ k * (16777216 * (s / 16777216)) = 16777216 ^ k * s := by rw [← Int.mul_add, e]
  have e4 : (16777216 : Int) ^ k * c + 16777216 ^ k * gd u k + 16777216 ^ k * gd v k = 16777216 ^ k * s := by rw [← hs]; grind
  rw [e2]
  omega
theorem AI.done {u v : List Int} {k : Nat} {out : List Int} {c : Int} (h : AI u v k out c) (h1 : ¬ k < u.length) (h2 : ¬ k < v.length) (h3 : ¬ 0 < c) : Dig out ∧ dv out = dv u + dv v := by
  obtain ⟨a1, a2, a3, a4, a5, a6⟩ := h
  refine ⟨a1, ?_⟩
  rw [List.take_of_length_le (by omega), List.take_of_length_le (by omega), show c = 0 by omega] at a5
  omega
theorem digs_len_bv (s : ByteArray) : (digs (bv s)).length ≤ s.size := Nat.le_trans (digs_len_nb _) (nb_bv_size s)
end Pl
