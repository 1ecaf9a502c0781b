/- heap.down. -/
import Derived.Test.YtffijemgcgbjoaaHe
namespace Go.Proofs.Ytffijemgcgbjoaa
open Go.RowKit Nt

/-- the first n elements change places, the others stay -/
def PermTo (n : Nat) (l' l : List Wt) : Prop := l'.length = l.length ∧ (l'.take n).Perm (l.take n) ∧ l'.drop n = l.drop n
theorem PermTo.refl (n : Nat) (l : List Wt) : PermTo n l l := ⟨rfl, .refl _, rfl⟩
theorem at_take {l : List Wt} {n k : Nat} (h : k < n) : at' (l.take n) k = at' l k := by simp [at', h]
theorem PermTo.swap {n : Nat} {l l' : List Wt} (h : PermTo n l' l) {i j : Nat} (hi : i < n) (hj : j < n) (hn : n ≤ l'.length) : PermTo n (Nt.swap l' i j) l := by
  refine ⟨by rw [swap_len]; exact h.1, ?_, ?_⟩
  · have e : (Nt.swap l' i j).take n = Nt.swap (l'.take n) i j := by
      unfold Nt.swap; rw [List.take_set, List.take_set, at_take hi, at_take hj]
    rw [e]
    exact (swap_perm _ i j (by simp; omega) (by simp; omega)).trans h.2.1
  · rw [← h.2.2]; unfold Nt.swap
    rw [List.drop_set_of_lt hj, List.drop_set_of_lt hi]

set_option maxRecDepth 100000 in
set_option maxHeartbeats 4000000 in
theorem down_any (l : List Wt) (v : Value) (gq g n : Nat) (w : World) (hq : QAt w gq v l) (hv : v.ownBlock = some g) (hn : n ≤ l.length) (hs : l.length ≤ 1000000) (hu : DnI l n 0) :
    Calls Try.prog 29 #[.iface 69 (.pointer (some ⟨gq, 0, none⟩)), .int .i64 0, .int .i64 n] w fun e w' => (∃ b : Value, e = .returned b) ∧ ∃ l', PermTo n l' l ∧ Heap l' n ∧ QAt w' gq v l' ∧ Only [g] w w' := by
  go_enter Try.func29, Try.ntmps29
  go_wp2_with fail
  go_loopw [7] (fun iv wr => ∃ (l' : List Wt) (k : Nat), PermTo n l' l ∧ l'.length = l.length ∧ (k = 0 ∨ k < n) ∧ DnI l' n k ∧ QAt wr gq v l' ∧ iv = .int .i64 k ∧ Only [g] w wr) (fun iv _ => n - (intOf iv).toNat)
  case atStart => exact ⟨l, 0, .refl _ _, rfl, .inl rfl, hu, hq, rfl, Only.refl _ _⟩
  case round =>
    obtain ⟨l', k, hp, hlen, hk, hu', hq', rfl, ho⟩ := hrel
    have HP := Lib.hid hp
    clear hp
    have hk3 : k ≤ 1000000 := by omega
    obtain ⟨m, hm⟩ : ∃ m : Nat, m = 2 * k + 1 := ⟨_, rfl⟩
    have hmi : 2 * (k : Int) + 1 = (m : Int) := by omega
    have hm0 : ¬ (m : Int) < 0 := by omega
    have HM := Lib.hid hm
    have HK := Lib.hid hk
    clear hm hk
    by_cases h1 : n ≤ m
    · go_wp2_with fail
      go_ret
      exact ⟨⟨_, rfl⟩, l', HP.out, hu'.done (fun k' a b c => by have := HM.out; unfold par at c; omega), hq', ho⟩
    · have hml := m_less ⟨gq, 0, none⟩ v wr hq'.cell
      have h1' : m < n := by omega
      obtain ⟨m2, hm2⟩ : ∃ m2 : Nat, m2 = m + 1 := ⟨_, rfl⟩
      have hmi2 : (m : Int) + 1 = (m2 : Int) := by omega
      have hk2 : k < m := by have := HM.out; omega
      have HM2 := Lib.hid hm2
      clear hm2
      by_cases h2 : m2 < n
      · have hm2a : m < m2 := by have := HM2.out; omega
        by_cases hc : lessB (at' l' m2) (at' l' m) = true
        · have hmin : ∀ k', 0 < k' → k' < n → par k' = k → le (at' l' m2) (at' l' k') := fun k' a b c => by rcases (show k' = m ∨ k' = m2 by have := HM.out; have := HM2.out; unfold par at c; omega) with rfl | rfl <;> first | exact le_of_less hc | exact le_refl _
          by_cases hl : lessB (at' l' m2) (at' l' k) = true
          · go_wp2_with (first | (go_at_call 50; refine (swap_any l' v 0 k m2 wa qa.row (by omega) (by omega)).mono ?_; rintro e wb ⟨rfl, hr, hos⟩) | (have _t := hw1; go_at_call 47; refine (less_any l' v 0 m2 k w1 q1.row (by omega) (by omega)).mono ?_; rw [hl]; rintro e wa ⟨rfl, hwa⟩; have qa := q1.below hwa; have hmwa := m_swap ⟨gq, 0, none⟩ v wa qa.cell) | (go_at_call 47; refine (less_any l' v 0 m2 m wr hq'.row (by omega) (by omega)).mono ?_; rw [hc]; rintro e w1 ⟨rfl, hw1⟩; have q1 := hq'.below hw1; have hmw1 := m_less ⟨gq, 0, none⟩ v w1 q1.cell))
            have hq2 := qa.swapped hv (hos g hv) hr
            go_roundw
            case rel => exact ⟨_, m2, HP.out.swap (by omega) (by omega) (by omega), by rw [swap_len]; exact hlen, by omega, hu'.step (by omega) (by omega) (by omega) (by have := HM.out; have := HM2.out; unfold par; omega) (by omega) (le_of_less hl) hmin, hq2, rfl, ((ho.trans (Only.of_below hw1)).trans (Only.of_below hwa)).trans (hos g hv)⟩
            case measure => simp [intOf]; omega
          · have hl' : lessB (at' l' m2) (at' l' k) = false := by simpa using hl
            go_wp2_with (first | (have _t := hw1; go_at_call 47; refine (less_any l' v 0 m2 k w1 q1.row (by omega) (by omega)).mono ?_; rw [hl']; rintro e wa ⟨rfl, hwa⟩; have qa := q1.below hwa; have hmwa := m_swap ⟨gq, 0, none⟩ v wa qa.cell) | (go_at_call 47; refine (less_any l' v 0 m2 m wr hq'.row (by omega) (by omega)).mono ?_; rw [hc]; rintro e w1 ⟨rfl, hw1⟩; have q1 := hq'.below hw1; have hmw1 := m_less ⟨gq, 0, none⟩ v w1 q1.cell))
            go_ret
            exact ⟨⟨_, rfl⟩, l', HP.out, hu'.done (fun k' a b c => le_trans (le_of_not_less hl') (hmin k' a b c)), qa, (ho.trans (Only.of_below hw1)).trans (Only.of_below hwa)⟩
        · have hc' : lessB (at' l' m2) (at' l' m) = false := by simpa using hc
          have hmin : ∀ k', 0 < k' → k' < n → par k' = k → le (at' l' m) (at' l' k') := fun k' a b c => by rcases (show k' = m ∨ k' = m2 by have := HM.out; have := HM2.out; unfold par at c; omega) with rfl | rfl <;> first | exact le_of_not_less hc' | exact le_refl _
          by_cases hl : lessB (at' l' m) (at' l' k) = true
          · go_wp2_with (first | (go_at_call 50; refine (swap_any l' v 0 k m wa qa.row (by omega) (by omega)).mono ?_; rintro e wb ⟨rfl, hr, hos⟩) | (have _t := hw1; go_at_call 47; refine (less_any l' v 0 m k w1 q1.row (by omega) (by omega)).mono ?_; rw [hl]; rintro e wa ⟨rfl, hwa⟩; have qa := q1.below hwa; have hmwa := m_swap ⟨gq, 0, none⟩ v wa qa.cell) | (go_at_call 47; refine (less_any l' v 0 m2 m wr hq'.row (by omega) (by omega)).mono ?_; rw [hc']; rintro e w1 ⟨rfl, hw1⟩; have q1 := hq'.below hw1; have hmw1 := m_less ⟨gq, 0, none⟩ v w1 q1.cell))
            have hq2 := qa.swapped hv (hos g hv) hr
            go_roundw
            case rel => exact ⟨_, m, HP.out.swap (by omega) (by omega) (by omega), by rw [swap_len]; exact hlen, by omega, hu'.step (by omega) (by omega) (by omega) (by have := HM.out; have := HM2.out; unfold par; omega) (by omega) (le_of_less hl) hmin, hq2, rfl, ((ho.trans (Only.of_below hw1)).trans (Only.of_below hwa)).trans (hos g hv)⟩
            case measure => simp [intOf]; omega
          · have hl' : lessB (at' l' m) (at' l' k) = false := by simpa using hl
            go_wp2_with (first | (have _t := hw1; go_at_call 47; refine (less_any l' v 0 m k w1 q1.row (by omega) (by omega)).mono ?_; rw [hl']; rintro e wa ⟨rfl, hwa⟩; have qa := q1.below hwa; have hmwa := m_swap ⟨gq, 0, none⟩ v wa qa.cell) | (go_at_call 47; refine (less_any l' v 0 m2 m wr hq'.row (by omega) (by omega)).mono ?_; rw [hc']; rintro e w1 ⟨rfl, hw1⟩; have q1 := hq'.below hw1; have hmw1 := m_less ⟨gq, 0, none⟩ v w1 q1.cell))
            go_ret
            exact ⟨⟨_, rfl⟩, l', HP.out, hu'.done (fun k' a b c => le_trans (le_of_not_less hl') (hmin k' a b c)), qa, (ho.trans (Only.of_below hw1)).trans (Only.of_below hwa)⟩
      · have hmin : ∀ k', 0 < k' → k' < n → par k' = k → le (at' l' m) (at' l' k') := fun k' a b c => by rcases (show k' = m ∨ k' = m2 by have := HM.out; have := HM2.out; unfold par at c; omega) with rfl | rfl <;> first | exact le_refl _ | omega
        by_cases hl : lessB (at' l' m) (at' l' k) = true
        · go_wp2_with (first | (go_at_call 50; refine (swap_any l' v 0 k m wa qa.row (by omega) (by omega)).mono ?_; rintro e wb ⟨rfl, hr, hos⟩) | (go_at_call 47; refine (less_any l' v 0 m k wr hq'.row (by omega) (by omega)).mono ?_; rw [hl]; rintro e wa ⟨rfl, hwa⟩; have qa := hq'.below hwa; have hmwa := m_swap ⟨gq, 0, none⟩ v wa qa.cell))
          have hq2 := qa.swapped hv (hos g hv) hr
          go_roundw
          case rel => exact ⟨_, m, HP.out.swap (by omega) (by omega) (by omega), by rw [swap_len]; exact hlen, by omega, hu'.step (by omega) (by omega) (by omega) (by have := HM.out; have := HM2.out; unfold par; omega) (by omega) (le_of_less hl) hmin, hq2, rfl, (ho.trans (Only.of_below hwa)).trans (hos g hv)⟩
          case measure => simp [intOf]; omega
        · have hl' : lessB (at' l' m) (at' l' k) = false := by simpa using hl
          go_wp2_with (first | (go_at_call 47; refine (less_any l' v 0 m k wr hq'.row (by omega) (by omega)).mono ?_; rw [hl']; rintro e wa ⟨rfl, hwa⟩; have qa := hq'.below hwa; have hmwa := m_swap ⟨gq, 0, none⟩ v wa qa.cell))
          go_ret
          exact ⟨⟨_, rfl⟩, l', HP.out, hu'.done (fun k' a b c => le_trans (le_of_not_less hl') (hmin k' a b c)), qa, ho.trans (Only.of_below hwa)⟩
end Go.Proofs.Ytffijemgcgbjoaa
