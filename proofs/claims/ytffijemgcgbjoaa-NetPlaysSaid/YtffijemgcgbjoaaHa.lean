/- Plain facts on heaps of waiting copies: a time, a number, a message. -/
namespace Nt
structure Wt where
  time : Int
  number : Int
  fr : Int
  to : Int
  text : ByteArray
def wz : Wt := ⟨0, 0, 0, 0, ⟨#[]⟩⟩
/-- b does not come before a -/
def le (a b : Wt) : Prop := a.time < b.time ∨ a.time = b.time ∧ a.number ≤ b.number
def lessB (a b : Wt) : Bool := decide (a.time < b.time ∨ a.time = b.time ∧ a.number < b.number)
theorem lessB_true {a b : Wt} : lessB a b = true ↔ (a.time < b.time ∨ a.time = b.time ∧ a.number < b.number) := by simp [lessB]
theorem le_of_not_less {a b : Wt} (h : lessB a b = false) : le b a := by
  have : ¬ (a.time < b.time ∨ a.time = b.time ∧ a.number < b.number) := by rw [← lessB_true]; simp [h]
  unfold le; omega
theorem le_of_less {a b : Wt} (h : lessB a b = true) : le a b := by
  have := lessB_true.1 h
  unfold le; omega
theorem le_refl (a : Wt) : le a a := by unfold le; omega
theorem le_trans {a b c : Wt} (h : le a b) (g : le b c) : le a c := by unfold le at *; omega
/-- the element at a place -/
def at' (l : List Wt) (k : Nat) : Wt := l.getD k wz
theorem at_lt {l : List Wt} {k : Nat} (h : k < l.length) : at' l k = l[k] := by simp [at', h]
/-- two elements change their places -/
def swap (l : List Wt) (i j : Nat) : List Wt := (l.set i (at' l j)).set j (at' l i)
theorem swap_len (l : List Wt) (i j : Nat) : (swap l i j).length = l.length := by simp [swap]
theorem at_swap (l : List Wt) (i j k : Nat) (hi : i < l.length) (hj : j < l.length) :
    at' (swap l i j) k = if k = j then at' l i else if k = i then at' l j else at' l k := by
  unfold swap at'
  simp only [List.getD_eq_getElem?_getD]
  by_cases h1 : k = j
  · subst h1; simp [hj]
  · rw [List.getElem?_set_ne (Ne.symm h1), if_neg h1]
    by_cases h2 : k = i
    · subst h2; simp [hi]
    · rw [List.getElem?_set_ne (Ne.symm h2), if_neg h2]
theorem swap_perm (l : List Wt) (i j : Nat) (hi : i < l.length) (hj : j < l.length) : (swap l i j).Perm l := by
  unfold swap
  rw [at_lt hi, at_lt hj]
  exact List.set_set_perm hi hj
/-- parent -/
def par (k : Nat) : Nat := (k - 1) / 2
def Heap (l : List Wt) (n : Nat) : Prop := ∀ k, 0 < k → k < n → le (at' l (par k)) (at' l k)
/-- all is in order but at j, which may be too small -/
def UpI (l : List Wt) (n j : Nat) : Prop := (∀ k, 0 < k → k < n → k ≠ j → le (at' l (par k)) (at' l k)) ∧ (∀ k, 0 < k → k < n → par k = j → 0 < j → le (at' l (par j)) (at' l k))
theorem UpI.start {l : List Wt} {x : Wt} (h : Heap l l.length) : UpI (l ++ [x]) (l.length + 1) l.length := by
  have e : ∀ k, k < l.length → at' (l ++ [x]) k = at' l k := fun k hk => by simp [at', List.getElem?_append_left hk]
  refine ⟨fun k h0 h1 h2 => ?_, fun k h0 h1 h2 _ => ?_⟩
  · rw [e k (by omega), e (par k) (by unfold par; omega)]
    exact h k h0 (by omega)
  · unfold par at h2; omega
theorem UpI.done {l : List Wt} {n j : Nat} (h : UpI l n j) (hd : j = 0 ∨ le (at' l (par j)) (at' l j)) : Heap l n := by
  intro k h0 h1
  by_cases hk : k = j
  · subst hk
    rcases hd with hd | hd
    · omega
    · exact hd
  · exact h.1 k h0 h1 hk
theorem UpI.step {l : List Wt} {n j : Nat} (h : UpI l n j) (hj : j < n) (hn : n ≤ l.length) (h0 : 0 < j) (hl : lessB (at' l j) (at' l (par j)) = true) : UpI (swap l (par j) j) n (par j) := by
  have hp : par j < j := by unfold par; omega
  have hs := fun k => at_swap l (par j) j k (by omega) (by omega)
  have hle := le_of_less hl
  refine ⟨fun k k0 k1 k2 => ?_, fun k k0 k1 k2 k3 => ?_⟩
  · rw [hs k, hs (par k)]
    by_cases hk : k = j
    · subst hk
      rw [if_pos rfl, if_neg (by omega), if_pos rfl]
      exact hle
    · rw [if_neg hk, if_neg k2]
      by_cases hpj : par k = j
      · rw [if_pos hpj]
        exact h.2 k k0 k1 hpj h0
      · rw [if_neg hpj]
        by_cases hpp : par k = par j
        · rw [if_pos hpp]
          exact le_trans hle (by have := h.1 k k0 k1 hk; rwa [hpp] at this)
        · rw [if_neg hpp]
          exact h.1 k k0 k1 hk
  · have hpp : par (par j) < par j := by unfold par at *; omega
    have hkp : k ≠ par j := by intro e; subst e; omega
    rw [hs k, hs (par (par j)), if_neg (by omega), if_neg (by omega)]
    by_cases hk : k = j
    · subst hk
      rw [if_pos rfl]
      exact h.1 (par k) k3 (by omega) (by omega)
    · rw [if_neg hk, if_neg hkp]
      have a := h.1 (par j) k3 (by omega) (by omega)
      have b := h.1 k k0 k1 hk
      rw [k2] at b
      exact le_trans a b
/-- all is in order but at i, which may be too great -/
def DnI (l : List Wt) (n i : Nat) : Prop := (∀ k, 0 < k → k < n → par k ≠ i → le (at' l (par k)) (at' l k)) ∧ (∀ k, 0 < k → k < n → par k = i → 0 < i → le (at' l (par i)) (at' l k))
theorem DnI.done {l : List Wt} {n i : Nat} (h : DnI l n i) (hd : ∀ k, 0 < k → k < n → par k = i → le (at' l i) (at' l k)) : Heap l n := by
  intro k h0 h1
  by_cases hk : par k = i
  · rw [hk]; exact hd k h0 h1 hk
  · exact h.1 k h0 h1 hk
theorem DnI.step {l : List Wt} {n i j : Nat} (h : DnI l n i) (hi : i < n) (hn : n ≤ l.length) (hj : j < n) (hpj : par j = i) (hj0 : 0 < j) (hl : le (at' l j) (at' l i)) (hmin : ∀ k, 0 < k → k < n → par k = i → le (at' l j) (at' l k)) : DnI (swap l i j) n j := by
  have hij : i < j := by unfold par at hpj; omega
  have hs := fun k => at_swap l i j k (by omega) (by omega)
  refine ⟨fun k k0 k1 k2 => ?_, fun k k0 k1 k2 k3 => ?_⟩
  · rw [hs k, hs (par k), if_neg k2]
    by_cases hk : k = j
    · subst hk
      rw [if_pos rfl, if_pos hpj]
      exact hl
    · rw [if_neg hk]
      by_cases hki : k = i
      · subst hki
        have hlt : par k < k := by unfold par; omega
        rw [if_pos rfl, if_neg (by omega)]
        exact h.2 j hj0 hj hpj k0
      · rw [if_neg hki]
        by_cases hpi : par k = i
        · rw [if_pos hpi]; exact hmin k k0 k1 hpi
        · rw [if_neg hpi]; exact h.1 k k0 k1 hpi
  · have hjk : j < k := by unfold par at k2; omega
    rw [hs k, hs (par j), if_neg (by omega), if_pos hpj, if_neg (by omega), if_neg (by omega)]
    have := h.1 k k0 k1 (by omega)
    rwa [k2] at this
theorem DnI.of_heap {l : List Wt} {n : Nat} (h : Heap l (n + 1)) (hn : n + 1 = l.length) : DnI (swap l 0 n) n 0 := by
  have hs := fun k => at_swap l 0 n k (by omega) (by omega)
  refine ⟨fun k k0 k1 k2 => ?_, fun k _ _ _ k3 => by omega⟩
  have hp : par k < k := by unfold par; omega
  rw [hs k, hs (par k), if_neg (by omega), if_neg k2, if_neg (by omega), if_neg (by omega)]
  exact h k k0 (by omega)
/-- the first one of a heap is least -/
theorem Heap.least {l : List Wt} {n : Nat} (h : Heap l n) (k : Nat) (hk : k < n) : le (at' l 0) (at' l k) := by
  induction k using Nat.strongRecOn with
  | _ k ih =>
    by_cases h0 : k = 0
    · subst h0; exact le_refl _
    · have hp : par k < k := by unfold par; omega
      exact le_trans (ih (par k) hp (by omega)) (h k (by omega) hk)
end Nt
