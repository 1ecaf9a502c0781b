/- Plain facts: a certificate for a prime number, and the power of a number that it does not divide. -/
namespace Pf
/-- a prime number -/
def Pr (n : Nat) : Prop := 2 ≤ n ∧ ∀ d, d ∣ n → d = 1 ∨ d = n
theorem Pr.coprime {p a : Nat} (hp : Pr p) (h : ¬ p ∣ a) : Nat.Coprime p a := by
  rcases hp.2 (Nat.gcd p a) (Nat.gcd_dvd_left _ _) with h1 | h1
  · exact h1
  · exact absurd (h1 ▸ Nat.gcd_dvd_right p a) h
theorem Pr.dvd_mul {p a b : Nat} (hp : Pr p) (h : p ∣ a * b) : p ∣ a ∨ p ∣ b := by
  by_cases ha : p ∣ a
  · exact .inl ha
  · exact .inr ((hp.coprime ha).dvd_of_dvd_mul_left h)
theorem Pr.mem {q : Nat} (hq : Pr q) : ∀ (L : List Nat), (∀ p ∈ L, Pr p) → q ∣ L.foldr (· * ·) 1 → q ∈ L
  | [], _, h => by
    have : q = 1 := Nat.dvd_one.1 (by simpa using h)
    have := hq.1; omega
  | p :: L, hL, h => by
    rcases hq.dvd_mul (by simpa using h) with h1 | h1
    · rcases (hL p (.head _)).2 q h1 with e | e
      · have := hq.1; omega
      · rw [e]; exact .head _
    · exact .tail _ (Pr.mem hq L (fun p hp => hL p (.tail _ hp)) h1)
theorem exists_prime (n : Nat) (h : 2 ≤ n) : ∃ p, Pr p ∧ p ∣ n := by
  induction n using Nat.strongRecOn with
  | _ n ih =>
    by_cases hp : Pr n
    · exact ⟨n, hp, Nat.dvd_refl _⟩
    · have : ∃ d, d ∣ n ∧ d ≠ 1 ∧ d ≠ n := Classical.byContradiction fun hc => hp ⟨h, fun d hd => Classical.byContradiction fun hn => hc ⟨d, hd, fun e => hn (.inl e), fun e => hn (.inr e)⟩⟩
      obtain ⟨d, hd, h1, h2⟩ := this
      have hle := Nat.le_of_dvd (by omega) hd
      have h0 : d ≠ 0 := by rintro rfl; have := Nat.eq_zero_of_zero_dvd hd; omega
      obtain ⟨p, hp, hpd⟩ := ih d (by omega) (by omega)
      exact ⟨p, hp, Nat.dvd_trans hpd hd⟩
theorem surj_of_inj : ∀ (N : Nat) (f : Nat → Nat), (∀ i, i < N → f i < N) → (∀ i j, i < N → j < N → f i = f j → i = j) → ∀ a, a < N → ∃ i, i < N ∧ f i = a
  | 0, _, _, _, a, h => by omega
  | N + 1, f, hlt, hinj, a, ha => by
    have hv := hlt N (by omega)
    have hne : ∀ i, i < N → f i ≠ f N := fun i hi e => by have := hinj i N (by omega) (by omega) e; omega
    have key := surj_of_inj N (fun i => if f i = N then f N else f i)
      (fun i hi => by
        have h1 := hlt i (by omega)
        have h2 := hne i hi
        split <;> omega)
      (fun i j hi hj e => by
        have h1 := hne i hi
        have h2 := hne j hj
        try dsimp only at e
        split at e <;> split at e
        · exact hinj i j (by omega) (by omega) (by omega)
        · omega
        · omega
        · exact hinj i j (by omega) (by omega) e)
    by_cases e1 : a = f N
    · exact ⟨N, by omega, e1.symm⟩
    by_cases e2 : a = N
    · obtain ⟨i, hi, h⟩ := key (f N) (by omega)
      try dsimp only at h
      split at h
      · next h3 => exact ⟨i, by omega, by omega⟩
      · exact absurd h (hne i hi)
    · obtain ⟨i, hi, h⟩ := key a (by omega)
      try dsimp only at h
      split at h
      · omega
      · exact ⟨i, by omega, h⟩
theorem pow_add_mod {g n i j : Nat} (hi : g ^ i % n = 1) : g ^ (i + j) % n = g ^ j % n := by
  rw [Nat.pow_add, Nat.mul_mod, hi, Nat.one_mul, Nat.mod_mod]
theorem pow_mul_one {g n i : Nat} (hi : g ^ i % n = 1) (hn : 2 ≤ n) (k : Nat) : g ^ (i * k) % n = 1 := by
  rw [Nat.pow_mul, Nat.pow_mod, hi, Nat.one_pow, Nat.mod_eq_of_lt (by omega)]
/-- no power below n - 1 is 1 -/
theorem order {n g : Nat} (hn : 2 ≤ n) (L : List Nat) (hg : g ^ (n - 1) % n = 1) (hcov : ∀ q, Pr q → q ∣ n - 1 → q ∈ L) (hL : ∀ q ∈ L, g ^ ((n - 1) / q) % n ≠ 1) :
    ∀ m, 0 < m → m < n - 1 → g ^ m % n ≠ 1 := by
  intro m
  induction m using Nat.strongRecOn with
  | _ m ih =>
    intro h0 hlt hm
    have hdiv : m ∣ n - 1 := by
      apply Nat.dvd_of_mod_eq_zero
      apply Classical.byContradiction
      intro hr
      have hrl := Nat.mod_lt (n - 1) h0
      refine ih ((n - 1) % m) hrl (by omega) (by omega) ?_
      have e := pow_add_mod (g := g) (j := (n - 1) % m) (pow_mul_one hm hn ((n - 1) / m))
      rw [Nat.div_add_mod] at e
      exact e.symm.trans hg
    obtain ⟨k, hk⟩ := hdiv
    have hk2 : 2 ≤ k := by
      rcases Nat.lt_or_ge k 2 with h | h
      · have : k = 0 ∨ k = 1 := by omega
        rcases this with rfl | rfl
        · omega
        · omega
      · exact h
    obtain ⟨q, hq, j, hj⟩ := exists_prime k hk2
    have hqd : q ∣ n - 1 := ⟨m * j, by rw [hk, hj]; grind⟩
    refine hL q (hcov q hq hqd) ?_
    have hq0 := hq.1
    have e : (n - 1) / q = m * j := by
      rw [hk, hj]
      rw [show m * (q * j) = (m * j) * q by grind]
      exact Nat.mul_div_cancel _ (by omega)
    rw [e]
    exact pow_mul_one hm hn j
/-- every number that is no multiple is a power -/
theorem every {n g : Nat} (hn : 2 ≤ n) (hg : g ^ (n - 1) % n = 1) (ho : ∀ m, 0 < m → m < n - 1 → g ^ m % n ≠ 1) (a : Nat) (ha : a % n ≠ 0) : ∃ i, g ^ i % n = a % n := by
  have hnz : ∀ i, i < n - 1 → g ^ i % n ≠ 0 := by
    intro i hi h
    have : g ^ (n - 1) % n = 0 := by
      rw [show n - 1 = i + (n - 1 - i) by omega, Nat.pow_add, Nat.mul_mod, h, Nat.zero_mul, Nat.zero_mod]
    omega
  have hinj : ∀ i j, i < j → j < n - 1 → g ^ i % n ≠ g ^ j % n := by
    intro i j hij hj e
    refine ho (i + (n - 1 - j)) (by omega) (by omega) ?_
    rw [Nat.pow_add, Nat.mul_mod, e, ← Nat.mul_mod, ← Nat.pow_add, show j + (n - 1 - j) = n - 1 by omega]
    exact hg
  have hm := Nat.mod_lt a (show n > 0 by omega)
  obtain ⟨i, hi, h⟩ := surj_of_inj (n - 1) (fun i => g ^ i % n - 1)
    (fun i hi => by have := hnz i hi; have := Nat.mod_lt (g ^ i) (show n > 0 by omega); omega)
    (fun i j hi hj e => by
      have h1 := hnz i hi
      have h2 := hnz j hj
      try dsimp only at e
      have e2 : g ^ i % n = g ^ j % n := by omega
      rcases Nat.lt_trichotomy i j with h | h | h
      · exact absurd e2 (hinj i j h hj)
      · exact h
      · exact absurd e2.symm (hinj j i h hi))
    (a % n - 1) (by omega)
  refine ⟨i, ?_⟩
  have := hnz i hi
  try dsimp only at h
  omega
theorem fermat_of {n g : Nat} (hn : 2 ≤ n) (L : List Nat) (hg : g ^ (n - 1) % n = 1) (hcov : ∀ q, Pr q → q ∣ n - 1 → q ∈ L) (hL : ∀ q ∈ L, g ^ ((n - 1) / q) % n ≠ 1) (a : Nat) (ha : a % n ≠ 0) : a ^ (n - 1) % n = 1 := by
  obtain ⟨i, hi⟩ := every hn hg (order hn L hg hcov hL) a ha
  rw [Nat.pow_mod, ← hi, ← Nat.pow_mod, ← Nat.pow_mul, Nat.mul_comm]
  exact pow_mul_one hg hn i
theorem prime_of {n g : Nat} (hn : 2 ≤ n) (L : List Nat) (hg : g ^ (n - 1) % n = 1) (hcov : ∀ q, Pr q → q ∣ n - 1 → q ∈ L) (hL : ∀ q ∈ L, g ^ ((n - 1) / q) % n ≠ 1) : Pr n := by
  refine ⟨hn, fun d hd => ?_⟩
  have hle := Nat.le_of_dvd (by omega) hd
  rcases Nat.lt_or_ge d n with h | h
  · have h0 : d ≠ 0 := by rintro rfl; have := Nat.eq_zero_of_zero_dvd hd; omega
    have e := fermat_of hn L hg hcov hL d (by rw [Nat.mod_eq_of_lt h]; exact h0)
    left
    have h1 : d ∣ d ^ (n - 1) := ⟨d ^ (n - 1 - 1), by rw [← Nat.pow_succ']; congr 1; omega⟩
    have h2 : d ∣ d ^ (n - 1) % n := (Nat.dvd_mod_iff hd).2 h1
    rw [e] at h2
    exact Nat.dvd_one.1 h2
  · right; omega
/-- powers by squaring -/
def pm (n : Nat) : Nat → Nat → Nat → Nat
  | 0, _, _ => 1 % n
  | k + 1, e, b => if e % 2 = 0 then pm n k (e / 2) (b * b % n) else b * pm n k (e / 2) (b * b % n) % n
theorem pm_eq (n : Nat) : ∀ k e b, e < 2 ^ k → pm n k e b = b ^ e % n
  | 0, e, b, h => by
    have : e = 0 := by simpa using h
    subst this; simp [pm]
  | k + 1, e, b, h => by
    have hk : e / 2 < 2 ^ k := by rw [Nat.pow_succ] at h; omega
    have e1 : (b * b % n) ^ (e / 2) % n = b ^ (2 * (e / 2)) % n := by rw [← Nat.pow_mod, Nat.pow_mul, Nat.pow_two]
    unfold pm
    rw [pm_eq n k _ _ hk, e1]
    split
    · next h2 => rw [show 2 * (e / 2) = e by omega]
    · next h2 =>
      rw [Nat.mul_mod, Nat.mod_mod, ← Nat.mul_mod, ← Nat.pow_succ']
      rw [show (2 * (e / 2)).succ = e by omega]
def smallB (n : Nat) : Bool := decide (2 ≤ n) && (List.range n).all fun d => decide (d < 2) || decide (n % d ≠ 0)
theorem small {n : Nat} (h : smallB n = true) : Pr n := by
  simp only [smallB, Bool.and_eq_true, decide_eq_true_eq, List.all_eq_true, List.mem_range, Bool.or_eq_true] at h
  refine ⟨h.1, fun d hd => ?_⟩
  have hle := Nat.le_of_dvd (by omega) hd
  rcases Nat.lt_or_ge d n with h1 | h1
  · rcases h.2 d h1 with h2 | h2
    · have h0 : d ≠ 0 := by rintro rfl; have := Nat.eq_zero_of_zero_dvd hd; omega
      omega
    · exact absurd (Nat.mod_eq_zero_of_dvd hd) h2
  · omega
def certB (n g : Nat) (L : List Nat) : Bool := decide (2 ≤ n) && decide (n < 2 ^ 64) && decide (L.foldr (· * ·) 1 = n - 1) && decide (pm n 64 (n - 1) g = 1) && L.all fun q => decide (pm n 64 ((n - 1) / q) g ≠ 1)
theorem cert_parts {n g : Nat} {L : List Nat} (h : certB n g L = true) (hp : ∀ q ∈ L, Pr q) : 2 ≤ n ∧ g ^ (n - 1) % n = 1 ∧ (∀ q, Pr q → q ∣ n - 1 → q ∈ L) ∧ ∀ q ∈ L, g ^ ((n - 1) / q) % n ≠ 1 := by
  simp only [certB, Bool.and_eq_true, decide_eq_true_eq, List.all_eq_true] at h
  obtain ⟨⟨⟨⟨h1, h2⟩, h3⟩, h4⟩, h5⟩ := h
  rw [pm_eq n 64 _ _ (by omega)] at h4
  refine ⟨h1, h4, fun q hq hd => hq.mem L hp (by rw [h3]; exact hd), fun q hq => ?_⟩
  have := h5 q hq
  rw [pm_eq n 64 _ _ (Nat.lt_of_le_of_lt (Nat.div_le_self _ _) (by omega))] at this
  exact this
theorem cert {n g : Nat} {L : List Nat} (h : certB n g L = true) (hp : ∀ q ∈ L, Pr q) : Pr n := by
  obtain ⟨a, b, c, d⟩ := cert_parts h hp
  exact prime_of a L b c d
theorem p2 : Pr 2 := small (by decide +kernel)
theorem p3 : Pr 3 := small (by decide +kernel)
theorem p7 : Pr 7 := small (by decide +kernel)
theorem p19 : Pr 19 := small (by decide +kernel)
theorem p53 : Pr 53 := small (by decide +kernel)
theorem p449 : Pr 449 := small (by decide +kernel)
theorem p751 : Pr 751 := small (by decide +kernel)
theorem p5639 : Pr 5639 := small (by decide +kernel)
theorem p8469779 : Pr 8469779 := cert (g := 2) (L := [2, 751, 5639]) (by decide +kernel) (by simp [p2, p751, p5639])
theorem p95189 : Pr 95189 := cert (g := 2) (L := [2, 2, 53, 449]) (by decide +kernel) (by simp [p2, p53, p449])
theorem p2835870689 : Pr 2835870689 := cert (g := 6) (L := [2, 2, 2, 2, 2, 7, 7, 19, 95189]) (by decide +kernel) (by simp [p2, p7, p19, p95189])
theorem p5671741379 : Pr 5671741379 := cert (g := 2) (L := [2, 2835870689]) (by decide +kernel) (by simp [p2, p2835870689])
theorem pr : Pr 288230376151711447 := cert (g := 6) (L := [2, 3, 8469779, 5671741379]) (by decide +kernel) (by simp [p2, p3, p8469779, p5671741379])
theorem pq : Pr 1152921504606845789 := cert (g := 2) (L := [2, 2, 288230376151711447]) (by decide +kernel) (by simp [p2, pr])
/-- the law's prime: the power of a number that it does not divide -/
theorem fermat {P : Nat} (hP : P = 2305843009213691579) (a : Nat) (ha : a % P ≠ 0) : a ^ (P - 1) % P = 1 := by
  obtain ⟨h1, h2, h3, h4⟩ := cert_parts (n := P) (g := 2) (L := [2, 1152921504606845789]) (by rw [hP]; decide +kernel) (by simp [p2, pq])
  exact fermat_of h1 _ h2 h3 h4 a ha
end Pf
