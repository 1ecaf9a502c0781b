/- Plain facts: the decimals of the reference: a sign, a natural number, a scale. -/
import Derived.Test.YtkejjbpdhinkkaaDoorQi
namespace Pl
open Go.Lib
def sg (b : Bool) : Int := if b = true then -1 else 1
theorem sg_true : sg true = -1 := rfl
theorem sg_false : sg false = 1 := rfl
theorem sg_abs (n : Int) : sg (decide (n < 0)) * (n.natAbs : Int) = n := by
  by_cases h : n < 0
  · simp [h, sg]; omega
  · simp [h, sg]; omega
theorem rfit_step {b : Bool} {M t : Nat} (hm : M % 10 = 0) : fitO (sg b * (M : Int)) (t + 1) = fitO (sg b * ((M / 10 : Nat) : Int)) t := by
  cases b
  · rw [sg_false, Int.one_mul, Int.one_mul, fitO_strip (by omega)]; congr 1
  · rw [sg_true, fitO_strip (by omega)]; congr 1; omega
theorem rfit_keep {b : Bool} {M t : Nat} (hm : t = 0 ∨ M % 10 ≠ 0) : fitO (sg b * (M : Int)) t = if t ≤ 6 ∧ M ≤ 1000000000000000 then some (sg b * (M : Int), (t : Int)) else none := by
  rw [fitO_keep]
  · have : withinB (sg b * (M : Int)) = true ↔ M ≤ 1000000000000000 := by
      rw [withinB_true]; cases b
      · rw [sg_false]; omega
      · rw [sg_true]; omega
    by_cases h : t ≤ 6 ∧ M ≤ 1000000000000000
    · rw [if_pos h, if_pos ⟨h.1, this.2 h.2⟩]
    · rw [if_neg h, if_neg (fun hh => h ⟨hh.1, this.1 hh.2⟩)]
  · rcases hm with h | h
    · exact .inl h
    · right; cases b
      · rw [sg_false]; omega
      · rw [sg_true]; omega
/-- a wider scale changes nothing -/
theorem fitO_wider (n : Int) (s k : Nat) : fitO (n * p10 k) (s + k) = fitO n s := by
  induction k with
  | zero => simp [p10]
  | succ k ih =>
    rw [p10_cast_succ, show s + (k + 1) = (s + k) + 1 by omega, fitO_strip (by grind), ← ih]
    congr 1
    grind
/-- the sum in the units of the wider scale -/
def plV (na : Bool) (ma : Nat) (sa : Int) (nb' : Bool) (mb : Nat) (sb : Int) : Int :=
  sg na * ((ma * 10 ^ (max sa sb - sa).toNat : Nat) : Int) + sg nb' * ((mb * 10 ^ (max sa sb - sb).toNat : Nat) : Int)
theorem pow_cast (k : Nat) : ((10 ^ k : Nat) : Int) = p10 (k : Int) := by unfold p10; simp
theorem plV_uv {na nc : Bool} {ma mc : Nat} {x y sa sc : Int} (ha : sg na * (ma : Int) = x) (hc : sg nc * (mc : Int) = y) (h0 : 0 ≤ sa) (h6 : sa ≤ 6) (g0 : 0 ≤ sc) (g6 : sc ≤ 6) :
    plV na ma sa nc mc sc * p10 (6 - max sa sc) = x * p10 (6 - sa) + y * p10 (6 - sc) := by
  unfold plV
  rw [Int.natCast_mul, Int.natCast_mul, pow_cast, pow_cast]
  rw [Int.toNat_of_nonneg (by omega), Int.toNat_of_nonneg (by omega)]
  have e1 : p10 (max sa sc - sa) * p10 (6 - max sa sc) = p10 (6 - sa) := by rw [← p10_add (by omega) (by omega)]; congr 1; omega
  have e2 : p10 (max sa sc - sc) * p10 (6 - max sa sc) = p10 (6 - sc) := by rw [← p10_add (by omega) (by omega)]; congr 1; omega
  rw [← e1, ← e2, ← ha, ← hc]
  grind
theorem plV_fit {na nc : Bool} {ma mc : Nat} {x y sa sc : Int} (ha : sg na * (ma : Int) = x) (hc : sg nc * (mc : Int) = y) (h0 : 0 ≤ sa) (h6 : sa ≤ 6) (g0 : 0 ≤ sc) (g6 : sc ≤ 6) :
    fitO (plV na ma sa nc mc sc) (max sa sc).toNat = fitO (x * p10 (6 - sa) + y * p10 (6 - sc)) 6 := by
  rw [← plV_uv ha hc h0 h6 g0 g6]
  have := fitO_wider (plV na ma sa nc mc sc) (max sa sc).toNat (6 - max sa sc).toNat
  rw [Int.toNat_of_nonneg (by omega), show (max sa sc).toNat + (6 - max sa sc).toNat = 6 by omega] at this
  exact this.symm
theorem plV_sign {na nc : Bool} {ma mc : Nat} {x y sa sc : Int} (ha : sg na * (ma : Int) = x) (hc : sg nc * (mc : Int) = -y) (h0 : 0 ≤ sa) (h6 : sa ≤ 6) (g0 : 0 ≤ sc) (g6 : sc ≤ 6) :
    cmpI (x * p10 (6 - sa)) (y * p10 (6 - sc)) = cmpI (plV na ma sa nc mc sc) 0 := by
  have h := plV_uv ha hc h0 h6 g0 g6
  have hp := p10_pos (6 - max sa sc)
  rw [Int.neg_mul] at h
  generalize plV na ma sa nc mc sc = V at *
  generalize p10 (6 - max sa sc) = P at *
  generalize x * p10 (6 - sa) = A at *
  generalize y * p10 (6 - sc) = B at *
  rcases Int.lt_trichotomy V 0 with hv | hv | hv
  · have : V * P < 0 := Int.mul_neg_of_neg_of_pos hv (by omega)
    rw [cmpI_lt hv, cmpI_lt (by omega)]
  · subst hv
    have : A = B := by omega
    rw [this, cmpI_eq, cmpI_eq]
  · have : 0 < V * P := Int.mul_pos hv (by omega)
    rw [cmpI_gt hv, cmpI_gt (by omega)]
theorem sg_not (b : Bool) : sg (!b) = - sg b := by cases b <;> rfl
/-- rounding -/
theorem rnd_nat (n : Int) {P : Nat} (k : Nat) : fitO (sg (decide (n < 0)) * (((2 * n.natAbs + P) / (2 * P) : Nat) : Int)) k = fitO (rnd n P) k := by
  congr 1
  unfold rnd
  by_cases h : n < 0
  · simp only [h, decide_true, sg_true]
    rw [if_neg (by omega), show (n.natAbs : Int) = -n by omega |> fun e => (Int.natCast_ediv _ _).trans (by push_cast; rw [show (n.natAbs : Int) = -n by omega])]
    omega
  · simp only [h, decide_false, sg_false]
    rw [if_pos (by omega), Int.natCast_ediv]
    push_cast
    rw [show (n.natAbs : Int) = n by omega]
    omega
/-! texts -/
theorem dec_eq (u : Nat) : dec u = decDigits u := by
  induction u using Nat.strongRecOn with
  | _ u ih =>
    rw [decDigits]
    split
    · rename_i h
      unfold dec
      by_cases h0 : u = 0
      · subst h0; rfl
      · rw [if_neg h0, decz_pos h0, show u / 10 = 0 by omega, decz_zero, show u % 10 = u by omega]; rfl
    · rename_i h
      have h1 := ih (u / 10) (by omega)
      rw [← h1]
      unfold dec
      rw [if_neg (by omega), if_neg (by omega), decz_pos (by omega)]
/-- the last S digits -/
def fw : Nat → Nat → List UInt8
  | 0, _ => []
  | S + 1, u => fw S (u / 10) ++ [UInt8.ofNat (48 + u % 10)]
theorem fw_len (S u : Nat) : (fw S u).length = S := by
  induction S generalizing u with
  | zero => rfl
  | succ S ih => simp [fw, ih]
theorem fw_mod (S u v : Nat) (h : u % 10 ^ S = v % 10 ^ S) : fw S u = fw S v := by
  induction S generalizing u v with
  | zero => rfl
  | succ S ih =>
    have e1 : u % 10 ^ (S + 1) % 10 = u % 10 := Nat.mod_mod_of_dvd _ ⟨10 ^ S, by rw [Nat.pow_succ, Nat.mul_comm]⟩
    have e2 : v % 10 ^ (S + 1) % 10 = v % 10 := Nat.mod_mod_of_dvd _ ⟨10 ^ S, by rw [Nat.pow_succ, Nat.mul_comm]⟩
    have e3 : u / 10 % 10 ^ S = u % 10 ^ (S + 1) / 10 := by rw [Nat.pow_succ, Nat.mul_comm, Nat.mod_mul_right_div_self]
    have e4 : v / 10 % 10 ^ S = v % 10 ^ (S + 1) / 10 := by rw [Nat.pow_succ, Nat.mul_comm, Nat.mod_mul_right_div_self]
    simp only [fw]
    rw [ih (u / 10) (v / 10) (by rw [e3, e4, h]), ← e1, ← e2, h]
theorem padd_dec (S u : Nat) : padd S (decDigits u) = dec (u / 10 ^ S) ++ fw S u := by
  induction S generalizing u with
  | zero =>
    have := decDigits_pos u
    unfold padd
    rw [show 0 + 1 - (decDigits u).length = 0 by omega]
    simp [fw, dec_eq]
  | succ S ih =>
    simp only [fw]
    rw [Nat.pow_succ, Nat.mul_comm, ← Nat.div_div_eq_div_mul, ← List.append_assoc, ← ih]
    by_cases h : u < 10
    · rw [decDigits, dif_pos h, show u / 10 = 0 by omega, show u % 10 = u by omega]
      have : decDigits 0 = [48] := by rw [decDigits]; rfl
      rw [this]
      unfold padd
      simp [List.replicate_succ']
    · rw [decDigits, dif_neg h]
      unfold padd
      simp
theorem decDigits_ge {u k : Nat} (h : 10 ^ k ≤ u) : k + 1 ≤ (decDigits u).length := by
  induction k generalizing u with
  | zero => exact decDigits_pos u
  | succ k ih =>
    have h1 : 0 < 10 ^ k := Nat.pow_pos (by omega)
    rw [Nat.pow_succ] at h
    rw [decDigits, dif_neg (by omega)]
    have := ih (u := u / 10) (by omega)
    simp; omega
theorem dec_rest (S u : Nat) : (dec (10 ^ S + u % 10 ^ S)).drop 1 = fw S u := by
  have hp : 0 < 10 ^ S := Nat.pow_pos (by omega)
  have hm : u % 10 ^ S < 10 ^ S := Nat.mod_lt _ hp
  have h1 := padd_dec S (10 ^ S + u % 10 ^ S)
  have h2 := decDigits_ge (u := 10 ^ S + u % 10 ^ S) (k := S) (by omega)
  unfold padd at h1
  rw [show S + 1 - (decDigits (10 ^ S + u % 10 ^ S)).length = 0 by omega] at h1
  have e : (10 ^ S + u % 10 ^ S) / 10 ^ S = 1 := by
    rw [Nat.add_div_left _ hp, Nat.div_eq_of_lt hm]
  rw [e] at h1
  rw [dec_eq]
  simp only [List.replicate_zero, List.nil_append] at h1
  rw [h1]
  have d1 : dec 1 = [49] := by unfold dec; rw [if_neg (by omega), decz_pos (by omega), decz_zero]; rfl
  rw [d1]
  simp only [List.cons_append, List.nil_append, List.drop_succ_cons, List.drop_zero]
  apply fw_mod
  rw [Nat.add_mod_left, Nat.mod_mod]
/-- the reference's text -/
def rtext (N : Int) (S : Nat) : List UInt8 :=
  (if N < 0 then [45] else []) ++ (dec (N.natAbs / 10 ^ S) ++ if 0 < S then 46 :: (dec (10 ^ S + N.natAbs % 10 ^ S)).drop 1 else [])
theorem rtext_eq (N : Int) (S : Nat) : rtext N S = dtext N S := by
  unfold rtext dtext pointed
  rw [padd_dec, dec_rest]
  congr 1
  by_cases h : 0 < S
  · rw [if_pos h, if_pos h, List.length_append, fw_len, Nat.add_sub_cancel, List.take_left' rfl, List.drop_left' rfl]
  · obtain rfl : S = 0 := by omega
    simp [fw]
/-! reading -/
abbrev PS := Nat × Bool × List UInt8 × Bool × Nat
def pstep (st : Option PS) (c : UInt8) : Option PS :=
  match st with
  | none => none
  | some (k, neg, ds, seen, sc) =>
    if k = 0 ∧ c.toNat = 45 then some (k + 1, true, ds, seen, sc)
    else if c.toNat = 46 ∧ seen = false then some (k + 1, neg, ds, true, sc)
    else if isD c = true then some (k + 1, neg, ds ++ [c], seen, if seen = true then sc + 1 else sc)
    else none
def pfold (l : List UInt8) : Option PS := l.foldl pstep (some (0, false, [], false, 0))
theorem pfold_none (l : List UInt8) : l.foldl pstep none = none := by
  induction l with
  | nil => rfl
  | cons c l ih => exact ih
theorem pfold_snoc (l : List UInt8) (c : UInt8) : pfold (l ++ [c]) = pstep (pfold l) c := by simp [pfold, List.foldl_append]
theorem pfold_take_none {l : List UInt8} {k : Nat} (h : pfold (l.take k) = none) : pfold l = none := by
  have : l = l.take k ++ l.drop k := (List.take_append_drop k l).symm
  rw [this, pfold, List.foldl_append]
  rw [pfold] at h
  rw [h, pfold_none]
theorem pfold_digits {q : List UInt8} (h : alld q = true) (k : Nat) (neg : Bool) (ds : List UInt8) (seen : Bool) (sc : Nat) :
    q.foldl pstep (some (k, neg, ds, seen, sc)) = some (k + q.length, neg, ds ++ q, seen, if seen = true then sc + q.length else sc) := by
  induction q generalizing k ds sc with
  | nil => simp
  | cons c q ih =>
    simp only [alld, List.all_cons, Bool.and_eq_true] at h
    have hc : 48 ≤ c.toNat ∧ c.toNat ≤ 57 := by simpa [isD] using h.1
    have e : pstep (some (k, neg, ds, seen, sc)) c = some (k + 1, neg, ds ++ [c], seen, if seen = true then sc + 1 else sc) := by
      simp only [pstep]
      rw [if_neg (by omega), if_neg (by omega), if_pos h.1]
    rw [List.foldl_cons, e, ih h.2]
    cases seen <;> simp <;> omega
def rparseO (b : List UInt8) : Option (Int × Int) :=
  match pfold b with
  | none => none
  | some (_, neg, ds, _, sc) => chkO (fitO (sg neg * (dval ds : Int)) sc) b
theorem rparse_none {b : List UInt8} (h : pfold b = none) : rparseO b = none := by simp [rparseO, h]
theorem rparse_some {b : List UInt8} {k : Nat} {neg : Bool} {ds : List UInt8} {seen : Bool} {sc : Nat} (h : pfold b = some (k, neg, ds, seen, sc)) :
    rparseO b = chkO (fitO (sg neg * (dval ds : Int)) sc) b := by simp [rparseO, h]
theorem alld_append {a b : List UInt8} (h : alld (a ++ b) = true) : alld a = true ∧ alld b = true := by
  simpa [alld, List.all_append] using h
theorem fold_pointed {q : List UInt8} {S : Nat} (h : alld q = true) (hl : S < q.length) (k : Nat) (neg : Bool) :
    ∃ k' seen, (pointed S q).foldl pstep (some (k, neg, [], false, 0)) = some (k', neg, q, seen, S) := by
  unfold pointed
  by_cases hS : 0 < S
  · rw [if_pos hS]
    have hq := List.take_append_drop (q.length - S) q
    have hd := alld_append (a := q.take (q.length - S)) (b := q.drop (q.length - S)) (by rw [hq]; exact h)
    have hlen : (q.take (q.length - S)).length = q.length - S := by simp
    rw [List.foldl_append, pfold_digits hd.1, List.foldl_cons]
    have e : pstep (some (k + (q.take (q.length - S)).length, neg, [] ++ q.take (q.length - S), false, if false = true then 0 + (q.take (q.length - S)).length else 0)) 46
        = some (k + (q.take (q.length - S)).length + 1, neg, [] ++ q.take (q.length - S), true, 0) := by
      simp only [pstep]
      rw [if_neg (by rw [hlen]; intro hh; omega), if_pos (by simp)]
      rfl
    rw [e, pfold_digits hd.2]
    have e2 : (if true = true then 0 + (q.drop (q.length - S)).length else 0) = S := by simp; omega
    rw [e2, List.nil_append, hq]
    exact ⟨_, _, rfl⟩
  · obtain rfl : S = 0 := by omega
    rw [if_neg hS, pfold_digits h]
    exact ⟨k + q.length, false, by simp⟩
theorem rparse_dtext {N : Int} {S : Nat} (hr : rightB N S = true) : rparseO (dtext N S) = some (N, (S : Int)) := by
  have hq := alld_padd (S := S) (alld_dec N.natAbs)
  have hv : dval (padd S (decDigits N.natAbs)) = N.natAbs := by rw [dval_padd, dval_dec]
  have hl : S < (padd S (decDigits N.natAbs)).length := by rw [padd_length]; omega
  have hfit := fitO_of_right hr
  rw [Int.toNat_natCast] at hfit
  have hfold : ∃ k' seen, pfold (dtext N S) = some (k', decide (N < 0), padd S (decDigits N.natAbs), seen, S) := by
    unfold dtext pfold
    generalize padd S (decDigits N.natAbs) = q at *
    by_cases hn : N < 0
    · rw [if_pos hn, List.singleton_append, List.foldl_cons]
      obtain ⟨k', seen, he⟩ := fold_pointed (S := S) hq hl 1 true
      exact ⟨k', seen, by simp only [hn, decide_true]; exact he⟩
    · rw [if_neg hn, List.nil_append]
      obtain ⟨k', seen, he⟩ := fold_pointed (S := S) hq hl 0 false
      exact ⟨k', seen, by simp only [hn, decide_false]; exact he⟩
  obtain ⟨k', seen, he⟩ := hfold
  rw [rparse_some he, hv, sg_abs, hfit]
  simp [chkO]
theorem chkO_some {o : Option (Int × Int)} {b : List UInt8} {p : Int × Int} (h : chkO o b = some p) : o = some p ∧ dtext p.1 p.2.toNat = b := by
  cases o with
  | none => cases h
  | some q =>
    simp only [chkO] at h
    split at h
    · injection h with h; subst h; exact ⟨rfl, by assumption⟩
    · cases h
theorem parse_iff {b : List UInt8} {p : Int × Int} : parseO b = some p ↔ rightB p.1 p.2 = true ∧ dtext p.1 p.2.toNat = b := by
  constructor
  · intro h
    unfold parseO at h
    split at h
    · have h1 := chkO_some h
      refine ⟨?_, h1.2⟩
      have h2 := h1.1
      rw [pcand_eq] at h2
      split at h2
      · exact fitO_right h2
      · cases h2
    · cases h
  · rintro ⟨h1, rfl⟩
    have h2 := rightB_true.1 h1
    have := parse_dtext (N := p.1) (S := p.2.toNat) (by rw [Int.toNat_of_nonneg h2.1]; exact h1)
    rw [this, Int.toNat_of_nonneg h2.1]
theorem rparse_iff {b : List UInt8} {p : Int × Int} : rparseO b = some p ↔ rightB p.1 p.2 = true ∧ dtext p.1 p.2.toNat = b := by
  constructor
  · intro h
    unfold rparseO at h
    split at h
    · cases h
    · have h1 := chkO_some h
      exact ⟨fitO_right h1.1, h1.2⟩
  · rintro ⟨h1, rfl⟩
    have h2 := rightB_true.1 h1
    have := rparse_dtext (N := p.1) (S := p.2.toNat) (by rw [Int.toNat_of_nonneg h2.1]; exact h1)
    rw [this, Int.toNat_of_nonneg h2.1]
theorem rparse_eq (b : List UInt8) : rparseO b = parseO b := by
  apply Option.ext
  intro p
  rw [rparse_iff, parse_iff]
/-- a decimal from two numbers -/
theorem made_right (n s : Int) : ∃ p, makeO (n.tmod 1000000000000001) (s % 7) = some p := by
  have hb := tmod_bd n (m := 1000000000000001) (by omega)
  rw [makeO_in (by omega) (by omega)]
  have h6 : (s % 7).toNat ≤ 6 := by omega
  generalize (s % 7).toNat = t at *
  generalize n.tmod 1000000000000001 = m at *
  induction t generalizing m with
  | zero => rw [fitO_keep (.inl rfl), if_pos ⟨by omega, withinB_true.2 ⟨by omega, by omega⟩⟩]; exact ⟨_, rfl⟩
  | succ t ih =>
    by_cases h : m % 10 = 0
    · rw [fitO_strip h]; exact ih (by omega) _ (by omega)
    · rw [fitO_keep (.inr h), if_pos ⟨h6, withinB_true.2 ⟨by omega, by omega⟩⟩]; exact ⟨_, rfl⟩
end Pl
