/- Plain: the text of a number is read again. -/
import Derived.Test.YtfbjboehniakcaaGreatDoorIi
namespace Go.Proofs.YtfbjboehniakcaaGreatDoor
open Go.RowKit W
open Pl (bval enc bv nb bv_nb nb_size_le nb_size_zero nb_size_mono nb_bv_size bv_lt cmpN nb_inj dec nparse dval dval_lt alld isD decDigits_pos alld_dec dval_dec dec_eq)
open Rq
open Go.Lib (hasPrefix trimPrefix cut index occAt index_first index_none)
theorem dig_ne {l : List UInt8} (h : alld l = true) (j : Nat) (c : UInt8) (hc : c.toNat < 48) : l[j]? ≠ some c := by
  intro e
  have hm : c ∈ l := List.mem_of_getElem? e
  have := List.all_eq_true.1 h c hm
  simp [isD] at this
  omega
theorem cut_dig {l r : List UInt8} (h : alld l = true) : cut (l ++ 47 :: r) [47] = (l, r, true) := by
  have hx : index (l ++ 47 :: r) [47] = l.length := index_first (by simp) (by rw [occ_iff]; simp) (fun j hj => by
    rw [occ_iff]; apply decide_eq_false
    rw [List.getElem?_append_left hj]
    exact dig_ne h j 47 (by decide))
  unfold cut; rw [hx, if_pos (by omega)]; simp
theorem cut_dig0 {l : List UInt8} (h : alld l = true) : cut l [47] = (l, [], false) := by
  have hx : index l [47] = -1 := index_none (fun j _ => by
    rw [occ_iff]; apply decide_eq_false
    rcases Nat.lt_or_ge j l.length with _ | h2
    · exact dig_ne h j 47 (by decide)
    · rw [List.getElem?_eq_none h2]; simp)
  unfold cut; rw [hx, if_neg (by decide)]
theorem pre_dig {l r : List UInt8} (h : alld l = true) (h0 : l ≠ []) : hasPrefix (l ++ r) [45] = false ∧ trimPrefix (l ++ r) [45] = l ++ r := by
  have hp : hasPrefix (l ++ r) [45] = false := by
    cases l with
    | nil => exact absurd rfl h0
    | cons b t =>
      have := dig_ne h 0 45 (by decide)
      simp at this
      have h2 : ¬ (45 : UInt8) = b := fun e => this e.symm
      simp [hasPrefix, List.isPrefixOf, h2]
  exact ⟨hp, by unfold trimPrefix; rw [hp]; rfl⟩
theorem pre_neg (t : List UInt8) : hasPrefix (45 :: t) [45] = true ∧ trimPrefix (45 :: t) [45] = t := ⟨rfl, rfl⟩
theorem dec_ne (u : Nat) : dec u ≠ [] := by
  rw [dec_eq]
  have := decDigits_pos u
  intro e; rw [e] at this; simp at this
theorem head_dec2 (u : Nat) (h : 1 < (Go.Lib.decDigits u).length) : (Go.Lib.decDigits u).head? ≠ some 48 := by
  induction u using Nat.strongRecOn with
  | _ u ih =>
    rw [Go.Lib.decDigits] at h ⊢
    split at h
    · simp at h
    · next h10 =>
      rw [dif_neg h10]
      have hp := decDigits_pos (u / 10)
      have hap : ∀ (l m : List UInt8), 0 < l.length → (l ++ m).head? = l.head? := fun l m h => by
        cases l with
        | nil => simp at h
        | cons c t => rfl
      rw [hap _ _ hp]
      rcases Nat.lt_or_ge 1 (Go.Lib.decDigits (u / 10)).length with h1 | h1
      · exact ih (u / 10) (by omega) h1
      · have hlt : u / 10 < 10 := by
          apply Classical.byContradiction
          intro hn
          rw [Go.Lib.decDigits, dif_neg hn, List.length_append] at h1
          have := decDigits_pos (u / 10 / 10)
          rw [List.length_singleton] at h1; omega
        rw [Go.Lib.decDigits, dif_pos hlt]
        simp only [List.head?_cons, ne_eq, Option.some.injEq]
        intro e
        have := congrArg UInt8.toNat e
        simp at this
        omega
theorem nparse_dec2 (u : Nat) : nparse (dec u) = some u := by
  have hp := decDigits_pos u
  rw [dec_eq]
  unfold nparse
  rw [if_neg, if_pos (alld_dec u), dval_dec]
  rintro (h | ⟨h1, h2⟩)
  · rw [h] at hp; simp at hp
  · exact head_dec2 u h1 h2
theorem ratS_list (q : Rat) : (ratS q).data.toList = (if q.num < 0 then [45] else []) ++ (dec q.num.natAbs ++ (if q.den = 1 then [] else 47 :: dec q.den)) := by
  unfold ratS ratT
  by_cases h1 : q.den = 1 <;> by_cases h2 : q.num < 0 <;> simp [h1, h2, ByteArray.data_append]
theorem parR_ratS (q : Rat) : parR (ratS q) = some q := by
  have hl := ratS_list q
  have hd0 : q.den ≠ 0 := q.den_nz
  have hm : mk (decide (q.num < 0)) q.num.natAbs q.den = q := mk_self q
  have hA : alld (dec q.num.natAbs) = true := by rw [dec_eq]; exact alld_dec _
  have hcut : cut (dec q.num.natAbs ++ (if q.den = 1 then [] else 47 :: dec q.den)) [47] = (dec q.num.natAbs, if q.den = 1 then [] else dec q.den, decide (q.den ≠ 1)) := by
    by_cases h1 : q.den = 1
    · simp only [h1, if_true, List.append_nil]; rw [cut_dig0 hA]; rfl
    · simp only [h1, if_false]; rw [cut_dig hA]; simp [h1]
  have hpre : hasPrefix (ratS q).data.toList [45] = decide (q.num < 0) ∧ trimPrefix (ratS q).data.toList [45] = dec q.num.natAbs ++ (if q.den = 1 then [] else 47 :: dec q.den) := by
    rw [hl]
    by_cases h2 : q.num < 0
    · rw [if_pos h2]; exact ⟨by rw [decide_eq_true h2]; rfl, rfl⟩
    · rw [if_neg h2, decide_eq_false h2, List.nil_append]; exact pre_dig hA (dec_ne _)
  unfold parR
  rw [hpre.2, hpre.1, hcut]
  simp only [nparse_dec2]
  by_cases h1 : q.den = 1
  · simp only [h1, ne_eq, not_true, decide_false, Bool.false_eq_true, if_false]
    rw [if_neg (by decide)]
    rw [h1] at hm
    rw [hm, if_pos rfl]
  · simp only [h1, ne_eq, not_false_eq_true, decide_true, if_true, if_false, nparse_dec2, hd0]
    rw [hm, if_pos rfl]
end Go.Proofs.YtfbjboehniakcaaGreatDoor
