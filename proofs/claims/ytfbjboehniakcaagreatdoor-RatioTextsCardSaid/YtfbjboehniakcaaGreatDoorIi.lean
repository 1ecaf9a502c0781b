/- Plain facts for the reference's Parse: the cut at '/', the sign, what Parse says once more. -/
import Derived.Test.YtfbjboehniakcaaGreatDoorIb
namespace Go.Proofs.YtfbjboehniakcaaGreatDoor
open Go.RowKit W
open Pl (bval enc bv nb bv_nb nb_size_le nb_size_zero nb_size_mono nb_bv_size bv_lt cmpN nb_inj dec nparse dval_lt alld)
open Rq
open Go.Lib (hasPrefix trimPrefix cut)
open Go.Lib (index occAt index_first index_none index_spec)
def cutX (D : ByteArray) : ByteArray := ⟨(cut D.data.toList [47]).1.toArray⟩
def cutY (D : ByteArray) : ByteArray := ⟨(if (cut D.data.toList [47]).2.2 = true then (cut D.data.toList [47]).2.1 else [49]).toArray⟩
theorem occ_iff (l : List UInt8) (j : Nat) : occAt l [47] j = decide (l[j]? = some 47) := by
  unfold occAt
  rw [← List.head?_drop]
  cases l.drop j with
  | nil => rfl
  | cons b t =>
    simp only [List.isPrefixOf, List.head?_cons, Bool.and_true]
    by_cases h : b = 47
    · subst h; rfl
    · have : ¬ (47 : UInt8) = b := fun e => h e.symm
      simp [h, this]
theorem cut_at {D : ByteArray} {i : Nat} (hi : i < D.size) (h : D.data.toList[i]? = some 47) (hno : ∀ j, j < i → D.data.toList[j]? ≠ some 47) : cutX D = D.extract 0 i ∧ cutY D = D.extract (i + 1) D.size := by
  have hl : D.data.toList.length = D.size := list_size D
  have hx : index D.data.toList [47] = i := index_first (by omega) (by rw [occ_iff, h]; rfl) (fun j hj => by rw [occ_iff]; exact decide_eq_false (hno j hj))
  have hc : cut D.data.toList [47] = (D.data.toList.take i, D.data.toList.drop (i + 1), true) := by
    unfold cut; rw [hx, if_pos (by omega)]; simp
  constructor
  · unfold cutX; rw [hc]
    apply Pl.ext_of_data
    simp [ByteArray.data_extract, Array.toList_extract]
  · unfold cutY; rw [hc]
    apply Pl.ext_of_data
    simp only [if_true, ByteArray.data_extract, Array.toList_extract, List.extract]
    rw [List.take_of_length_le (by simp)]
theorem cut_end {D : ByteArray} (hno : ∀ j, j < D.size → D.data.toList[j]? ≠ some 47) : cutX D = D ∧ cutY D = ⟨#[49]⟩ := by
  have hl : D.data.toList.length = D.size := list_size D
  have hx : index D.data.toList [47] = -1 := index_none (fun j hj => by
    rw [occ_iff]
    rcases Nat.lt_or_ge j D.size with h | h
    · exact decide_eq_false (hno j h)
    · rw [List.getElem?_eq_none (by omega)]; rfl)
  have hc : cut D.data.toList [47] = (D.data.toList, [], false) := by
    unfold cut; rw [hx, if_neg (by decide)]
  constructor
  · unfold cutX; rw [hc]
  · unfold cutY; rw [hc]; rfl
theorem pre_yes {s : ByteArray} (h : 0 < s.size) (h1 : s[0].toNat = 45) : hasPrefix s.data.toList [45] = true ∧ (⟨(trimPrefix s.data.toList [45]).toArray⟩ : ByteArray) = s.extract 1 s.size := by
  have hl : s.data.toList.length = s.size := list_size s
  have e0 : s.data.toList[0]? = some s[0] := Lib.data_getElem? s 0 h
  have e1 : s[0] = 45 := UInt8.toNat_inj.1 h1
  rw [e1] at e0
  have hp : hasPrefix s.data.toList [45] = true := by
    unfold hasPrefix
    cases hs : s.data.toList with
    | nil => rw [hs] at e0; cases e0
    | cons b t => rw [hs] at e0; simp at e0; subst e0; rfl
  refine ⟨hp, ?_⟩
  unfold trimPrefix; rw [if_pos hp]
  apply Pl.ext_of_data
  simp only [ByteArray.data_extract, Array.toList_extract, List.extract]
  rw [List.take_of_length_le (by simp)]; rfl
theorem pre_no {s : ByteArray} (h : ∀ h : 0 < s.size, s[0].toNat ≠ 45) : hasPrefix s.data.toList [45] = false ∧ (⟨(trimPrefix s.data.toList [45]).toArray⟩ : ByteArray) = s := by
  have hl : s.data.toList.length = s.size := list_size s
  have hp : hasPrefix s.data.toList [45] = false := by
    unfold hasPrefix
    cases hs : s.data.toList with
    | nil => rfl
    | cons b t =>
      have h0 : 0 < s.size := by rw [← hl, hs]; simp
      have e0 : s.data.toList[0]? = some s[0] := Lib.data_getElem? s 0 h0
      have := h h0
      rw [hs] at e0
      simp at e0
      have h2 : ¬ (45 : UInt8) = b := fun e => this (by rw [← e0, ← e]; rfl)
      simp [List.isPrefixOf, h2]
  refine ⟨hp, ?_⟩
  unfold trimPrefix; rw [hp]; rfl
theorem parR_alt (s : ByteArray) (D : ByteArray) (hD : D = ⟨(trimPrefix s.data.toList [45]).toArray⟩) : parR s =
    match nparse (cutX D).data.toList with
    | none => none
    | some n => match nparse (cutY D).data.toList with
      | none => none
      | some d => if d = 0 then none else if ratS (mk (hasPrefix s.data.toList [45]) n d) = s then some (mk (hasPrefix s.data.toList [45]) n d) else none := by
  subst hD
  have e1 : nparse [49] = some 1 := by decide +kernel
  unfold parR cutX cutY
  simp only
  cases (cut (trimPrefix s.data.toList [45]) [47]).2.2
  · simp only [Bool.false_eq_true, if_false, e1]
    cases nparse (cut (trimPrefix s.data.toList [45]) [47]).fst <;> rfl
  · simp only [if_true]
    cases nparse (cut (trimPrefix s.data.toList [45]) [47]).fst with
    | none => rfl
    | some n => cases nparse (cut (trimPrefix s.data.toList [45]) [47]).snd.fst <;> rfl
theorem cut_size (D : ByteArray) : (cutX D).size ≤ D.size ∧ (cutY D).size ≤ D.size + 1 := by
  have h := cut_len D.data.toList
  have hl : D.data.toList.length = D.size := list_size D
  have e1 : (cutX D).size = (cut D.data.toList [47]).1.length := by unfold cutX; simp [ByteArray.size]
  have e2 : (cutY D).size = (if (cut D.data.toList [47]).2.2 = true then (cut D.data.toList [47]).2.1 else [49]).length := by unfold cutY; simp [ByteArray.size]
  rw [e1, e2]
  refine ⟨by omega, ?_⟩
  split
  · omega
  · simp
end Go.Proofs.YtfbjboehniakcaaGreatDoor
