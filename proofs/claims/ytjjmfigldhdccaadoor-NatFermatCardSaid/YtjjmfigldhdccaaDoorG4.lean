/- The walk of NatSums. -/
import Derived.Test.YtjjmfigldhdccaaDoorG2
namespace Go.Proofs.YtjjmfigldhdccaaDoor
open Go.RowKit W
open Pl (bval enc bv nb bv_nb nb_size_le nb_size_zero nb_size_mono nb_bv_size bv_lt cmpN tk tk_zero tk_succ tk_pos)
theorem zero_size {A : ByteArray} {k : Nat} (h : A.size ≤ k) : (A ++ ⟨#[0]⟩).size ≤ k + 1 := by rw [ByteArray.size_append]; exact Nat.add_le_add_right h 1
theorem rightB_nb (n : Nat) : rightB (nb n) = true := by
  rcases Nat.eq_zero_or_pos (nb n).size with h | h
  · exact rightB_nil h
  · rw [rightB_get h]
    have h2 := tk_pos (n := n) (m := 1) (by omega) (by omega)
    have h3 := tk_succ (nb n) 0 h
    rw [tk_zero, Nat.zero_mul, Nat.zero_add, Nat.zero_add] at h3
    rw [h3] at h2
    simp only [bne_iff_ne, ne_eq]; omega
set_option maxRecDepth 100000 in
set_option maxHeartbeats 8000000 in
theorem sums_walk (v0 v1 : Value) (x y : List UInt8) (w : World) (hx : BysR w v0 x) (hy : BysR w v1 y) (hG : GT w) :
    Calls Tryd.prog 11 #[v0, v1] w fun e w' => e = .returned (.bool true) ∧ Below w.heap.size w w' := by
  have hacc : Below w.heap.size w w := Below.refl _ _
  go_enter Tryd.func11, Tryd.ntmps11
  go_wp2_with fail
  with_reducible refine (sanity_any _ (hG.below hacc)).mono ?_
  rintro e wZ ⟨rfl, hbX⟩
  have hacc := hacc.trans (hbX.mono hacc.size)
  clear hbX
  go_wp2_with fail
  with_reducible refine (made_any v0 x _ (hx.below hacc)).mono ?_
  rintro e w' ⟨rfl, rfl⟩
  have hA := cutS_size x 40
  generalize cutS x 40 = A at *
  go_wp2_with fail
  with_reducible refine (made_any v1 y _ (hy.below hacc)).mono ?_
  rintro e w' ⟨rfl, rfl⟩
  have hB := cutS_size y 40
  generalize cutS y 40 = B at *
  have bL : SomeStrs (wZ.alloc (.cells #[.string A, .string B, .string B, .string A, .string A, .string A, .string (A ++ (⟨#[0]⟩ : ByteArray)), .string B] 31)) wZ.heap.size 8 41 := SomeStrs.newL wZ _ rfl [A, B, B, A, A, A, (A ++ (⟨#[0]⟩ : ByteArray)), B] 41 (by simp only [List.forall_mem_cons]; exact ⟨by omega, by omega, by omega, by omega, by omega, by omega, zero_size hA, by omega, by simp⟩) 31
  have hacc := hacc.alloc hacc.size (.cells #[.string A, .string B, .string B, .string A, .string A, .string A, .string (A ++ (⟨#[0]⟩ : ByteArray)), .string B] 31)
  go_wp2_with fail
  generalize wZ.heap.size = gL at *
  generalize wZ.alloc (.cells #[.string A, .string B, .string B, .string A, .string A, .string A, .string (A ++ (⟨#[0]⟩ : ByteArray)), .string B] 31) = WL at *
  go_loopw [34] (fun i wr => ∃ k : Nat, k ≤ 4 ∧ i = .int .i64 k ∧ SomeStrs wr gL 8 41 ∧ Below w.heap.size w wr) (fun i _ => 4 - (intOf i).toNat)
  case atStart => exact ⟨0, by omega, rfl, bL, hacc⟩
  case round =>
    clear bL hacc
    obtain ⟨k, hk, rfl, bL, hacc⟩ := hrel
    by_cases hlt : k < 4
    · have hk0 : (0 : Int) ≤ (k : Int) := by omega
      have hk4 : (k : Int) < 4 := by omega
      obtain ⟨s1, z1, h1⟩ := bL.2 (k * 2) (by omega)
      obtain ⟨s2, z2, h2⟩ := bL.2 (k * 2 + 1) (by omega)
      have bP : Rw (wr.alloc (.cells #[.string s1, .string s2] 31)) wr.heap.size [.string s1, .string s2] := Rw.new wr _ rfl [.string s1, .string s2] 31
      have dgL := bL.lt
      have hacc := hacc.alloc hacc.size (.cells #[.string s1, .string s2] 31)
      have bL := bL.alloc (.cells #[.string s1, .string s2] 31)
      have p0 := bP.at 0 rfl
      have p1 := bP.at 1 rfl
      go_wp2_with fail
      clear h1 h2
      generalize wr.heap.size = gP at *
      generalize wr.alloc (.cells #[.string s1, .string s2] 31) = WP at *
      have ngLgP : gL ≠ gP := by omega
      clear dgL p0 p1
      have p0 := bP.at 0 rfl
      have p1 := bP.at 1 rfl
      go_wp2_with fail
      with_reducible refine (nsubT s1 s2 _ (by omega) (by omega)).mono ?_
      rintro e wZ ⟨rfl, hbX⟩
      have hacc := hacc.trans (hbX.mono hacc.size)
      have bL := bL.below hbX
      have bP := bP.below hbX
      clear hbX
      have p0 := bP.at 0 rfl
      have p1 := bP.at 1 rfl
      go_wp2_with fail
      with_reducible refine (rsubT s1 s2 _ (by omega) (by omega)).mono ?_
      rintro e wZ ⟨rfl, hbX⟩
      have hacc := hacc.trans (hbX.mono hacc.size)
      have bL := bL.below hbX
      have bP := bP.below hbX
      clear hbX
      have p0 := bP.at 0 rfl
      have p1 := bP.at 1 rfl
      go_wp2_with fail
      clear p0 p1
      have hacc := hacc.drew
      have bL := bL.drew
      have bP := bP.drew
      go_region_held3 (fun w' => w'.cell? ⟨gP, 0, none⟩ = some (.string s1) ∧ w'.cell? ⟨gP, 1, none⟩ = some (.string s2)) (first | exact ⟨bP.at 0 rfl, bP.at 1 rfl⟩ | go_keep) (first | (go_at_call 39; refine (nadd_any _ _ _ (by omega) (by omega)).mono ?_; rintro e wX ⟨rfl, hbX⟩; have hacc := hacc.trans (hbX.mono hacc.size); have bL := bL.below hbX; have bP := bP.below hbX; clear hbX) | (go_at_call 17; refine (add_any _ _ _ (by omega) (by omega)).mono ?_; rintro e wX ⟨rfl, hbX⟩; have hacc := hacc.trans (hbX.mono hacc.size); have bL := bL.below hbX; have bP := bP.below hbX; clear hbX) | (go_at_call 40; refine (ncmp_any _ _ _ (by omega) (by omega)).mono ?_; rintro e wX ⟨rfl, rfl⟩) | (go_at_call 41; refine (cmps_any _ _ _ (by omega) (by omega)).mono ?_; rintro e wX ⟨rfl, rfl⟩))
      go_wp2_with fail
      go_roundw
      case rel => exact ⟨k + 1, by omega, by go_num, bL, hacc⟩
      case measure => simp [intOf]; omega
    · have hk4 : ¬ (k : Int) < 4 := by omega
      go_wp2_with fail
      clear bL
      with_reducible refine (nright_any A _ (by omega)).mono ?_
      rintro e w' ⟨rfl, rfl⟩
      go_wp2_with fail
      with_reducible refine (rright_any A _ (by omega)).mono ?_
      rintro e w' ⟨rfl, rfl⟩
      go_wp2_with fail
      with_reducible refine (nadd_any A B _ (by omega) (by omega)).mono ?_
      rintro e wZ ⟨rfl, hbX⟩
      have hacc := hacc.trans (hbX.mono hacc.size)
      clear hbX
      go_wp2_with fail
      with_reducible refine (nright_any (nb (bv A + bv B)) _ (by have := add_size (bv_bound hA) (bv_bound hB); omega)).mono ?_
      rw [rightB_nb]
      rintro e w' ⟨rfl, rfl⟩
      go_wp2_with fail
      go_ret
      exact ⟨rfl, hacc⟩
end Go.Proofs.YtjjmfigldhdccaaDoor
