/- The walks of NatProducts and NatRing. -/
import Derived.Test.YtjjmfigldhdccaaDoorG2
namespace Go.Proofs.YtjjmfigldhdccaaDoor
open Go.RowKit W
open Pl (bval enc bv nb bv_nb nb_size_le nb_size_zero nb_size_mono nb_bv_size bv_lt cmpN tk tk_zero tk_succ tk_pos)
theorem bv_1 : bv ⟨#[1]⟩ = 1 := by decide +kernel
set_option maxRecDepth 100000 in
set_option maxHeartbeats 8000000 in
theorem products_walk (v0 v1 : Value) (x y : List UInt8) (w : World) (hx : BysR w v0 x) (hy : BysR w v1 y) (hG : GT w) :
    Calls Tryd.prog 3 #[v0, v1] w fun e w' => e = .returned (.bool true) ∧ Below w.heap.size w w' := by
  have hacc : Below w.heap.size w w := Below.refl _ _
  go_enter Tryd.func3, Tryd.ntmps3
  go_wp2_with fail
  with_reducible refine (sanity_any _ (hG.below hacc)).mono ?_
  rintro e wZ ⟨rfl, hbX⟩
  have hacc := hacc.trans (hbX.mono hacc.size)
  clear hbX
  go_wp2_with fail
  with_reducible refine (made_any v0 x _ (hx.below hacc)).mono ?_
  rintro e w' ⟨rfl, rfl⟩
  have hA := cutS_size x 40
  generalize cutS x 40 = A at *
  go_wp2_with fail
  with_reducible refine (made_any v1 y _ (hy.below hacc)).mono ?_
  rintro e w' ⟨rfl, rfl⟩
  have hB := cutS_size y 40
  generalize cutS y 40 = B at *
  go_wp2_with fail
  with_reducible refine (nmul_any A B _ (by omega) (by omega)).mono ?_
  rintro e wZ ⟨rfl, hbX⟩
  have hacc := hacc.trans (hbX.mono hacc.size)
  clear hbX
  go_wp2_with fail
  with_reducible refine (mul_any A B _ (by omega) (by omega)).mono ?_
  rintro e wZ ⟨rfl, hbX⟩
  have hacc := hacc.trans (hbX.mono hacc.size)
  clear hbX
  go_wp2_with fail
  with_reducible refine (nmul_any A A _ (by omega) (by omega)).mono ?_
  rintro e wZ ⟨rfl, hbX⟩
  have hacc := hacc.trans (hbX.mono hacc.size)
  clear hbX
  go_wp2_with fail
  with_reducible refine (mul_any A A _ (by omega) (by omega)).mono ?_
  rintro e wZ ⟨rfl, hbX⟩
  have hacc := hacc.trans (hbX.mono hacc.size)
  clear hbX
  go_wp2_with fail
  go_ret
  exact ⟨rfl, hacc⟩
set_option maxRecDepth 100000 in
set_option maxHeartbeats 8000000 in
theorem ring_walk (v0 v1 v2 : Value) (x y z : List UInt8) (w : World) (hx : BysR w v0 x) (hy : BysR w v1 y) (hz : BysR w v2 z) (hG : GT w) :
    Calls Tryd.prog 9 #[v0, v1, v2] w fun e w' => e = .returned (.bool true) ∧ Below w.heap.size w w' := by
  have hacc : Below w.heap.size w w := Below.refl _ _
  go_enter Tryd.func9, Tryd.ntmps9
  go_wp2_with fail
  with_reducible refine (sanity_any _ (hG.below hacc)).mono ?_
  rintro e wZ ⟨rfl, hbX⟩
  have hacc := hacc.trans (hbX.mono hacc.size)
  clear hbX
  go_wp2_with fail
  with_reducible refine (made_any v0 x _ (hx.below hacc)).mono ?_
  rintro e w' ⟨rfl, rfl⟩
  have hA := cutS_size x 40
  generalize cutS x 40 = A at *
  go_wp2_with fail
  with_reducible refine (made_any v1 y _ (hy.below hacc)).mono ?_
  rintro e w' ⟨rfl, rfl⟩
  have hB := cutS_size y 40
  generalize cutS y 40 = B at *
  go_wp2_with fail
  with_reducible refine (made_any v2 z _ (hz.below hacc)).mono ?_
  rintro e w' ⟨rfl, rfl⟩
  have hC := cutS_size z 40
  generalize cutS z 40 = C at *
  have sA := bv_bound hA
  have sB := bv_bound hB
  have sC := bv_bound hC
  have sAB := add_size sA sB
  have sBC := add_size sB sC
  have pAB := size_mul sA sB
  have pBC := size_mul sB sC
  have pAC := size_mul sA sC
  have E1 := Lib.hid (show subS (bv A + bv B) (bv B) = nb (bv A) by rw [subS, if_pos (by omega), Nat.add_sub_cancel])
  have E2 := Lib.hid (show subB (bv A + bv B) (bv B) = true by rw [subB, decide_eq_true (by omega)])
  have E3 := Lib.hid (Nat.add_comm (bv B) (bv A))
  have E4 := Lib.hid (Nat.mul_comm (bv B) (bv A))
  have E5 := Lib.hid (Nat.add_assoc (bv A) (bv B) (bv C))
  have E6 := Lib.hid (Nat.mul_assoc (bv A) (bv B) (bv C))
  have E7 := Lib.hid (Nat.mul_add (bv A) (bv B) (bv C))
  have dA := Lib.hid (fun W => canon_any A W (by unfold maxLen; omega))
  go_wp2_with fail
  with_reducible refine (nadd_any A B _ (by omega) (by omega)).mono ?_
  rintro e wZ ⟨rfl, hbX⟩
  have hacc := hacc.trans (hbX.mono hacc.size)
  clear hbX
  go_wp2_with fail
  with_reducible refine (nsubT (nb (bv A + bv B)) B _ (by omega) (by omega)).mono ?_
  rw [bv_nb, E1.out, E2.out]
  rintro e wZ ⟨rfl, hbX⟩
  have hacc := hacc.trans (hbX.mono hacc.size)
  clear hbX
  go_wp2_with fail
  with_reducible refine (nadd_any A B _ (by omega) (by omega)).mono ?_
  rintro e wZ ⟨rfl, hbX⟩
  have hacc := hacc.trans (hbX.mono hacc.size)
  clear hbX
  go_wp2_with fail
  with_reducible refine (nadd_any B A _ (by omega) (by omega)).mono ?_
  rw [E3.out]
  rintro e wZ ⟨rfl, hbX⟩
  have hacc := hacc.trans (hbX.mono hacc.size)
  clear hbX
  go_wp2_with fail
  with_reducible refine (nmul_any A B _ (by omega) (by omega)).mono ?_
  rintro e wZ ⟨rfl, hbX⟩
  have hacc := hacc.trans (hbX.mono hacc.size)
  clear hbX
  go_wp2_with fail
  with_reducible refine (nmul_any B A _ (by omega) (by omega)).mono ?_
  rw [E4.out]
  rintro e wZ ⟨rfl, hbX⟩
  have hacc := hacc.trans (hbX.mono hacc.size)
  clear hbX
  go_wp2_with fail
  with_reducible refine (dA.out _).mono ?_
  rintro e w' ⟨rfl, rfl⟩
  go_wp2_with fail
  with_reducible refine (nadd_any A B _ (by omega) (by omega)).mono ?_
  rintro e wZ ⟨rfl, hbX⟩
  have hacc := hacc.trans (hbX.mono hacc.size)
  clear hbX
  go_wp2_with fail
  with_reducible refine (nadd_any (nb (bv A + bv B)) C _ (by omega) (by omega)).mono ?_
  rw [bv_nb, E5.out]
  rintro e wZ ⟨rfl, hbX⟩
  have hacc := hacc.trans (hbX.mono hacc.size)
  clear hbX
  go_wp2_with fail
  with_reducible refine (nadd_any B C _ (by omega) (by omega)).mono ?_
  rintro e wZ ⟨rfl, hbX⟩
  have hacc := hacc.trans (hbX.mono hacc.size)
  clear hbX
  go_wp2_with fail
  with_reducible refine (nadd_any A (nb (bv B + bv C)) _ (by omega) (by omega)).mono ?_
  rw [bv_nb]
  rintro e wZ ⟨rfl, hbX⟩
  have hacc := hacc.trans (hbX.mono hacc.size)
  clear hbX
  go_wp2_with fail
  with_reducible refine (nmul_any A B _ (by omega) (by omega)).mono ?_
  rintro e wZ ⟨rfl, hbX⟩
  have hacc := hacc.trans (hbX.mono hacc.size)
  clear hbX
  go_wp2_with fail
  with_reducible refine (nmul_any (nb (bv A * bv B)) C _ (by omega) (by omega)).mono ?_
  rw [bv_nb, E6.out]
  rintro e wZ ⟨rfl, hbX⟩
  have hacc := hacc.trans (hbX.mono hacc.size)
  clear hbX
  go_wp2_with fail
  with_reducible refine (nmul_any B C _ (by omega) (by omega)).mono ?_
  rintro e wZ ⟨rfl, hbX⟩
  have hacc := hacc.trans (hbX.mono hacc.size)
  clear hbX
  go_wp2_with fail
  with_reducible refine (nmul_any A (nb (bv B * bv C)) _ (by omega) (by omega)).mono ?_
  rw [bv_nb]
  rintro e wZ ⟨rfl, hbX⟩
  have hacc := hacc.trans (hbX.mono hacc.size)
  clear hbX
  go_wp2_with fail
  with_reducible refine (nadd_any B C _ (by omega) (by omega)).mono ?_
  rintro e wZ ⟨rfl, hbX⟩
  have hacc := hacc.trans (hbX.mono hacc.size)
  clear hbX
  go_wp2_with fail
  with_reducible refine (nmul_any A (nb (bv B + bv C)) _ (by omega) (by omega)).mono ?_
  rw [bv_nb, E7.out]
  rintro e wZ ⟨rfl, hbX⟩
  have hacc := hacc.trans (hbX.mono hacc.size)
  clear hbX
  go_wp2_with fail
  with_reducible refine (nmul_any A B _ (by omega) (by omega)).mono ?_
  rintro e wZ ⟨rfl, hbX⟩
  have hacc := hacc.trans (hbX.mono hacc.size)
  clear hbX
  go_wp2_with fail
  with_reducible refine (nmul_any A C _ (by omega) (by omega)).mono ?_
  rintro e wZ ⟨rfl, hbX⟩
  have hacc := hacc.trans (hbX.mono hacc.size)
  clear hbX
  go_wp2_with fail
  with_reducible refine (nadd_any (nb (bv A * bv B)) (nb (bv A * bv C)) _ (by omega) (by omega)).mono ?_
  rw [bv_nb, bv_nb]
  rintro e wZ ⟨rfl, hbX⟩
  have hacc := hacc.trans (hbX.mono hacc.size)
  clear hbX
  go_wp2_with fail
  with_reducible refine (nmul_any A ⟨#[]⟩ _ (by omega) (by decide)).mono ?_
  rw [san_e, Nat.mul_zero, nb_0]
  rintro e wZ ⟨rfl, hbX⟩
  have hacc := hacc.trans (hbX.mono hacc.size)
  clear hbX
  go_wp2_with fail
  with_reducible refine (nmul_any A ⟨#[1]⟩ _ (by omega) (by decide)).mono ?_
  rw [bv_1, Nat.mul_one]
  rintro e wZ ⟨rfl, hbX⟩
  have hacc := hacc.trans (hbX.mono hacc.size)
  clear hbX
  go_wp2_with fail
  go_ret
  exact ⟨rfl, hacc⟩
end Go.Proofs.YtjjmfigldhdccaaDoor
