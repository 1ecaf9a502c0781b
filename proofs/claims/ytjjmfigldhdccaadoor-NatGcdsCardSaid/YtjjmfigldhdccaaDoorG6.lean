/- The walk of NatGcds. -/
import Derived.Test.YtjjmfigldhdccaaDoorG2
namespace Go.Proofs.YtjjmfigldhdccaaDoor
open Go.RowKit W
open Pl (bval enc bv nb bv_nb nb_size_le nb_size_zero nb_size_mono nb_bv_size bv_lt cmpN tk tk_zero tk_succ tk_pos)
theorem gcd_size {x y i j : Nat} (h : (nb x).size ≤ i) (h' : (nb y).size ≤ j) : (nb (Nat.gcd x y)).size ≤ i + j := by
  rcases Nat.eq_zero_or_pos x with rfl | hx
  · rw [Nat.gcd_zero_left]; omega
  · exact Nat.le_trans (nb_size_mono (Nat.le_of_dvd hx (Nat.gcd_dvd_left x y))) (by omega)
set_option maxRecDepth 100000 in
set_option maxHeartbeats 8000000 in
theorem gcds_walk (v0 v1 v2 : Value) (x y z : List UInt8) (w : World) (hx : BysR w v0 x) (hy : BysR w v1 y) (hz : BysR w v2 z) (hG : GT w) :
    Calls Tryd.prog 5 #[v0, v1, v2] w fun e w' => e = .returned (.bool true) ∧ Below w.heap.size w w' := by
  have hacc : Below w.heap.size w w := Below.refl _ _
  go_enter Tryd.func5, Tryd.ntmps5
  go_wp2_with fail
  with_reducible refine (sanity_any _ (hG.below hacc)).mono ?_
  rintro e wZ ⟨rfl, hbX⟩
  have hacc := hacc.trans (hbX.mono hacc.size)
  clear hbX
  go_upto_region 2 with fail
  go_cut [8, 9, 10] (fun s8 s9 s10 wx => s8 = .string (cutS x 20) ∧ s9 = .string (cutS y 20) ∧ s10 = .string (cutS z 20) ∧ Below w.heap.size w wx)
  case first =>
    obtain ⟨a1, c1, rfl, p1, q1, _⟩ := hx.open
    obtain ⟨a2, c2, rfl, p2, q2, _⟩ := hy.open
    obtain ⟨a3, c3, rfl, p3, q3, _⟩ := hz.open
    obtain ⟨k1, e1, f1, g1, j1⟩ := cut_min x 20
    obtain ⟨k2, e2, f2, g2, j2⟩ := cut_min y 20
    obtain ⟨k3, e3, f3, g3, j3⟩ := cut_min z 20
    simp only [show ((20 : Nat) : Int) = 20 from rfl] at e1 e2 e3
    have m1 := Lib.hid (fun n => made_cut a1 c1 k1 20 x w (wZ.drewN n) hx (below_drewN hacc n) f1 (by omega) j1)
    have m2 := Lib.hid (fun n => made_cut a2 c2 k2 20 y w (wZ.drewN n) hy (below_drewN hacc n) f2 (by omega) j2)
    have m3 := Lib.hid (fun n => made_cut a3 c3 k3 20 z w (wZ.drewN n) hz (below_drewN hacc n) f3 (by omega) j3)
    clear j1 j2 j3 hx hy hz
    go_quiet (first | (go_at_call 14; first | with_reducible exact Calls.quiet_of_same (m1.out _) | with_reducible exact Calls.quiet_of_same (m2.out _) | with_reducible exact Calls.quiet_of_same (m3.out _)))
    go_wp2_with fail
    go_meet
    exact ⟨rfl, rfl, rfl, below_drewN hacc _⟩
  case rest =>
    obtain ⟨rfl, rfl, rfl, hacc⟩ := hcut
    have hA := cutS_size x 20
    have hB := cutS_size y 20
    have hC := cutS_size z 20
    generalize cutS x 20 = A at *
    generalize cutS y 20 = B at *
    generalize cutS z 20 = C at *
    have pAC := size_mul (bv_bound hA) (bv_bound hC)
    have pBC := size_mul (bv_bound hB) (bv_bound hC)
    have E1 := Lib.hid (Nat.gcd_comm (bv B) (bv A))
    have E2 := Lib.hid (Nat.gcd_mul_right (bv A) (bv C) (bv B))
    have sG : (nb (Nat.gcd (bv A) (bv B))).size ≤ 40 := gcd_size (bv_bound hA) (bv_bound hB)
    go_wp2_with fail
    with_reducible refine (ngcd_any A B _ (by omega) (by omega)).mono ?_
    rintro e wZ ⟨rfl, hbX⟩
    have hacc := hacc.trans (hbX.mono hacc.size)
    clear hbX
    go_wp2_with fail
    with_reducible refine (rgcd_any A B _ (by omega) (by omega)).mono ?_
    rintro e wZ ⟨rfl, hbX⟩
    have hacc := hacc.trans (hbX.mono hacc.size)
    clear hbX
    go_wp2_with fail
    with_reducible refine (ngcd_any B A _ (by omega) (by omega)).mono ?_
    rw [E1.out]
    rintro e wZ ⟨rfl, hbX⟩
    have hacc := hacc.trans (hbX.mono hacc.size)
    clear hbX
    go_wp2_with fail
    with_reducible refine (mul_any A C _ (by omega) (by omega)).mono ?_
    rintro e wZ ⟨rfl, hbX⟩
    have hacc := hacc.trans (hbX.mono hacc.size)
    clear hbX
    go_wp2_with fail
    with_reducible refine (mul_any B C _ (by omega) (by omega)).mono ?_
    rintro e wZ ⟨rfl, hbX⟩
    have hacc := hacc.trans (hbX.mono hacc.size)
    clear hbX
    go_wp2_with fail
    with_reducible refine (ngcd_any (nb (bv A * bv C)) (nb (bv B * bv C)) _ (by omega) (by omega)).mono ?_
    rw [bv_nb, bv_nb, E2.out]
    rintro e wZ ⟨rfl, hbX⟩
    have hacc := hacc.trans (hbX.mono hacc.size)
    clear hbX
    go_wp2_with fail
    with_reducible refine (mul_any (nb (Nat.gcd (bv A) (bv B))) C _ (by omega) (by omega)).mono ?_
    rw [bv_nb]
    rintro e wZ ⟨rfl, hbX⟩
    have hacc := hacc.trans (hbX.mono hacc.size)
    clear hbX
    go_wp2_with fail
    go_ret
    exact ⟨rfl, hacc⟩
end Go.Proofs.YtjjmfigldhdccaaDoor
