/- The walk of concordlaw01.sanity. -/
import Derived.Test.YtjjmfigldhdccaaDoorG0
import Derived.Test.YtjjmfigldhdccaaDoorVx
import Derived.Test.YtjjmfigldhdccaaDoorVr
namespace Go.Proofs.YtjjmfigldhdccaaDoor
open Go.RowKit W
open Pl (bval enc bv nb bv_nb dec)
theorem san_i : bv ⟨#[0, 1, 0]⟩ = 256 := by decide +kernel
theorem san_e : bv ⟨#[]⟩ = 0 := by decide +kernel
theorem san_p : pB ⟨#[48, 48, 55]⟩ = false := by decide +kernel
theorem san_t : (⟨(dec (bv ⟨#[1, 0, 0]⟩)).toArray⟩ : ByteArray) = ⟨#[54, 53, 53, 51, 54]⟩ := by decide +kernel
set_option maxRecDepth 100000 in
set_option maxHeartbeats 8000000 in
theorem sanity_any (w : World) (hG : GT w) :
    Calls Tryd.prog 13 #[] w fun e w' => e = .returned (.bool true) ∧ Below w.heap.size w w' := by
  have hacc : Below w.heap.size w w := Below.refl _ _
  go_enter Tryd.func13, Tryd.ntmps13
  go_wp2_with fail
  with_reducible refine (nint_yes ⟨#[0, 1, 0]⟩ _ (by decide) (by decide +kernel)).mono ?_
  rw [san_i]
  rintro e w' ⟨rfl, rfl⟩
  go_wp2_with fail
  with_reducible refine (nof_any 256 _ (by omega) (by omega)).mono ?_
  rw [show (256 : Int).toNat = 256 from rfl, nb_256]
  rintro e wZ ⟨rfl, hbX⟩
  have hacc := hacc.trans (hbX.mono hacc.size)
  clear hbX
  go_wp2_with fail
  with_reducible refine (nof_neg (-1) _ (by omega)).mono ?_
  rw [show (-1 : Int).toNat = 0 from rfl, nb_0]
  rintro e w' ⟨rfl, rfl⟩
  go_wp2_with fail
  with_reducible refine (nof_any 3 _ (by omega) (by omega)).mono ?_
  rw [show (3 : Int).toNat = 3 from rfl]
  rintro e wZ ⟨rfl, hbX⟩
  have hacc := hacc.trans (hbX.mono hacc.size)
  clear hbX
  go_wp2_with fail
  with_reducible refine (nof_any 5 _ (by omega) (by omega)).mono ?_
  rw [show (5 : Int).toNat = 5 from rfl]
  rintro e wZ ⟨rfl, hbX⟩
  have hacc := hacc.trans (hbX.mono hacc.size)
  clear hbX
  go_wp2_with fail
  with_reducible refine (nsub_no (nb 3) (nb 5) _ (nbs (by decide) (by decide)) (nbs (by decide) (by decide)) (by rw [bv_nb, bv_nb]; decide)).mono ?_
  rintro e w' ⟨rfl, rfl⟩
  go_wp2_with fail
  with_reducible refine (nof_any 5 _ (by omega) (by omega)).mono ?_
  rw [show (5 : Int).toNat = 5 from rfl]
  rintro e wZ ⟨rfl, hbX⟩
  have hacc := hacc.trans (hbX.mono hacc.size)
  clear hbX
  go_wp2_with fail
  with_reducible refine (nof_any 3 _ (by omega) (by omega)).mono ?_
  rw [show (3 : Int).toNat = 3 from rfl]
  rintro e wZ ⟨rfl, hbX⟩
  have hacc := hacc.trans (hbX.mono hacc.size)
  clear hbX
  go_wp2_with fail
  with_reducible refine (nsub_yes (nb 5) (nb 3) _ (nbs (by decide) (by decide)) (nbs (by decide) (by decide)) (by rw [bv_nb, bv_nb]; decide)).mono ?_
  rw [bv_nb, bv_nb, show 5 - 3 = 2 from rfl]
  rintro e wZ ⟨rfl, hbX⟩
  have hacc := hacc.trans (hbX.mono hacc.size)
  clear hbX
  go_wp2_with fail
  with_reducible refine (nof_any 1000 _ (by omega) (by omega)).mono ?_
  rw [show (1000 : Int).toNat = 1000 from rfl]
  rintro e wZ ⟨rfl, hbX⟩
  have hacc := hacc.trans (hbX.mono hacc.size)
  clear hbX
  go_wp2_with fail
  with_reducible refine (nof_any 7 _ (by omega) (by omega)).mono ?_
  rw [show (7 : Int).toNat = 7 from rfl]
  rintro e wZ ⟨rfl, hbX⟩
  have hacc := hacc.trans (hbX.mono hacc.size)
  clear hbX
  go_wp2_with fail
  with_reducible refine (nquo_any (nb 1000) (nb 7) _ (nbs (by decide) (by decide)) (nbs (by decide) (by decide)) (by rw [bv_nb]; decide)).mono ?_
  rw [bv_nb, bv_nb, show 1000 / 7 = 142 from rfl, show 1000 % 7 = 6 from rfl]
  rintro e wZ ⟨rfl, hbX⟩
  have hacc := hacc.trans (hbX.mono hacc.size)
  clear hbX
  go_wp2_with fail
  with_reducible refine (nof_any 2 _ (by omega) (by omega)).mono ?_
  rw [show (2 : Int).toNat = 2 from rfl]
  rintro e wZ ⟨rfl, hbX⟩
  have hacc := hacc.trans (hbX.mono hacc.size)
  clear hbX
  go_wp2_with fail
  with_reducible refine (nof_any 142 _ (by omega) (by omega)).mono ?_
  rw [show (142 : Int).toNat = 142 from rfl]
  rintro e wZ ⟨rfl, hbX⟩
  have hacc := hacc.trans (hbX.mono hacc.size)
  clear hbX
  go_wp2_with fail
  with_reducible refine (nof_any 6 _ (by omega) (by omega)).mono ?_
  rw [show (6 : Int).toNat = 6 from rfl]
  rintro e wZ ⟨rfl, hbX⟩
  have hacc := hacc.trans (hbX.mono hacc.size)
  clear hbX
  go_wp2_with fail
  with_reducible refine (nof_any 12 _ (by omega) (by omega)).mono ?_
  rw [show (12 : Int).toNat = 12 from rfl]
  rintro e wZ ⟨rfl, hbX⟩
  have hacc := hacc.trans (hbX.mono hacc.size)
  clear hbX
  go_wp2_with fail
  with_reducible refine (nof_any 18 _ (by omega) (by omega)).mono ?_
  rw [show (18 : Int).toNat = 18 from rfl]
  rintro e wZ ⟨rfl, hbX⟩
  have hacc := hacc.trans (hbX.mono hacc.size)
  clear hbX
  go_wp2_with fail
  with_reducible refine (ngcd_any (nb 12) (nb 18) _ (nbs (by decide) (by decide)) (nbs (by decide) (by decide))).mono ?_
  rw [bv_nb, bv_nb, show Nat.gcd 12 18 = 6 by decide]
  rintro e wZ ⟨rfl, hbX⟩
  have hacc := hacc.trans (hbX.mono hacc.size)
  clear hbX
  go_wp2_with fail
  with_reducible refine (nof_any 6 _ (by omega) (by omega)).mono ?_
  rw [show (6 : Int).toNat = 6 from rfl]
  rintro e wZ ⟨rfl, hbX⟩
  have hacc := hacc.trans (hbX.mono hacc.size)
  clear hbX
  go_wp2_with fail
  with_reducible refine (nof_any 5 _ (by omega) (by omega)).mono ?_
  rw [show (5 : Int).toNat = 5 from rfl]
  rintro e wZ ⟨rfl, hbX⟩
  have hacc := hacc.trans (hbX.mono hacc.size)
  clear hbX
  go_wp2_with fail
  with_reducible refine (ngcd_any ⟨#[]⟩ (nb 5) _ (by decide) (nbs (by decide) (by decide))).mono ?_
  rw [san_e, bv_nb, show Nat.gcd 0 5 = 5 by decide]
  rintro e wZ ⟨rfl, hbX⟩
  have hacc := hacc.trans (hbX.mono hacc.size)
  clear hbX
  go_wp2_with fail
  with_reducible refine (nof_any 5 _ (by omega) (by omega)).mono ?_
  rw [show (5 : Int).toNat = 5 from rfl]
  rintro e wZ ⟨rfl, hbX⟩
  have hacc := hacc.trans (hbX.mono hacc.size)
  clear hbX
  go_wp2_with fail
  with_reducible refine (nof_any 3 _ (by omega) (by omega)).mono ?_
  rw [show (3 : Int).toNat = 3 from rfl]
  rintro e wZ ⟨rfl, hbX⟩
  have hacc := hacc.trans (hbX.mono hacc.size)
  clear hbX
  go_wp2_with fail
  with_reducible refine (nof_any 200 _ (by omega) (by omega)).mono ?_
  rw [show (200 : Int).toNat = 200 from rfl]
  rintro e wZ ⟨rfl, hbX⟩
  have hacc := hacc.trans (hbX.mono hacc.size)
  clear hbX
  go_wp2_with fail
  with_reducible refine (nof_any 1000 _ (by omega) (by omega)).mono ?_
  rw [show (1000 : Int).toNat = 1000 from rfl]
  rintro e wZ ⟨rfl, hbX⟩
  have hacc := hacc.trans (hbX.mono hacc.size)
  clear hbX
  go_wp2_with fail
  with_reducible refine (npow_any (nb 3) (nb 200) (nb 1000) _ (nbs (by decide) (by decide)) (nbs (by decide) (by decide)) (nbs (by decide) (by decide)) (by rw [bv_nb]; decide)).mono ?_
  rw [bv_nb, bv_nb, bv_nb, show 3 ^ 200 % 1000 = 1 by decide]
  rintro e wZ ⟨rfl, hbX⟩
  have hacc := hacc.trans (hbX.mono hacc.size)
  clear hbX
  go_wp2_with fail
  with_reducible refine (nof_any 5 _ (by omega) (by omega)).mono ?_
  rw [show (5 : Int).toNat = 5 from rfl]
  rintro e wZ ⟨rfl, hbX⟩
  have hacc := hacc.trans (hbX.mono hacc.size)
  clear hbX
  go_wp2_with fail
  with_reducible refine (nof_any 1 _ (by omega) (by omega)).mono ?_
  rw [show (1 : Int).toNat = 1 from rfl]
  rintro e wZ ⟨rfl, hbX⟩
  have hacc := hacc.trans (hbX.mono hacc.size)
  clear hbX
  go_wp2_with fail
  with_reducible refine (npow_any (nb 5) ⟨#[]⟩ (nb 1) _ (nbs (by decide) (by decide)) (by decide) (nbs (by decide) (by decide)) (by rw [bv_nb]; decide)).mono ?_
  rw [bv_nb, bv_nb, san_e, show 5 ^ 0 % 1 = 0 by decide, nb_0]
  rintro e wZ ⟨rfl, hbX⟩
  have hacc := hacc.trans (hbX.mono hacc.size)
  clear hbX
  go_wp2_with fail
  with_reducible refine (nparse_any ⟨#[48, 48, 55]⟩ _ (by decide)).mono ?_
  rw [san_p]
  rintro e wZ ⟨rfl, hbX⟩
  have hacc := hacc.trans (hbX.mono hacc.size)
  clear hbX
  go_wp2_with fail
  with_reducible refine (nof_any 255 _ (by omega) (by omega)).mono ?_
  rw [show (255 : Int).toNat = 255 from rfl]
  rintro e wZ ⟨rfl, hbX⟩
  have hacc := hacc.trans (hbX.mono hacc.size)
  clear hbX
  go_wp2_with fail
  with_reducible refine (nbits_any (nb 255) _ (nbs (by decide) (by decide))).mono ?_
  rw [bv_nb, show bitsN 255 = 8 by decide +kernel]
  rintro e w' ⟨rfl, rfl⟩
  go_wp2_with fail
  with_reducible refine (nof_any 256 _ (by omega) (by omega)).mono ?_
  rw [show (256 : Int).toNat = 256 from rfl]
  rintro e wZ ⟨rfl, hbX⟩
  have hacc := hacc.trans (hbX.mono hacc.size)
  clear hbX
  go_wp2_with fail
  with_reducible refine (nbits_any (nb 256) _ (nbs (by decide) (by decide))).mono ?_
  rw [bv_nb, show bitsN 256 = 9 by decide +kernel]
  rintro e w' ⟨rfl, rfl⟩
  go_wp2_with fail
  with_reducible refine (nof_any 1 _ (by omega) (by omega)).mono ?_
  rw [show (1 : Int).toNat = 1 from rfl]
  rintro e wZ ⟨rfl, hbX⟩
  have hacc := hacc.trans (hbX.mono hacc.size)
  clear hbX
  go_wp2_with fail
  with_reducible refine (ntext_any ⟨#[1, 0, 0]⟩ _ (by decide) (hG.below hacc)).mono ?_
  rw [san_t]
  rintro e wZ ⟨rfl, hbX⟩
  have hacc := hacc.trans (hbX.mono hacc.size)
  clear hbX
  go_wp2_with fail
  go_ret
  exact ⟨rfl, hacc⟩
end Go.Proofs.YtjjmfigldhdccaaDoor
