/- The walk of NatQuos. -/
import Derived.Test.YtjjmfigldhdccaaDoorG2
namespace Go.Proofs.YtjjmfigldhdccaaDoor
open Go.RowKit W
open Pl (bval enc bv nb bv_nb nb_size_le nb_size_zero nb_size_mono nb_bv_size bv_lt cmpN tk tk_zero tk_succ tk_pos)
theorem app_size {a A : ByteArray} {i j k : Nat} (h : a.size ≤ i) (h' : A.size ≤ j) (hk : i + j ≤ k) : (a ++ A).size ≤ k := by rw [ByteArray.size_append]; omega
set_option maxRecDepth 100000 in
set_option maxHeartbeats 8000000 in
theorem quos_walk (v0 v1 : Value) (x y : List UInt8) (m : Int) (w : World) (hx : BysR w v0 x) (hy : BysR w v1 y) (hm0 : 0 ≤ m) (hm1 : m < 256) (hG : GT w) :
    Calls Tryd.prog 4 #[v0, v1, .int .u8 m] w fun e w' => e = .returned (.bool true) ∧ Below w.heap.size w w' := by
  have hacc : Below w.heap.size w w := Below.refl _ _
  go_enter Tryd.func4, Tryd.ntmps4
  go_wp2_with fail
  with_reducible refine (sanity_any _ (hG.below hacc)).mono ?_
  rintro e wZ ⟨rfl, hbX⟩
  have hacc := hacc.trans (hbX.mono hacc.size)
  clear hbX
  go_wp2_with fail
  with_reducible refine (made_any v0 x _ (hx.below hacc)).mono ?_
  rintro e w' ⟨rfl, rfl⟩
  have hA := cutS_size x 40
  generalize cutS x 40 = A at *
  go_wp2_with fail
  with_reducible refine (made_any v1 y _ (hy.below hacc)).mono ?_
  rintro e w' ⟨rfl, rfl⟩
  have hB := cutS_size y 40
  generalize cutS y 40 = B at *
  have pAB := size_mul (bv_bound hA) (bv_bound hB)
  obtain ⟨mo, hmo⟩ : ∃ mo : Nat, m = mo := ⟨m.toNat, by omega⟩
  subst hmo
  have hmn : mo < 256 := by omega
  have sM : (nb mo).size ≤ 40 := nbs (show mo < 256 ^ 8 by omega) (by decide)
  go_wp2_with fail
  with_reducible refine (mul_any A B _ (by omega) (by omega)).mono ?_
  rintro e wZ ⟨rfl, hbX⟩
  have hacc := hacc.trans (hbX.mono hacc.size)
  clear hbX
  go_wp2_with fail
  with_reducible refine (rofT _ (mo : Int) (by omega)).mono ?_
  rw [Int.toNat_natCast]
  rintro e wZ ⟨rfl, hbX⟩
  have hacc := hacc.trans (hbX.mono hacc.size)
  clear hbX
  go_wp2_with fail
  with_reducible refine (add_any (nb (bv A * bv B)) (nb mo) _ (by omega) (by omega)).mono ?_
  rw [bv_nb, bv_nb]
  rintro e wZ ⟨rfl, hbX⟩
  have hacc := hacc.trans (hbX.mono hacc.size)
  clear hbX
  have sN := add_size pAB (show (nb mo).size ≤ 40 + 40 by omega)
  go_wp2_with fail
  with_reducible refine (mul_any A B _ (by omega) (by omega)).mono ?_
  rintro e wZ ⟨rfl, hbX⟩
  have hacc := hacc.trans (hbX.mono hacc.size)
  clear hbX
  go_wp2_with fail
  with_reducible refine (rofT _ (mo : Int) (by omega)).mono ?_
  rw [Int.toNat_natCast]
  rintro e wZ ⟨rfl, hbX⟩
  have hacc := hacc.trans (hbX.mono hacc.size)
  clear hbX
  go_wp2_with fail
  with_reducible refine (rsubT (nb (bv A * bv B)) (nb mo) _ (by omega) (by omega)).mono ?_
  rw [bv_nb, bv_nb]
  rintro e wZ ⟨rfl, hbX⟩
  have hacc := hacc.trans (hbX.mono hacc.size)
  clear hbX
  have sL := subS_size (y := mo) pAB
  generalize nb (bv A * bv B + mo) = N at *
  generalize subS (bv A * bv B) mo = Lo at *
  clear pAB sM
  have bH : Rw (wZ.alloc (.cells #[.string ⟨#[127, 255, 255, 255, 128, 0, 0, 0, 0, 0, 0, 0, 0, 0, 0, 0]⟩, .string ⟨#[128, 0, 0, 0, 0, 0, 0, 0, 0, 0, 0, 1]⟩] 31)) wZ.heap.size [.string ⟨#[127, 255, 255, 255, 128, 0, 0, 0, 0, 0, 0, 0, 0, 0, 0, 0]⟩, .string ⟨#[128, 0, 0, 0, 0, 0, 0, 0, 0, 0, 0, 1]⟩] := Rw.new wZ _ rfl [.string ⟨#[127, 255, 255, 255, 128, 0, 0, 0, 0, 0, 0, 0, 0, 0, 0, 0]⟩, .string ⟨#[128, 0, 0, 0, 0, 0, 0, 0, 0, 0, 0, 1]⟩] 31
  have hacc := hacc.alloc hacc.size (.cells #[.string ⟨#[127, 255, 255, 255, 128, 0, 0, 0, 0, 0, 0, 0, 0, 0, 0, 0]⟩, .string ⟨#[128, 0, 0, 0, 0, 0, 0, 0, 0, 0, 0, 1]⟩] 31)
  have p0 := bH.at 0 rfl
  have p1 := bH.at 1 rfl
  go_upto_region 6 with fail
  generalize wZ.heap.size = gH at *
  generalize wZ.alloc (.cells #[.string ⟨#[127, 255, 255, 255, 128, 0, 0, 0, 0, 0, 0, 0, 0, 0, 0, 0]⟩, .string ⟨#[128, 0, 0, 0, 0, 0, 0, 0, 0, 0, 0, 1]⟩] 31) = WH at *
  have bL : SomeStrs (WH.alloc (.cells #[.string A, .string B, .string B, .string A, .string N, .string B, .string Lo, .string B, .string N, .string A, .string ⟨#[127, 255, 255, 255, 128, 0, 0, 0, 0, 0, 0, 0, 0, 0, 0, 0]⟩, .string ⟨#[128, 0, 0, 0, 0, 0, 0, 0, 0, 0, 0, 1]⟩, .string ((⟨#[127, 255, 255, 255, 128, 0, 0, 0, 0, 0, 0, 0, 0, 0, 0, 0]⟩ : ByteArray) ++ A), .string ((⟨#[128, 0, 0, 0, 0, 0, 0, 0, 0, 0, 0, 1]⟩ : ByteArray) ++ B)] 31)) WH.heap.size 14 90 := SomeStrs.newL WH _ rfl [A, B, B, A, N, B, Lo, B, N, A, ⟨#[127, 255, 255, 255, 128, 0, 0, 0, 0, 0, 0, 0, 0, 0, 0, 0]⟩, ⟨#[128, 0, 0, 0, 0, 0, 0, 0, 0, 0, 0, 1]⟩, ((⟨#[127, 255, 255, 255, 128, 0, 0, 0, 0, 0, 0, 0, 0, 0, 0, 0]⟩ : ByteArray) ++ A), ((⟨#[128, 0, 0, 0, 0, 0, 0, 0, 0, 0, 0, 1]⟩ : ByteArray) ++ B)] 90 (by simp only [List.forall_mem_cons]; exact ⟨by omega, by omega, by omega, by omega, by omega, by omega, by omega, by omega, by omega, by omega, by decide, by decide, app_size (i := 16) (by decide) hA (by decide), app_size (i := 12) (by decide) hB (by decide), by simp⟩) 31
  have hacc := hacc.alloc hacc.size (.cells #[.string A, .string B, .string B, .string A, .string N, .string B, .string Lo, .string B, .string N, .string A, .string ⟨#[127, 255, 255, 255, 128, 0, 0, 0, 0, 0, 0, 0, 0, 0, 0, 0]⟩, .string ⟨#[128, 0, 0, 0, 0, 0, 0, 0, 0, 0, 0, 1]⟩, .string ((⟨#[127, 255, 255, 255, 128, 0, 0, 0, 0, 0, 0, 0, 0, 0, 0, 0]⟩ : ByteArray) ++ A), .string ((⟨#[128, 0, 0, 0, 0, 0, 0, 0, 0, 0, 0, 1]⟩ : ByteArray) ++ B)] 31)
  go_wp2_with fail
  generalize WH.heap.size = gL at *
  generalize WH.alloc (.cells #[.string A, .string B, .string B, .string A, .string N, .string B, .string Lo, .string B, .string N, .string A, .string ⟨#[127, 255, 255, 255, 128, 0, 0, 0, 0, 0, 0, 0, 0, 0, 0, 0]⟩, .string ⟨#[128, 0, 0, 0, 0, 0, 0, 0, 0, 0, 0, 1]⟩, .string ((⟨#[127, 255, 255, 255, 128, 0, 0, 0, 0, 0, 0, 0, 0, 0, 0, 0]⟩ : ByteArray) ++ A), .string ((⟨#[128, 0, 0, 0, 0, 0, 0, 0, 0, 0, 0, 1]⟩ : ByteArray) ++ B)] 31) = WL at *
  clear bH p0 p1
  go_loopw [72] (fun i wr => ∃ k : Nat, k ≤ 7 ∧ i = .int .i64 k ∧ SomeStrs wr gL 14 90 ∧ Below w.heap.size w wr) (fun i _ => 7 - (intOf i).toNat)
  case atStart => exact ⟨0, by omega, rfl, bL, hacc⟩
  case round =>
    clear bL hacc
    obtain ⟨k, hk, rfl, bL, hacc⟩ := hrel
    by_cases hlt : k < 7
    · have hk0 : (0 : Int) ≤ (k : Int) := by omega
      have hk4 : (k : Int) < 7 := by omega
      obtain ⟨s1, z1, h1⟩ := bL.2 (k * 2) (by omega)
      obtain ⟨s2, z2, h2⟩ := bL.2 (k * 2 + 1) (by omega)
      have bP : Rw (wr.alloc (.cells #[.string s1, .string s2] 31)) wr.heap.size [.string s1, .string s2] := Rw.new wr _ rfl [.string s1, .string s2] 31
      have dgL := bL.lt
      have hacc := hacc.alloc hacc.size (.cells #[.string s1, .string s2] 31)
      have bL := bL.alloc (.cells #[.string s1, .string s2] 31)
      have p0 := bP.at 0 rfl
      have p1 := bP.at 1 rfl
      go_wp2_with fail
      clear h1 h2
      generalize wr.heap.size = gP at *
      generalize wr.alloc (.cells #[.string s1, .string s2] 31) = WP at *
      have ngLgP : gL ≠ gP := by omega
      clear dgL p0 p1
      have p0 := bP.at 0 rfl
      have p1 := bP.at 1 rfl
      go_wp2_with fail
      with_reducible refine (nquoT s1 s2 _ (by omega) (by omega)).mono ?_
      rintro e wZ ⟨rfl, hbX⟩
      have hacc := hacc.trans (hbX.mono hacc.size)
      have bL := bL.below hbX
      have bP := bP.below hbX
      clear hbX
      have p0 := bP.at 0 rfl
      have p1 := bP.at 1 rfl
      go_wp2_with fail
      with_reducible refine (rquoT s1 s2 _ (by omega) (by omega)).mono ?_
      rintro e wZ ⟨rfl, hbX⟩
      have hacc := hacc.trans (hbX.mono hacc.size)
      have bL := bL.below hbX
      have bP := bP.below hbX
      clear hbX
      have p0 := bP.at 0 rfl
      have p1 := bP.at 1 rfl
      go_wp2_with fail
      go_roundw
      case rel => exact ⟨k + 1, by omega, by go_num, bL, hacc⟩
      case measure => simp [intOf]; omega
    · have hk4 : ¬ (k : Int) < 7 := by omega
      go_wp2_with fail
      go_ret
      exact ⟨rfl, hacc⟩
end Go.Proofs.YtjjmfigldhdccaaDoor
