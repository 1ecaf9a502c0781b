/- The walk of NatDivides. -/
import Derived.Test.YtjjmfigldhdccaaDoorG4
namespace Go.Proofs.YtjjmfigldhdccaaDoor
open Go.RowKit W
open Pl (bval enc bv nb bv_nb nb_size_le nb_size_zero nb_size_mono nb_bv_size bv_lt cmpN tk tk_zero tk_succ tk_pos)
theorem bits_0 : bitsN 0 = 0 := rfl
theorem bits_pos {n : Nat} (h : 0 < n) : 0 < bitsN n := by unfold bitsN; rw [if_neg (by omega)]; omega
theorem bits_lt (n : Nat) : n < 2 ^ bitsN n := by
  unfold bitsN
  split
  · omega
  · exact Nat.lt_log2_self
theorem bits_ge {n : Nat} (h : 0 < n) : 2 ^ bitsN n ≤ n * 2 := by
  unfold bitsN
  rw [if_neg (by omega), Nat.pow_succ]
  exact Nat.mul_le_mul_right 2 (Nat.log2_self_le (by omega))
theorem bits_le {n k : Nat} (h : (nb n).size ≤ k) : bitsN n ≤ 8 * k := by
  rcases Nat.eq_zero_or_pos n with rfl | hp
  · rw [bits_0]; omega
  · have h1 := nb_size_le.1 h
    have h2 := bits_ge hp
    rw [show (256 : Nat) = 2 ^ 8 from rfl, ← Nat.pow_mul] at h1
    have h3 : 2 ^ bitsN n < 2 ^ (8 * k + 1) := by rw [Nat.pow_succ]; omega
    have := (Nat.pow_lt_pow_iff_right (show 1 < 2 by decide)).1 h3
    omega
theorem bits_mul {x y : Nat} (hy : 0 < y) : (bitsN x = 0 ∧ bitsN (x * y) = 0) ∨ (0 < bitsN x ∧ (bitsN (x * y) = bitsN x + bitsN y ∨ bitsN x + bitsN y = bitsN (x * y) + 1)) := by
  rcases Nat.eq_zero_or_pos x with rfl | hx
  · left; rw [Nat.zero_mul]; exact ⟨rfl, rfl⟩
  · right
    refine ⟨bits_pos hx, ?_⟩
    have hp : 0 < x * y := Nat.mul_pos hx hy
    have a1 := bits_lt x
    have a2 := bits_ge hx
    have b1 := bits_lt y
    have b2 := bits_ge hy
    have c1 := bits_lt (x * y)
    have c2 := bits_ge hp
    have d1 : x * y < 2 ^ (bitsN x + bitsN y) := by rw [Nat.pow_add]; exact Nat.mul_lt_mul'' a1 b1
    have d2 : 2 ^ (bitsN x + bitsN y) ≤ x * y * 4 := by rw [Nat.pow_add]; have := Nat.mul_le_mul a2 b2; grind
    have e1 : 2 ^ bitsN (x * y) < 2 ^ (bitsN x + bitsN y + 1) := by rw [Nat.pow_succ]; omega
    have e2 : 2 ^ (bitsN x + bitsN y) < 2 ^ (bitsN (x * y) + 2) := by rw [Nat.pow_add 2 _ 2]; omega
    have f1 := (Nat.pow_lt_pow_iff_right (show 1 < 2 by decide)).1 e1
    have f2 := (Nat.pow_lt_pow_iff_right (show 1 < 2 by decide)).1 e2
    omega
theorem cmp_mod (x : Nat) {y : Nat} (h : 0 < y) : cmpN (x % y) y = -1 := Pl.cmpN_lt (Nat.mod_lt x h)
theorem cmp_self (x : Nat) : cmpN x x = 0 := Pl.cmpN_eq rfl
set_option maxRecDepth 100000 in
set_option maxHeartbeats 8000000 in
theorem divides_walk (v0 v1 : Value) (x y : List UInt8) (w : World) (hx : BysR w v0 x) (hy : BysR w v1 y) (hG : GT w) :
    Calls Tryd.prog 12 #[v0, v1] w fun e w' => e = .returned (.bool true) ∧ Below w.heap.size w w' := by
  have hacc : Below w.heap.size w w := Below.refl _ _
  go_enter Tryd.func12, Tryd.ntmps12
  go_wp2_with fail
  with_reducible refine (sanity_any _ (hG.below hacc)).mono ?_
  rintro e wZ ⟨rfl, hbX⟩
  have hacc := hacc.trans (hbX.mono hacc.size)
  clear hbX
  go_wp2_with fail
  with_reducible refine (made_any v0 x _ (hx.below hacc)).mono ?_
  rintro e w' ⟨rfl, rfl⟩
  have hA := cutS_size x 40
  generalize cutS x 40 = A at *
  go_wp2_with fail
  with_reducible refine (made_any v1 y _ (hy.below hacc)).mono ?_
  rintro e w' ⟨rfl, rfl⟩
  have hB := cutS_size y 40
  generalize cutS y 40 = B at *
  have sA := bv_bound hA
  have sB := bv_bound hB
  rcases Nat.eq_zero_or_pos (bv B) with h0 | h0
  · have hq := Lib.hid (fun W => nquo_zero A B W (by omega) h0)
    go_wp2_with fail
    with_reducible refine (hq.out _).mono ?_
    rintro e wZ ⟨rfl, hbX⟩
    have hacc := hacc.trans (hbX.mono hacc.size)
    clear hbX
    go_wp2_with fail
    with_reducible refine (nbits_any B _ (by omega)).mono ?_
    rw [h0, bits_0]
    rintro e w' ⟨rfl, rfl⟩
    go_wp2_with fail
    go_ret
    exact ⟨rfl, hacc⟩
  · have hb := bits_pos h0
    have hbl := bits_le sB
    have hal := bits_le sA
    have hpl := bits_le (size_mul sA sB)
    have hm := Lib.hid (bits_mul h0 (x := bv A))
    have c1 := Lib.hid (cmp_mod (bv A) h0)
    have e1 := Lib.hid (Nat.div_add_mod (bv A) (bv B))
    have c2 := Lib.hid (cmp_self (bv A))
    have sR : (nb (bv A % bv B)).size ≤ 40 := Nat.le_trans (nb_size_mono (Nat.le_of_lt (Nat.mod_lt _ h0))) sB
    have sQ : (nb (bv A / bv B)).size ≤ 40 := Nat.le_trans (nb_size_mono (Nat.div_le_self _ _)) sA
    have sP := size_mul sB sQ
    go_wp2_with fail
    with_reducible refine (nquo_any A B _ (by omega) (by omega) h0).mono ?_
    rintro e wZ ⟨rfl, hbX⟩
    have hacc := hacc.trans (hbX.mono hacc.size)
    clear hbX
    go_wp2_with fail
    with_reducible refine (nbits_any B _ (by omega)).mono ?_
    rintro e w' ⟨rfl, rfl⟩
    go_wp2_with fail
    with_reducible refine (ncmp_any (nb (bv A % bv B)) B _ (by omega) (by omega)).mono ?_
    rw [bv_nb, c1.out]
    rintro e w' ⟨rfl, rfl⟩
    go_wp2_with fail
    with_reducible refine (nmul_any B (nb (bv A / bv B)) _ (by omega) (by omega)).mono ?_
    rw [bv_nb]
    rintro e wZ ⟨rfl, hbX⟩
    have hacc := hacc.trans (hbX.mono hacc.size)
    clear hbX
    go_wp2_with fail
    with_reducible refine (nadd_any (nb (bv B * (bv A / bv B))) (nb (bv A % bv B)) _ (by omega) (by omega)).mono ?_
    rw [bv_nb, bv_nb, e1.out]
    rintro e wZ ⟨rfl, hbX⟩
    have hacc := hacc.trans (hbX.mono hacc.size)
    clear hbX
    go_wp2_with fail
    with_reducible refine (ncmp_any (nb (bv A)) A _ (by omega) (by omega)).mono ?_
    rw [bv_nb, c2.out]
    rintro e w' ⟨rfl, rfl⟩
    go_wp2_with fail
    with_reducible refine (nright_any (nb (bv A / bv B)) _ (by omega)).mono ?_
    rw [rightB_nb]
    rintro e w' ⟨rfl, rfl⟩
    go_wp2_with fail
    with_reducible refine (nright_any (nb (bv A % bv B)) _ (by omega)).mono ?_
    rw [rightB_nb]
    rintro e w' ⟨rfl, rfl⟩
    go_wp2_with fail
    with_reducible refine (nbits_any A _ (by omega)).mono ?_
    rintro e w' ⟨rfl, rfl⟩
    go_wp2_with fail
    with_reducible refine (nbits_any B _ (by omega)).mono ?_
    rintro e w' ⟨rfl, rfl⟩
    have sAB := size_mul sA sB
    go_wp2_with fail
    with_reducible refine (nmul_any A B _ (by omega) (by omega)).mono ?_
    rintro e wZ ⟨rfl, hbX⟩
    have hacc := hacc.trans (hbX.mono hacc.size)
    clear hbX
    go_wp2_with fail
    with_reducible refine (nbits_any (nb (bv A * bv B)) _ (by omega)).mono ?_
    rw [bv_nb]
    rintro e w' ⟨rfl, rfl⟩
    have nb1 := Lib.hid (fun W => nbits_any A W (by omega))
    have nb2 := Lib.hid (fun W => nbits_any B W (by omega))
    generalize bitsN (bv A * bv B) = bp at *
    generalize bitsN (bv A) = ba at *
    generalize bitsN (bv B) = bb at *
    clear hpl
    obtain ⟨h1, h2⟩ | ⟨h1, h2 | h2⟩ := hm.out
    · subst h1 h2
      go_wp2_with fail
      with_reducible refine (nb1.out _).mono ?_
      rintro e w' ⟨rfl, rfl⟩
      go_wp2_with fail
      with_reducible refine (nb2.out _).mono ?_
      rintro e w' ⟨rfl, rfl⟩
      go_wp2_with fail
      go_ret
      exact ⟨rfl, hacc⟩
    · subst h2
      go_wp2_with fail
      with_reducible refine (nb1.out _).mono ?_
      rintro e w' ⟨rfl, rfl⟩
      go_wp2_with fail
      with_reducible refine (nb1.out _).mono ?_
      rintro e w' ⟨rfl, rfl⟩
      go_wp2_with fail
      go_ret
      exact ⟨rfl, hacc⟩
    · have hf := Lib.hid (show ((ba : Int) + bb - bp == 0 || (ba : Int) + bb - bp == 1) = true by simp only [Bool.or_eq_true, beq_iff_eq]; omega)
      go_wp2_with fail
      with_reducible refine (nb1.out _).mono ?_
      rintro e w' ⟨rfl, rfl⟩
      go_wp2_with fail
      with_reducible refine (nb1.out _).mono ?_
      rintro e w' ⟨rfl, rfl⟩
      go_wp2_with fail
      go_ret
      exact ⟨ret_bool hf.out, hacc⟩
end Go.Proofs.YtjjmfigldhdccaaDoor
