/- Contracts of nat and of its reference, as total functions of the numbers. -/
import Derived.Test.YtjjmfigldhdccaaDoorG1
import Derived.Test.YtjjmfigldhdccaaDoorZf
namespace Go.Proofs.YtjjmfigldhdccaaDoor
open Go.RowKit W
open Pl (bval enc bv nb bv_nb nb_size_le nb_size_zero nb_size_mono nb_bv_size bv_lt cmpN)
def subS (x y : Nat) : ByteArray := if y ≤ x then nb (x - y) else ⟨#[]⟩
def subB (x y : Nat) : Bool := decide (y ≤ x)
def quoQ (x y : Nat) : ByteArray := if 0 < y then nb (x / y) else ⟨#[]⟩
def quoR (x y : Nat) : ByteArray := if 0 < y then nb (x % y) else ⟨#[]⟩
def quoB (y : Nat) : Bool := decide (0 < y)
def powS (x e y : Nat) : ByteArray := if 0 < y then nb (x ^ e % y) else ⟨#[]⟩
def intN (x : Nat) : Int := if x < 9223372036854775808 then x else 0
def intB (x : Nat) : Bool := decide (x < 9223372036854775808)
theorem ret_t2 {a b c d : Value} (h : a = c) (h' : b = d) : Ending.returned (.tuple #[a, b]) = .returned (.tuple #[c, d]) := by rw [h, h']
section
variable (s t : ByteArray) (w : World)
theorem nsubT (hs : s.size ≤ 1073741823) (ht : t.size ≤ 1073741823) :
    Calls Tryd.prog 38 #[.string s, .string t] w fun e w' => e = .returned (.tuple #[.string (subS (bv s) (bv t)), .bool (subB (bv s) (bv t))]) ∧ Below w.heap.size w w' := by
  rcases Nat.lt_or_ge (bv s) (bv t) with h | h
  · refine (nsub_no s t w hs ht h).mono ?_
    rintro e w' ⟨rfl, rfl⟩
    exact ⟨by rw [subS, if_neg (by omega), subB, decide_eq_false (by omega)], Below.refl _ _⟩
  · refine (nsub_yes s t w hs ht h).mono ?_
    rintro e w' ⟨rfl, hb⟩
    exact ⟨by rw [subS, if_pos h, subB, decide_eq_true h], hb⟩
theorem rsubT (hs : s.size ≤ 1073741823) (ht : t.size ≤ 1073741823) :
    Calls Tryd.prog 19 #[.string s, .string t] w fun e w' => e = .returned (.tuple #[.string (subS (bv s) (bv t)), .bool (subB (bv s) (bv t))]) ∧ Below w.heap.size w w' := by
  rcases Nat.lt_or_ge (bv s) (bv t) with h | h
  · refine (sub_no s t w hs ht h).mono ?_
    rintro e w' ⟨rfl, rfl⟩
    exact ⟨by rw [nb_0, subS, if_neg (by omega), subB, decide_eq_false (by omega)], Below.refl _ _⟩
  · refine (sub_yes s t w hs ht h).mono ?_
    rintro e w' ⟨rfl, hb⟩
    exact ⟨by rw [subS, if_pos h, subB, decide_eq_true h], hb⟩
theorem nquoT (hs : s.size ≤ 134217728) (ht : t.size ≤ 134217728) :
    Calls Tryd.prog 20 #[.string s, .string t] w fun e w' => e = .returned (.tuple #[.string (quoQ (bv s) (bv t)), .string (quoR (bv s) (bv t)), .bool (quoB (bv t))]) ∧ Below w.heap.size w w' := by
  rcases Nat.eq_zero_or_pos (bv t) with h | h
  · refine (nquo_zero s t w (by omega) h).mono ?_
    rintro e w' ⟨rfl, hb⟩
    exact ⟨by rw [quoQ, quoR, if_neg (by omega), if_neg (by omega), quoB, decide_eq_false (by omega)], hb⟩
  · refine (nquo_any s t w (by omega) (by omega) h).mono ?_
    rintro e w' ⟨rfl, hb⟩
    exact ⟨by rw [quoQ, quoR, if_pos h, if_pos h, quoB, decide_eq_true h], hb⟩
theorem rquoT (hs : s.size ≤ 134217728) (ht : t.size ≤ 134217728) :
    Calls Tryd.prog 21 #[.string s, .string t] w fun e w' => e = .returned (.tuple #[.string (quoQ (bv s) (bv t)), .string (quoR (bv s) (bv t)), .bool (quoB (bv t))]) ∧ Below w.heap.size w w' := by
  rcases Nat.eq_zero_or_pos (bv t) with h | h
  · refine (quo0_any s t w ht h).mono ?_
    rintro e w' ⟨rfl, rfl⟩
    exact ⟨by rw [quoQ, quoR, if_neg (by omega), if_neg (by omega), quoB, decide_eq_false (by omega)], Below.refl _ _⟩
  · refine (quo_any s t w hs ht h).mono ?_
    rintro e w' ⟨rfl, hb⟩
    exact ⟨by rw [quoQ, quoR, if_pos h, if_pos h, quoB, decide_eq_true h], hb⟩
theorem npowT (m : ByteArray) (hs : s.size ≤ 1048576) (ht : t.size ≤ 1048576) (hm : m.size ≤ 1048576) :
    Calls Tryd.prog 24 #[.string s, .string t, .string m] w fun e w' => e = .returned (.tuple #[.string (powS (bv s) (bv t) (bv m)), .bool (quoB (bv m))]) ∧ Below w.heap.size w w' := by
  rcases Nat.eq_zero_or_pos (bv m) with h | h
  · refine (npow_zero s t m w (by omega) (by omega) h).mono ?_
    rintro e w' ⟨rfl, hb⟩
    exact ⟨by rw [powS, if_neg (by omega), quoB, decide_eq_false (by omega)], hb⟩
  · refine (npow_any s t m w (by omega) (by omega) (by omega) h).mono ?_
    rintro e w' ⟨rfl, hb⟩
    exact ⟨by rw [powS, if_pos h, quoB, decide_eq_true h], hb⟩
theorem rpowT (m : ByteArray) (hs : s.size ≤ 1048576) (ht : t.size ≤ 1048576) (hm : m.size ≤ 1048576) :
    Calls Tryd.prog 25 #[.string s, .string t, .string m] w fun e w' => e = .returned (.tuple #[.string (powS (bv s) (bv t) (bv m)), .bool (quoB (bv m))]) ∧ Below w.heap.size w w' := by
  rcases Nat.eq_zero_or_pos (bv m) with h | h
  · refine (rpow_zero s t m w (by omega) h).mono ?_
    rintro e w' ⟨rfl, rfl⟩
    exact ⟨by rw [powS, if_neg (by omega), quoB, decide_eq_false (by omega)], Below.refl _ _⟩
  · refine (rpow_any s t m w (by omega) (by omega) (by omega) h).mono ?_
    rintro e w' ⟨rfl, hb⟩
    exact ⟨by rw [powS, if_pos h, quoB, decide_eq_true h], hb⟩
theorem nintT (hs : s.size ≤ 4294967296) :
    Calls Tryd.prog 32 #[.string s] w fun e w' => e = .returned (.tuple #[.int .i64 (intN (bv s)), .bool (intB (bv s))]) ∧ w = w' := by
  rcases Nat.lt_or_ge (bv s) 9223372036854775808 with h | h
  · refine (nint_yes s w hs h).mono ?_
    rintro e w' ⟨rfl, rfl⟩
    exact ⟨by rw [intN, if_pos h, intB, decide_eq_true h], rfl⟩
  · refine (nint_no s w hs h).mono ?_
    rintro e w' ⟨rfl, rfl⟩
    exact ⟨by rw [intN, if_neg (by omega), intB, decide_eq_false (by omega)], rfl⟩
theorem rintT (hs : s.size ≤ 4294967296) :
    Calls Tryd.prog 33 #[.string s] w fun e w' => e = .returned (.tuple #[.int .i64 (intN (bv s)), .bool (intB (bv s))]) ∧ w = w' := by
  rcases Nat.lt_or_ge (bv s) 9223372036854775808 with h | h
  · refine (int_yes s w hs h).mono ?_
    rintro e w' ⟨rfl, rfl⟩
    exact ⟨by rw [intN, if_pos h, intB, decide_eq_true h], rfl⟩
  · refine (int_no s w hs h).mono ?_
    rintro e w' ⟨rfl, rfl⟩
    exact ⟨by rw [intN, if_neg (by omega), intB, decide_eq_false (by omega)], rfl⟩
theorem nofT (n : Int) (h1 : n ≤ 9223372036854775807) :
    Calls Tryd.prog 31 #[.int .i64 n] w fun e w' => e = .returned (.string (nb n.toNat)) ∧ Below w.heap.size w w' := by
  rcases Int.lt_or_le n 0 with h | h
  · refine (nof_neg n w h).mono ?_
    rintro e w' ⟨rfl, rfl⟩
    exact ⟨rfl, Below.refl _ _⟩
  · exact nof_any n w h h1
set_option maxRecDepth 100000 in
set_option maxHeartbeats 2000000 in
theorem rof_neg (n : Int) (h : n < 0) :
    Calls Tryd.prog 18 #[.int .i64 n] w fun e w' => e = .returned (.string (nb n.toNat)) ∧ Below w.heap.size w w' := by
  have hz := Lib.hid (show nb 0 = nb n.toNat by rw [show n.toNat = 0 by omega])
  have hcv := (Bys.nil w 0).conv
  go_enter Tryd.func18, Tryd.ntmps18
  go_wp2
  go_loop [3, 4] (fun v k => v = .slice none 0 0 ∧ k = .int .i64 56) (fun _ _ => 0)
  case atStart => exact ⟨rfl, rfl⟩
  case round =>
    obtain ⟨rfl, rfl⟩ := hrel
    have hx : bv (⟨([] : List UInt8).toArray⟩ : ByteArray) = 0 := by decide +kernel
    go_wp2_with fail
    refine (canon_any ⟨([] : List UInt8).toArray⟩ _ (by decide)).mono ?_
    rw [hx]
    rintro e w' ⟨rfl, rfl⟩
    go_wp2_with fail
    go_ret
    exact ⟨ret_str hz.out, Below.refl _ _⟩
theorem rofT (n : Int) (h1 : n ≤ 9223372036854775807) :
    Calls Tryd.prog 18 #[.int .i64 n] w fun e w' => e = .returned (.string (nb n.toNat)) ∧ Below w.heap.size w w' := by
  rcases Int.lt_or_le n 0 with h | h
  · exact rof_neg w n h
  · exact ofn_any n w h h1
end
theorem quoR_size (x y : Nat) {k : Nat} (h : (nb y).size ≤ k) : (quoR x y).size ≤ k := by
  unfold quoR
  split
  · next h0 => exact Nat.le_trans (nb_size_mono (Nat.le_of_lt (Nat.mod_lt x h0))) h
  · exact Nat.zero_le _
theorem bv_bound {s : ByteArray} {k : Nat} (h : s.size ≤ k) : (nb (bv s)).size ≤ k := Nat.le_trans (nb_bv_size s) h
theorem add_size {x y k : Nat} (hx : (nb x).size ≤ k) (hy : (nb y).size ≤ k) : (nb (x + y)).size ≤ k + 1 := by
  refine nb_size_le.2 ?_
  have := nb_size_le.1 hx
  have := nb_size_le.1 hy
  rw [Nat.pow_succ]
  omega
theorem subS_size {x y k : Nat} (hx : (nb x).size ≤ k) : (subS x y).size ≤ k := by
  unfold subS
  split
  · exact Nat.le_trans (nb_size_mono (Nat.sub_le _ _)) hx
  · exact Nat.zero_le _
end Go.Proofs.YtjjmfigldhdccaaDoor
