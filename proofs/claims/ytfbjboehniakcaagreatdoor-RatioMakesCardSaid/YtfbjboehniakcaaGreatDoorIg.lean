/- The walk of RatioMakes. -/
import Derived.Test.YtfbjboehniakcaaGreatDoorIe
namespace Go.Proofs.YtfbjboehniakcaaGreatDoor
open Go.RowKit W
open Pl (bval enc bv nb bv_nb nb_size_le nb_size_zero nb_size_mono nb_bv_size bv_lt cmpN nb_inj)
open Rq
def mkB (s t : ByteArray) : Bool := rightB s && rightB t && decide (t.size ≠ 0)
def mkN (neg : Bool) (s t : ByteArray) : Bool := if mkB s t = true then decide ((mk neg (bv s) (bv t)).num < 0) else false
def mkA (neg : Bool) (s t : ByteArray) : ByteArray := if mkB s t = true then nb (mk neg (bv s) (bv t)).num.natAbs else ⟨#[]⟩
def mkD (neg : Bool) (s t : ByteArray) : ByteArray := if mkB s t = true then nb (mk neg (bv s) (bv t)).den else ⟨#[]⟩
theorem amakeT (neg : Bool) (s t : ByteArray) (w : World) (hs : s.size ≤ 134217728) (ht : t.size ≤ 134217728) :
    Calls Tryz.prog 16 #[.bool neg, .string s, .string t] w fun e w' => e = .returned (.tuple #[.agg #[.bool (mkN neg s t), .string (mkA neg s t), .string (mkD neg s t)], .bool (mkB s t)]) ∧ Below w.heap.size w w' := by
  by_cases h : mkB s t = true
  · have h' := h
    simp only [mkB, Bool.and_eq_true, decide_eq_true_eq] at h'
    have := amake_ok neg s t w hs ht h'.1.1 h'.1.2 h'.2
    rw [mkN, mkA, mkD, if_pos h, if_pos h, if_pos h, h]; exact this
  · have h' : mkB s t = false := by simpa using h
    have h2 := h'
    simp only [mkB, Bool.and_eq_false_iff, decide_eq_false_iff_not, ne_eq, Decidable.not_not] at h2
    have := amake_no neg s t w hs ht (by rcases h2 with (h2 | h2) | h2 <;> simp [h2])
    rw [mkN, mkA, mkD, if_neg h, if_neg h, if_neg h, h']; exact this
theorem rmakeT (neg : Bool) (s t : ByteArray) (w : World) (hs : s.size ≤ 134217728) (ht : t.size ≤ 134217728) :
    Calls Tryz.prog 17 #[.bool neg, .string s, .string t] w fun e w' => e = .returned (.tuple #[.agg #[.bool (mkN neg s t), .string (mkA neg s t), .string (mkD neg s t)], .bool (mkB s t)]) ∧ Below w.heap.size w w' := by
  by_cases h : mkB s t = true
  · have h' := h
    simp only [mkB, Bool.and_eq_true, decide_eq_true_eq] at h'
    have := rmake2_ok neg s t w hs ht h'.1.1 h'.1.2 h'.2
    rw [mkN, mkA, mkD, if_pos h, if_pos h, if_pos h, h]; exact this
  · have h' : mkB s t = false := by simpa using h
    have h2 := h'
    simp only [mkB, Bool.and_eq_false_iff, decide_eq_false_iff_not, ne_eq, Decidable.not_not] at h2
    have := rmake2_no neg s t w hs ht (by rcases h2 with (h2 | h2) | h2 <;> simp [h2])
    rw [mkN, mkA, mkD, if_neg h, if_neg h, if_neg h, h']; exact this
set_option maxRecDepth 100000 in
set_option maxHeartbeats 4000000 in
theorem rmakes_walk (neg : Bool) (s t : ByteArray) (n : Int) (w : World) (h0 : -9223372036854775808 ≤ n) (h1 : n ≤ 9223372036854775807) (hG : GR w) :
    Calls Tryz.prog 4 #[.bool neg, .agg #[.string s, .string t], .int .i64 n] w fun e w' => e = .returned (.bool true) ∧ Below w.heap.size w w' := by
  go_enter Tryz.func4, Tryz.ntmps4
  have bX : Rx (w.alloc (.cells #[.string s, .string t] 36)) (w.heap.size) [.string s, .string t] := (Rx.new w _ rfl [.string s, .string t] 36)
  have hacc := ((Below.refl w.heap.size w).alloc (Nat.le_refl w.heap.size) (.cells #[.string s, .string t] 36))
  go_upto_region 1 with fail
  generalize w.alloc (.cells #[.string s, .string t] 36) = W0 at *
  obtain ⟨gX, hgX⟩ : ∃ g, g = w.heap.size := ⟨_, rfl⟩
  rw [← hgX] at bX
  simp only [← hgX]
  have kgX : w.heap.size ≤ gX := by omega
  clear hgX
  obtain ⟨j, hj, hjl, hj1⟩ : ∃ r : Nat, min (s.size : Int) 20 = r ∧ r ≤ s.size ∧ r ≤ 20 := ⟨min s.size 20, by omega, by omega, by omega⟩
  obtain ⟨k, hk, hkl, hk1⟩ : ∃ r : Nat, min (t.size : Int) 20 = r ∧ r ≤ t.size ∧ r ≤ 20 := ⟨min t.size 20, by omega, by omega, by omega⟩
  have hj0 : (0 : Int) ≤ (j : Int) := by omega
  have hj2 : (j : Int) ≤ (s.size : Int) := by omega
  have hk0 : (0 : Int) ≤ (k : Int) := by omega
  have hk2 : (k : Int) ≤ (t.size : Int) := by omega
  go_wp2_with fail
  with_reducible refine (sanity2_any _ (hG.below hacc)).mono ?_
  rintro e wZ ⟨rfl, hbX⟩
  have hacc := hacc.trans (hbX.mono hacc.size)
  have bX := bX.below hbX
  clear hbX
  have cgX0 := bX.at 0 rfl
  have fgX0 := bX.fr 0 rfl
  have cgX1 := bX.at 1 rfl
  have fgX1 := bX.fr 1 rfl
  go_upto_region 4 with fail
  clear cgX0 fgX0 cgX1 fgX1
  have hA : (s.extract 0 j).size = j := by rw [ByteArray.size_extract]; omega
  have hB : (t.extract 0 k).size ≤ 20 := by rw [ByteArray.size_extract]; omega
  generalize s.extract 0 j = a at *
  generalize t.extract 0 k = b at *
  clear bX hj hk hjl hkl hj0 hj2 hk0 hk2
  have HA := Lib.hid (fun W => amakeT neg a b W (by omega) (by omega))
  have HR := Lib.hid (fun W => rmakeT neg a b W (by omega) (by omega))
  generalize mkN neg a b = n1 at *
  generalize mkA neg a b = a1 at *
  generalize mkD neg a b = d1 at *
  generalize mkB a b = b1 at *
  go_wp2_with fail
  with_reducible refine (HA.out _).mono ?_
  rintro e wZ ⟨rfl, hbX⟩
  have hacc := hacc.trans (hbX.mono hacc.size)
  clear hbX
  have kgA := hacc.size
  have hacc := hacc.alloc hacc.size (.cells #[.bool n1, .string a1, .string d1] 27)
  have bA : Rx (wZ.alloc (.cells #[.bool n1, .string a1, .string d1] 27)) wZ.heap.size [.bool n1, .string a1, .string d1] := Rx.new wZ _ rfl [.bool n1, .string a1, .string d1] 27
  go_upto_region 5 with fail
  generalize wZ.heap.size = gA at *
  generalize wZ.alloc (.cells #[.bool n1, .string a1, .string d1] 27) = WgA at *
  go_wp2_with fail
  with_reducible refine (HR.out _).mono ?_
  rintro e wZ ⟨rfl, hbX⟩
  have hacc := hacc.trans (hbX.mono hacc.size)
  have bA := bA.below hbX
  clear hbX
  have kgB := hacc.size
  have hacc := hacc.alloc hacc.size (.cells #[.bool n1, .string a1, .string d1] 27)
  have dgA := bA.lt
  have bA := bA.alloc (.cells #[.bool n1, .string a1, .string d1] 27)
  have bB : Rx (wZ.alloc (.cells #[.bool n1, .string a1, .string d1] 27)) wZ.heap.size [.bool n1, .string a1, .string d1] := Rx.new wZ _ rfl [.bool n1, .string a1, .string d1] 27
  go_upto_region 6 with fail
  generalize wZ.heap.size = gB at *
  generalize wZ.alloc (.cells #[.bool n1, .string a1, .string d1] 27) = WgB at *
  have ngAgB : gA ≠ gB := by omega
  clear dgA
  have hm0 : 0 ≤ n % 1099511627776 := by omega
  have hm1 : n % 1099511627776 < 1099511627776 := by omega
  have sn : (nb (n % 1099511627776).toNat).size ≤ 8 := nbs (by omega) (by decide)
  have sd : (nb (1 + (j : Int)).toNat).size ≤ 8 := nbs (by omega) (by decide)
  have HA := Lib.hid (fun W => amakeT neg (nb (n % 1099511627776).toNat) (nb (1 + (j : Int)).toNat) W (by omega) (by omega))
  have HR := Lib.hid (fun W => rmakeT neg (nb (n % 1099511627776).toNat) (nb (1 + (j : Int)).toNat) W (by omega) (by omega))
  have H1 := Lib.hid (fun W => rmod_any n 1099511627776 W (by decide) (by decide))
  have H2 := Lib.hid (fun W => ofn_any (n % 1099511627776) W (by omega) (by omega))
  have H3 := Lib.hid (fun W => ofn_any (1 + (j : Int)) W (by omega) (by omega))
  have H4 := Lib.hid (fun W => aof_any n W h0 h1)
  have H5 := Lib.hid (fun W => rof2_any n W h0 h1)
  have sz := Sz_int h0 h1
  have H6 := Lib.hid (fun W => aright_any (decide ((n : Rat).num < 0)) (nb (n : Rat).num.natAbs) (nb (n : Rat).den) W (by have := sz.1; omega) (by have := sz.2; omega))
  rw [rawB_rat] at H6
  clear sn sd sz
  simp only [rv] at H4 H5
  generalize mkN neg (nb (n % 1099511627776).toNat) (nb (1 + (j : Int)).toNat) = n2 at *
  generalize mkA neg (nb (n % 1099511627776).toNat) (nb (1 + (j : Int)).toNat) = a2 at *
  generalize mkD neg (nb (n % 1099511627776).toNat) (nb (1 + (j : Int)).toNat) = d2 at *
  generalize mkB (nb (n % 1099511627776).toNat) (nb (1 + (j : Int)).toNat) = b2 at *
  generalize (nb (n % 1099511627776).toNat) = S1 at *
  generalize (nb (1 + (j : Int)).toNat) = S2 at *
  generalize n % 1099511627776 = m at *
  generalize decide ((n : Rat).num < 0) = n3 at *
  generalize nb (n : Rat).num.natAbs = a3 at *
  generalize nb (n : Rat).den = d3 at *
  go_wp2_with fail
  with_reducible refine (H1.out _).mono ?_
  rintro e w' ⟨rfl, rfl⟩
  go_wp2_with fail
  with_reducible refine (H2.out _).mono ?_
  rintro e wZ ⟨rfl, hbX⟩
  have hacc := hacc.trans (hbX.mono hacc.size)
  have bA := bA.below hbX
  have bB := bB.below hbX
  clear hbX
  go_wp2_with fail
  with_reducible refine (H3.out _).mono ?_
  rintro e wZ ⟨rfl, hbX⟩
  have hacc := hacc.trans (hbX.mono hacc.size)
  have bA := bA.below hbX
  have bB := bB.below hbX
  clear hbX
  go_wp2_with fail
  with_reducible refine (HA.out _).mono ?_
  rintro e wZ ⟨rfl, hbX⟩
  have hacc := hacc.trans (hbX.mono hacc.size)
  have bA := bA.below hbX
  have bB := bB.below hbX
  clear hbX
  have kgC := hacc.size
  have hacc := hacc.alloc hacc.size (.cells #[.bool n2, .string a2, .string d2] 27)
  have dgA := bA.lt
  have dgB := bB.lt
  have bA := bA.alloc (.cells #[.bool n2, .string a2, .string d2] 27)
  have bB := bB.alloc (.cells #[.bool n2, .string a2, .string d2] 27)
  have bC : Rx (wZ.alloc (.cells #[.bool n2, .string a2, .string d2] 27)) wZ.heap.size [.bool n2, .string a2, .string d2] := Rx.new wZ _ rfl [.bool n2, .string a2, .string d2] 27
  go_upto_region 7 with fail
  generalize wZ.heap.size = gC at *
  generalize wZ.alloc (.cells #[.bool n2, .string a2, .string d2] 27) = WgC at *
  have ngAgC : gA ≠ gC := by omega
  have ngBgC : gB ≠ gC := by omega
  clear dgA dgB
  go_wp2_with fail
  with_reducible refine (H1.out _).mono ?_
  rintro e w' ⟨rfl, rfl⟩
  go_wp2_with fail
  with_reducible refine (H2.out _).mono ?_
  rintro e wZ ⟨rfl, hbX⟩
  have hacc := hacc.trans (hbX.mono hacc.size)
  have bA := bA.below hbX
  have bB := bB.below hbX
  have bC := bC.below hbX
  clear hbX
  go_wp2_with fail
  with_reducible refine (H3.out _).mono ?_
  rintro e wZ ⟨rfl, hbX⟩
  have hacc := hacc.trans (hbX.mono hacc.size)
  have bA := bA.below hbX
  have bB := bB.below hbX
  have bC := bC.below hbX
  clear hbX
  go_wp2_with fail
  with_reducible refine (HR.out _).mono ?_
  rintro e wZ ⟨rfl, hbX⟩
  have hacc := hacc.trans (hbX.mono hacc.size)
  have bA := bA.below hbX
  have bB := bB.below hbX
  have bC := bC.below hbX
  clear hbX
  have kgD := hacc.size
  have hacc := hacc.alloc hacc.size (.cells #[.bool n2, .string a2, .string d2] 27)
  have dgA := bA.lt
  have dgB := bB.lt
  have dgC := bC.lt
  have bA := bA.alloc (.cells #[.bool n2, .string a2, .string d2] 27)
  have bB := bB.alloc (.cells #[.bool n2, .string a2, .string d2] 27)
  have bC := bC.alloc (.cells #[.bool n2, .string a2, .string d2] 27)
  have bD : Rx (wZ.alloc (.cells #[.bool n2, .string a2, .string d2] 27)) wZ.heap.size [.bool n2, .string a2, .string d2] := Rx.new wZ _ rfl [.bool n2, .string a2, .string d2] 27
  go_upto_region 8 with fail
  generalize wZ.heap.size = gD at *
  generalize wZ.alloc (.cells #[.bool n2, .string a2, .string d2] 27) = WgD at *
  have ngAgD : gA ≠ gD := by omega
  have ngBgD : gB ≠ gD := by omega
  have ngCgD : gC ≠ gD := by omega
  clear dgA dgB dgC
  have cgA0 := bA.at 0 rfl
  have fgA0 := bA.fr 0 rfl
  have cgA1 := bA.at 1 rfl
  have fgA1 := bA.fr 1 rfl
  have cgA2 := bA.at 2 rfl
  have fgA2 := bA.fr 2 rfl
  have cgB0 := bB.at 0 rfl
  have fgB0 := bB.fr 0 rfl
  have cgB1 := bB.at 1 rfl
  have fgB1 := bB.fr 1 rfl
  have cgB2 := bB.at 2 rfl
  have fgB2 := bB.fr 2 rfl
  have cgC0 := bC.at 0 rfl
  have fgC0 := bC.fr 0 rfl
  have cgC1 := bC.at 1 rfl
  have fgC1 := bC.fr 1 rfl
  have cgC2 := bC.at 2 rfl
  have fgC2 := bC.fr 2 rfl
  have cgD0 := bD.at 0 rfl
  have fgD0 := bD.fr 0 rfl
  have cgD1 := bD.at 1 rfl
  have fgD1 := bD.fr 1 rfl
  have cgD2 := bD.at 2 rfl
  have fgD2 := bD.fr 2 rfl
  go_wp2_with fail
  clear cgA0 fgA0 cgA1 fgA1 cgA2 fgA2 cgB0 fgB0 cgB1 fgB1 cgB2 fgB2 cgC0 fgC0 cgC1 fgC1 cgC2 fgC2 cgD0 fgD0 cgD1 fgD1 cgD2 fgD2
  with_reducible refine (H4.out _).mono ?_
  rintro e wZ ⟨rfl, hbX⟩
  have hacc := hacc.trans (hbX.mono hacc.size)
  have bA := bA.below hbX
  have bB := bB.below hbX
  have bC := bC.below hbX
  have bD := bD.below hbX
  clear hbX
  go_wp2_with fail
  with_reducible refine (H5.out _).mono ?_
  rintro e wZ ⟨rfl, hbX⟩
  have hacc := hacc.trans (hbX.mono hacc.size)
  have bA := bA.below hbX
  have bB := bB.below hbX
  have bC := bC.below hbX
  have bD := bD.below hbX
  clear hbX
  go_wp2_with fail
  with_reducible refine (H4.out _).mono ?_
  rintro e wZ ⟨rfl, hbX⟩
  have hacc := hacc.trans (hbX.mono hacc.size)
  have bA := bA.below hbX
  have bB := bB.below hbX
  have bC := bC.below hbX
  have bD := bD.below hbX
  clear hbX
  go_wp2_with fail
  with_reducible refine (H6.out _).mono ?_
  rintro e wZ ⟨rfl, hbX⟩
  have hacc := hacc.trans (hbX.mono hacc.size)
  have bA := bA.below hbX
  have bB := bB.below hbX
  have bC := bC.below hbX
  have bD := bD.below hbX
  clear hbX
  go_wp2_with fail
  go_ret
  exact ⟨rfl, hacc⟩
end Go.Proofs.YtfbjboehniakcaaGreatDoor
