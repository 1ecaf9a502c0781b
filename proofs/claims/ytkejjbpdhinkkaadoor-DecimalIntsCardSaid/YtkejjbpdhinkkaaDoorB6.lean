import Derived.Test.YtkejjbpdhinkkaaDoorB5
import Derived.Test.YtkejjbpdhinkkaaDoorShelf
import Derived.Test.YtkejjbpdhinkkaaDoorQd
namespace Go.Proofs.YtkejjbpdhinkkaaDoor
open Go.RowKit Pl

set_option maxHeartbeats 2000000 in
theorem size_any (n : Int) (w : World) (h0 : -1000000000000000 ≤ n) (h1 : n ≤ 1000000000000000) :
    Calls Tryd.prog 41 #[.int .i64 n] w fun e w' => e = .returned (.int .u64 (n.natAbs : Int)) ∧ w = w' := by
  by_cases h : n < 0
  · have H := Lib.hid (show ((n.natAbs : Nat) : Int) = -n by omega)
    go_enter Tryd.func41, Tryd.ntmps41
    go_wp2
    go_ret
    exact ⟨ret_int (by rw [H.out]), rfl⟩
  · have H := Lib.hid (show ((n.natAbs : Nat) : Int) = n by omega)
    go_enter Tryd.func41, Tryd.ntmps41
    go_wp2
    go_ret
    exact ⟨ret_int (by rw [H.out]), rfl⟩

set_option maxRecDepth 100000 in
set_option maxHeartbeats 4000000 in
theorem div10_any (hi lo : Int) (w : World) (h0 : 0 < hi) (h1 : hi < 10) (l0 : 0 ≤ lo) (l1 : lo ≤ 18446744073709551615) :
    Calls Tryd.prog 42 #[.int .u64 hi, .int .u64 lo, .int .u64 10] w fun e w' => e = .returned (.tuple #[.int .u64 ((hi * 18446744073709551616 + lo) / 10), .int .u64 ((hi * 18446744073709551616 + lo) % 10)]) ∧ w = w' := by
  have hbl : Lib.bitLen (10 : Int).toNat = 4 := by decide
  have hor := d10_or hi lo (by omega) h1 l0 l1
  have hd := d10 (by omega) h1 l0 l1 rfl rfl rfl rfl
  have hw := d10_wrap lo
  have ha1 := d10_and1
  have ha2 := d10_and2 lo
  have hK : lo % 16 * 1152921504606846976 / 4294967296 = lo % 16 * 268435456 := by omega
  generalize hU : hi * 1152921504606846976 + lo / 16 = U at hor hd
  generalize hL : lo % 16 * 1152921504606846976 = L at hw ha2 hK
  generalize hq1 : U / 2684354560 = q1 at hd
  generalize hKK : lo % 16 * 268435456 = KK at hK hd
  have kk0 : 0 ≤ KK := by omega
  have kk1 : KK < 4294967296 := by omega
  generalize hV : U * 4294967296 + KK - q1 * 11529215046068469760 = V at hd
  generalize hq0 : V / 2684354560 = q0 at hd
  obtain ⟨d1, d2, d3, d4, d5, d6, d7, d8, d9, d10', d11, d12⟩ := hd
  have lb0 : 0 ≤ L := by omega
  have lb1 : L < 18446744073709551616 := by omega
  have rh0 : 0 ≤ U - q1 * 2684354560 := by omega
  have rh1 : U - q1 * 2684354560 < 2684354560 := by omega
  have hwV : IntKind.u64.wrap (IntKind.u64.wrap (IntKind.u64.wrap (U * 4294967296) + KK) - IntKind.u64.wrap (q1 * 11529215046068469760)) = V := by
    simp only [IntKind.wrap_u64]; omega
  have hwR : IntKind.u64.wrap (IntKind.u64.wrap (IntKind.u64.wrap (V * 4294967296)) - IntKind.u64.wrap (q0 * 11529215046068469760)) = V * 4294967296 - q0 * 11529215046068469760 := by
    simp only [IntKind.wrap_u64]; omega
  generalize V * 4294967296 - q0 * 11529215046068469760 = R at hwR d2 d9 d10'
  have rv0 : 0 ≤ V - q0 * 2684354560 := by omega
  have rv1 : V - q0 * 2684354560 < 2684354560 := by omega
  have D1 := Lib.hid d1
  have D2 := Lib.hid d2
  have HV := Lib.hid hV
  have HL := Lib.hid hL
  have HU := Lib.hid hU
  have HKK := Lib.hid hKK
  clear d1 d2 hV hL hU hKK
  have h24 : decide ((10 : Int) ≤ hi) = false := by simp; omega
  go_enter Tryd.func42, Tryd.ntmps42
  go_wp2_with fail
  refine (Tryd.bits_LeadingZeros64 10 _ (by omega) (by omega)).mono ?_
  rw [hbl]
  rintro e w' ⟨rfl, rfl⟩
  clear hbl
  go_wp2_with fail
  refine wp_loop_rounds 1 ?_
  rw [rounds_succ]
  go_wp2_with fail
  refine wp_loop_rounds 1 ?_
  rw [rounds_succ]
  go_wp2_with fail
  go_ret2
  exact ⟨ret2 (val_int D1.out) (val_int D2.out), rfl⟩

set_option maxRecDepth 100000 in
set_option maxHeartbeats 4000000 in
theorem div10_zero (lo : Int) (w : World) (l0 : 0 ≤ lo) (l1 : lo ≤ 18446744073709551615) :
    Calls Tryd.prog 42 #[.int .u64 0, .int .u64 lo, .int .u64 10] w fun e w' => e = .returned (.tuple #[.int .u64 (lo / 10), .int .u64 (lo % 10)]) ∧ Below w.heap.size w w' := by
  have k0 : IntKind.u64.wrap (lo / 10) = lo / 10 := by rw [IntKind.wrap_u64]; omega
  have k1 : IntKind.u64.wrap (lo % 10) = lo % 10 := by rw [IntKind.wrap_u64]; omega
  have k2 : lo.tdiv 10 = lo / 10 := Int.tdiv_eq_ediv_of_nonneg l0
  have k3 : lo.tmod 10 = lo % 10 := Int.tmod_eq_emod_of_nonneg l0
  go_enter Tryd.func42, Tryd.ntmps42
  go_wp2_with fail
  go_quiet (fail)
  go_wp2_with fail
  go_ret2
  exact ⟨rfl, below_drewN (Below.refl _ _) _⟩

theorem ddiv_any (hi lo : Int) (w : World) (h0 : 0 ≤ hi) (h1 : hi < 10) (l0 : 0 ≤ lo) (l1 : lo ≤ 18446744073709551615) :
    Calls Tryd.prog 42 #[.int .u64 hi, .int .u64 lo, .int .u64 10] w fun e w' => e = .returned (.tuple #[.int .u64 ((hi * 18446744073709551616 + lo) / 10), .int .u64 ((hi * 18446744073709551616 + lo) % 10)]) ∧ Below w.heap.size w w' := by
  by_cases h : hi = 0
  · subst h
    refine (div10_zero lo w l0 l1).mono ?_
    rintro e w' ⟨rfl, hb⟩
    exact ⟨by simp, hb⟩
  · refine (div10_any hi lo w (by omega) h1 l0 l1).mono ?_
    rintro e w' ⟨rfl, rfl⟩
    exact ⟨rfl, Below.refl _ _⟩
end Go.Proofs.YtkejjbpdhinkkaaDoor
