/- Parts of the proofs about this seat's statements. -/
import Derived.Test.YtmacnhjbjembiaaGreatDoorY123456a
namespace Pl
end Pl
namespace Pl
end Pl
namespace Pl
end Pl
namespace Pl
end Pl
namespace Pl
end Pl
namespace Pl
end Pl
namespace Pl
end Pl
namespace Pl
end Pl
namespace Pl
theorem mod_eq (n : Int) {m : Int} (hm : 0 < m) : (n.tmod m + m).tmod m = n % m := by
 have hb := tmod_bd n hm
 rw [Int.tmod_eq_emod_of_nonneg (by omega), Int.add_emod_right, tmod_emod]
end Pl
namespace Pl
end Pl
namespace Pl
end Pl
namespace Pl
end Pl
namespace Pl
open Go
end Pl
namespace Pl
end Pl
namespace Pl
end Pl
namespace Pl
open Go.Lib
end Pl
namespace Pl
open Go.Lib
end Pl
namespace Pl
open Go.Lib
end Pl
namespace Pl
open Go.Lib
def plV (na : Bool) (ma : Nat) (sa : Int) (nb' : Bool) (mb : Nat) (sb : Int) : Int :=
  sg na * ((ma * 10 ^ (max sa sb - sa).toNat : Nat) : Int) + sg nb' * ((mb * 10 ^ (max sa sb - sb).toNat : Nat) : Int)
theorem pow_cast (k : Nat) : ((10 ^ k : Nat) : Int) = p10 (k : Int) := by unfold p10; simp
theorem plV_uv {na nc : Bool} {ma mc : Nat} {x y sa sc : Int} (ha : sg na * (ma : Int) = x) (hc : sg nc * (mc : Int) = y) (h0 : 0 ≤ sa) (h6 : sa ≤ 6) (g0 : 0 ≤ sc) (g6 : sc ≤ 6) :
  plV na ma sa nc mc sc * p10 (6 - max sa sc) = x * p10 (6 - sa) + y * p10 (6 - sc) := by
 unfold plV; rw [Int.natCast_mul, Int.natCast_mul, pow_cast, pow_cast]
 rw [Int.toNat_of_nonneg (by omega), Int.toNat_of_nonneg (by omega)]
 have e1 : p10 (max sa sc - sa) * p10 (6 - max sa sc) = p10 (6 - sa) := by rw [← p10_add (by omega) (by omega)]; congr 1; omega
 have e2 : p10 (max sa sc - sc) * p10 (6 - max sa sc) = p10 (6 - sc) := by rw [← p10_add (by omega) (by omega)]; congr 1; omega
 rw [← e1, ← e2, ← ha, ← hc]
 grind
theorem plV_sign {na nc : Bool} {ma mc : Nat} {x y sa sc : Int} (ha : sg na * (ma : Int) = x) (hc : sg nc * (mc : Int) = -y) (h0 : 0 ≤ sa) (h6 : sa ≤ 6) (g0 : 0 ≤ sc) (g6 : sc ≤ 6) :
  cmpI (x * p10 (6 - sa)) (y * p10 (6 - sc)) = cmpI (plV na ma sa nc mc sc) 0 := by
 have h := plV_uv ha hc h0 h6 g0 g6; have hp := p10_pos (6 - max sa sc); rw [Int.neg_mul] at h; generalize plV na ma sa nc mc sc = V at *; generalize p10 (6 - max sa sc) = P at *; generalize x * p10 (6 - sa) = A at *; generalize y * p10 (6 - sc) = B at *
 rcases Int.lt_trichotomy V 0 with hv | hv | hv
 ·have : V * P < 0 := Int.mul_neg_of_neg_of_pos hv (by omega)
  rw [cmpI_lt hv, cmpI_lt (by omega)]
 ·subst hv
  have : A = B := by omega
  rw [this, cmpI_eq, cmpI_eq]
 ·have : 0 < V * P := Int.mul_pos hv (by omega)
  rw [cmpI_gt hv, cmpI_gt (by omega)]
theorem sg_not (b : Bool) : sg (!b) = - sg b := by cases b <;> rfl
end Pl
namespace Pl
open Go.Lib
end Pl
namespace Pl
theorem wid_bd {m k : Nat} (h : m < 18446744073709551616) (hk : k ≤ 6) : m * 10 ^ k < 256 ^ 11 := by
 have h1 : 10 ^ k ≤ 10 ^ 6 := Nat.pow_le_pow_right (by omega) hk
 have h2 : m * 10 ^ k ≤ 18446744073709551615 * 10 ^ 6 := Nat.mul_le_mul (by omega) h1
 exact Nat.lt_of_le_of_lt h2 (by decide)
end Pl
namespace Pl
end Pl
namespace Pl
open Go.Lib
end Pl
namespace Go.Proofs.YtmacnhjbjembiaaGreatDoor
open Go.RowKit Pl
set_option maxHeartbeats 2000000 in
theorem mod_any (n m : Int) (w : World) (hm : 0 < m) (hm1 : m ≤ 1000000) :
  Calls Tryz.prog 96 #[.int .i64 n, .int .i64 m] w fun e w' => e = .returned (.int .i64 (n % m)) ∧ w = w' := by
 go_enter Tryz.func96, Tryz.ntmps96
 go_wp2
 go_ret
 exact ⟨ret_int (by rw [show wrap64 (n.tmod m + m) = n.tmod m + m from by have := tmod_bd n hm; unfold wrap64; omega]; exact mod_eq n hm), rfl⟩
end Go.Proofs.YtmacnhjbjembiaaGreatDoor
namespace Go.Proofs.YtmacnhjbjembiaaGreatDoor
open Go.RowKit Pl
end Go.Proofs.YtmacnhjbjembiaaGreatDoor
namespace Go.Proofs.YtmacnhjbjembiaaGreatDoor
open Go.RowKit Pl
end Go.Proofs.YtmacnhjbjembiaaGreatDoor
namespace Go.Proofs.YtmacnhjbjembiaaGreatDoor
open Go.RowKit Pl
end Go.Proofs.YtmacnhjbjembiaaGreatDoor
namespace Go.Proofs.YtmacnhjbjembiaaGreatDoor
open Go.RowKit Pl
theorem rfit_int (b : Bool) (M : Nat) (t : Int) (w : World) (hM : (nb M).size ≤ 1000) (h0 : 0 ≤ t) (h1 : t ≤ 1000) :
  Calls Tryz.prog 57 #[.agg #[.bool b, .string (nb M), .int .i64 t]] w fun e w' => e = .returned (.tuple #[.agg #[.int .i64 (oN (fitO (sg b * (M : Int)) t.toNat)), .int .i64 (oS (fitO (sg b * (M : Int)) t.toNat))], .bool (oB (fitO (sg b * (M : Int)) t.toNat))]) ∧ Below w.heap.size w w' := by
 obtain ⟨n, rfl⟩ := Int.eq_ofNat_of_zero_le h0
 exact rfit_any b M n w hM (by omega)
set_option maxRecDepth 100000 in
set_option maxHeartbeats 2000000 in
theorem rmake_any (n k : Int) (w : World) (n0 : -9223372036854775808 ≤ n) (n1 : n ≤ 9223372036854775807) :
  Calls Tryz.prog 95 #[.int .i64 n, .int .i64 k] w fun e w' => e = .returned (.tuple #[.agg #[.int .i64 (oN (makeO n k)), .int .i64 (oS (makeO n k))], .bool (oB (makeO n k))]) ∧ Below w.heap.size w w' := by
 by_cases hk : 0 ≤ k ∧ k ≤ 18
 ·have HP := Lib.hid (makeO_in (n := n) hk.1 hk.2)
  obtain ⟨k0, k1⟩ := hk
  have hs : (nb n.natAbs).size ≤ 8 := nb_size_le.2 (by omega)
  have HS := Lib.hid (sg_abs n)
  go_enter Tryz.func95, Tryz.ntmps95
  go_wp2_with fail
  refine (rnatural_any n _ n0 n1).mono ?_
  rintro e w1 ⟨rfl, hb1⟩; have bx := (Box2.new w _ rfl (.int .i64 0) (.int .i64 0) 24).below hb1
  have hB := ((Below.refl _ _).alloc (Nat.le_refl w.heap.size) _).trans (hb1.mono (by simp))
  clear hb1
  go_wp2_with fail
  refine (rfit_int _ _ _ _ (by omega) k0 (by omega)).mono ?_
  rw [HS.out]; rintro e w2 ⟨rfl, hb2⟩; have bx := bx.below hb2; have hB := hB.trans (hb2.mono hB.size); clear hb2; obtain ⟨c0, c1, c2, c3⟩ := bx
  go_wp2_with fail
  refine bodyPost_ret (v := .tuple #[.agg #[.int .i64 (oN (fitO n k.toNat)), .int .i64 (oS (fitO n k.toNat))], .bool (oB (fitO n k.toNat))]) (by simp [results, Tryz.results95, go_sem, c0, c1]) rfl ⟨?_, (hB.setCell (by simp) _).setCell (by simp) _⟩
  rw [HP.out]
 ·have HP := Lib.hid (makeO_out (n := n) hk)
  by_cases h0 : 0 ≤ k
  ·have h1 : 18 < k := by omega
   clear hk
   go_enter Tryz.func95, Tryz.ntmps95
   go_wp2_with fail
   refine bodyPost_ret (v := .tuple #[.agg #[.int .i64 0, .int .i64 0], .bool false]) (by simp [results, Tryz.results95, go_sem]) rfl ⟨?_, (Below.refl _ _).alloc (Nat.le_refl _) _⟩
   rw [HP.out]; rfl
  ·have h1 : k < 0 := by omega
   clear hk
   go_enter Tryz.func95, Tryz.ntmps95
   go_wp2_with fail
   refine bodyPost_ret (v := .tuple #[.agg #[.int .i64 0, .int .i64 0], .bool false]) (by simp [results, Tryz.results95, go_sem]) rfl ⟨?_, (Below.refl _ _).alloc (Nat.le_refl _) _⟩
   rw [HP.out]; rfl
def mdN (n s : Int) : Int := oN (makeO (n.tmod 1000000000000001) (s % 7))
def mdS (n s : Int) : Int := oS (makeO (n.tmod 1000000000000001) (s % 7))
set_option maxRecDepth 100000 in
set_option maxHeartbeats 2000000 in
theorem rmade_any (n s : Int) (w : World) :
  Calls Tryz.prog 55 #[.int .i64 n, .int .i64 s] w fun e w' => e = .returned (.agg #[.int .i64 (mdN n s), .int .i64 (mdS n s)]) ∧ Below w.heap.size w w' := by
 have hb := tmod_bd n (m := 1000000000000001) (by omega)
 obtain ⟨b0, b1⟩ := hb; have H1 := Lib.hid (show mdN n s = oN (makeO (n.tmod 1000000000000001) (s % 7)) from rfl); have H2 := Lib.hid (show mdS n s = oS (makeO (n.tmod 1000000000000001) (s % 7)) from rfl)
 go_enter Tryz.func55, Tryz.ntmps55
 go_wp2_with fail
 generalize n.tmod 1000000000000001 = N at *
 refine (mod_any s 7 _ (by omega) (by omega)).mono ?_
 rintro e w' ⟨rfl, rfl⟩
 go_wp2_with fail
 refine (rmake_any N _ _ (by omega) (by omega)).mono ?_
 rintro e w1 ⟨rfl, hb⟩; have bx := (Box2.new w _ rfl (.int .i64 0) (.int .i64 0) 24).below hb
 have hB : Below w.heap.size w w1 := ((Below.refl _ _).alloc (Nat.le_refl _) _).trans (hb.mono (by simp))
 have hz : w.heap.size < w1.heap.size := by have := hb.size; simp at this; omega
 have hne : ¬ w.heap.size = w1.heap.size := by omega
 clear hb; generalize hgN : oN (makeO N (s % 7)) = xN at *; generalize hgS : oS (makeO N (s % 7)) = xS at *; obtain ⟨k0, k1, _, _⟩ := (bx.put (.int .i64 xN) (.int .i64 xS)).alloc (.cells #[.int .i64 xN, .int .i64 xS] 24)
 have hB2 := ((hB.setCell (p := ⟨w.heap.size, 0, none⟩) (by simp) (.int .i64 xN)).setCell (p := ⟨w.heap.size, 1, none⟩) (by simp) (.int .i64 xS)).alloc (by simpa using hB.size) (.cells #[.int .i64 xN, .int .i64 xS] 24)
 obtain ⟨c0, c1, c2, c3⟩ := bx
 go_wp2_with fail
 refine bodyPost_ret (v := .agg #[.int .i64 xN, .int .i64 xS]) (by simp [results, Tryz.results55, go_sem, k0, k1]) rfl ⟨?_, hB2⟩
 rw [H1.out, H2.out]
set_option maxRecDepth 100000 in
set_option maxHeartbeats 2000000 in
theorem rwider_any (b : Bool) (M : Nat) (s S : Int) (w : World) (hM : (nb M).size ≤ 1000) (h0 : 0 ≤ s) (h1 : s ≤ S) (h2 : S ≤ 100) :
  Calls Tryz.prog 98 #[.agg #[.bool b, .string (nb M), .int .i64 s], .int .i64 S] w fun e w' => e = .returned (.agg #[.bool b, .string (nb (M * 10 ^ (S - s).toNat)), .int .i64 S]) ∧ Below w.heap.size w w' := by
 have hp : (nb (10 ^ (S - s).toNat)).size ≤ 256 := nb_size_le.2 (Nat.lt_of_le_of_lt (Nat.pow_le_pow_right (by omega) (show (S - s).toNat ≤ 100 by omega)) (by decide))
 go_enter Tryz.func98, Tryz.ntmps98
 go_wp2_with fail
 have bx0 := (Box3.new w _ rfl (.bool b) (.string (nb M)) (.int .i64 s) 83).alloc (.cells #[.bool false, .string ⟨#[]⟩, .int .i64 0] 83)
 have bx1 := Box3.new (w.alloc (.cells #[.bool b, .string (nb M), .int .i64 s] 83)) (w.heap.size + 1) (by simp) (.bool false) (.string ⟨#[]⟩) (.int .i64 0) 83
 have hB := (((Below.refl _ _).alloc (Nat.le_refl w.heap.size) (.cells #[.bool b, .string (nb M), .int .i64 s] 83)).alloc (by simp) (.cells #[.bool false, .string ⟨#[]⟩, .int .i64 0] 83))
 generalize (w.alloc (.cells #[.bool b, .string (nb M), .int .i64 s] 83)).alloc (.cells #[.bool false, .string ⟨#[]⟩, .int .i64 0] 83) = W0 at *; obtain ⟨x0, x1, x2, _, _, _⟩ := bx0; have bx0 : Box3 W0 w.heap.size (.bool b) (.string (nb M)) (.int .i64 s) := ⟨x0, x1, x2, ‹_›, ‹_›, ‹_›⟩; have hB := hB.drew; have bx0 := bx0.drew; have bx1 := bx1.drew
 have kw : IntKind.i64.wrap (S - s) = S - s := IntWalk.i64_in _ (by omega)
 generalize hP : 10 ^ (S - s).toNat = P at *; have HP := Lib.hid hP; clear hP
 go_region_held3 (fun w' => w'.cell? ⟨w.heap.size, 0, none⟩ = some (.bool b) ∧ w'.cell? ⟨w.heap.size, 1, none⟩ = some (.string (nb M)) ∧ w'.cell? ⟨w.heap.size, 2, none⟩ = some (.int .i64 s)) (first | exact ⟨bx0.c0, bx0.c1, bx0.c2⟩ | go_keep) (first | (go_at_call 74; refine (rpower_int _ _ (by omega) (by omega)).mono ?_; rw [HP.out]; rintro e wX ⟨rfl, hbX⟩; have hB := hB.trans (hbX.mono hB.size); have bx0 := bx0.below hbX; have bx1 := bx1.below hbX; clear hbX) | (go_at_call 66; refine (mul_any _ _ _ (by omega) (by omega)).mono ?_; rw [bv_nb, bv_nb]; rintro e wX ⟨rfl, hbX⟩; have hB := hB.trans (hbX.mono hB.size); have bx0 := bx0.below hbX; have bx1 := bx1.below hbX; obtain ⟨z0, z1, z2, z3, z4, z5⟩ := bx1; clear hbX))
 clear kw
 go_wp2_with fail
 refine bodyPost_ret (v := .agg #[.bool b, .string (nb (M * P)), .int .i64 S]) (by simp [results, Tryz.results98, go_sem, z0, z1, z2]) rfl ⟨by rw [HP.out], ((hB.setCell (by simp) _).setCell (by simp) _).setCell (by simp) _⟩
end Go.Proofs.YtmacnhjbjembiaaGreatDoor
namespace Go.Proofs.YtmacnhjbjembiaaGreatDoor
open Go.RowKit Pl
def RetBig (V S : Int) (e : Ending) : Prop := ∃ (N : Bool) (M : Nat), sg N * (M : Int) = V ∧ M < 256 ^ 12 ∧ e = .returned (.agg #[.bool N, .string (nb M), .int .i64 S])
set_option maxRecDepth 100000 in
set_option maxHeartbeats 4000000 in
theorem rplus_any (na nc : Bool) (ma mc : Nat) (sa sc : Int) (w : World) (hma : ma < 18446744073709551616) (hmc : mc < 18446744073709551616) (h0 : 0 ≤ sa) (h6 : sa ≤ 6) (g0 : 0 ≤ sc) (g6 : sc ≤ 6) :
  Calls Tryz.prog 58 #[.agg #[.bool na, .string (nb ma), .int .i64 sa], .agg #[.bool nc, .string (nb mc), .int .i64 sc]] w fun e w' => RetBig (plV na ma sa nc mc sc) (max sa sc) e ∧ Below w.heap.size w w' := by
 have hS : sa ≤ max sa sc ∧ sc ≤ max sa sc ∧ max sa sc ≤ 6 := by omega
 have q1 : ma * 10 ^ (max sa sc - sa).toNat < 256 ^ 11 := wid_bd hma (by omega)
 have q2 : mc * 10 ^ (max sa sc - sc).toNat < 256 ^ 11 := wid_bd hmc (by omega)
 have z1 : (nb ma).size ≤ 8 := nb_size_le.2 hma; have z2 : (nb mc).size ≤ 8 := nb_size_le.2 hmc; have HV := Lib.hid (show plV na ma sa nc mc sc = sg na * ((ma * 10 ^ (max sa sc - sa).toNat : Nat) : Int) + sg nc * ((mc * 10 ^ (max sa sc - sc).toNat : Nat) : Int) from rfl); have hmx : Builtin.max = Builtin.max := rfl; clear hmx; obtain ⟨s1, s2, s3⟩ := hS
 go_enter Tryz.func58, Tryz.ntmps58
 have bA := ((Box3.new w _ rfl (.bool na) (.string (nb ma)) (.int .i64 sa) 83).alloc (.cells #[.bool nc, .string (nb mc), .int .i64 sc] 83)).alloc (.cells #[.bool false, .string ⟨#[]⟩, .int .i64 0] 83)
 have bB := (Box3.new (w.alloc (.cells #[.bool na, .string (nb ma), .int .i64 sa] 83)) (w.heap.size + 1) (by simp) (.bool nc) (.string (nb mc)) (.int .i64 sc) 83).alloc (.cells #[.bool false, .string ⟨#[]⟩, .int .i64 0] 83)
 have bR := Box3.new ((w.alloc (.cells #[.bool na, .string (nb ma), .int .i64 sa] 83)).alloc (.cells #[.bool nc, .string (nb mc), .int .i64 sc] 83)) (w.heap.size + 1 + 1) (by simp) (.bool false) (.string ⟨#[]⟩) (.int .i64 0) 83
 have hacc := ((((Below.refl w.heap.size w).alloc (Nat.le_refl w.heap.size) (.cells #[.bool na, .string (nb ma), .int .i64 sa] 83)).alloc (by simp) (.cells #[.bool nc, .string (nb mc), .int .i64 sc] 83)).alloc (by simp; omega) (.cells #[.bool false, .string ⟨#[]⟩, .int .i64 0] 83))
 go_wp2_with fail
 generalize ((w.alloc (.cells #[.bool na, .string (nb ma), .int .i64 sa] 83)).alloc (.cells #[.bool nc, .string (nb mc), .int .i64 sc] 83)).alloc (.cells #[.bool false, .string ⟨#[]⟩, .int .i64 0] 83) = W0 at *; generalize hgR : w.heap.size + 1 + 1 = gR at *; generalize hgB : w.heap.size + 1 = gB at *; obtain ⟨gA, hgA⟩ : ∃ g, g = w.heap.size := ⟨_, rfl⟩; rw [← hgA] at bA
 simp only [← hgA]
 have ngAgB : gA ≠ gB := by omega
 have ngAgR : gA ≠ gR := by omega
 have ngBgR : gB ≠ gR := by omega
 have hgA' : w.heap.size ≤ gA := by omega
 have hgB' : w.heap.size ≤ gB := by omega
 have hgR' : w.heap.size ≤ gR := by omega
 clear hgA hgB hgR; have hgA := hgA'; have hgB := hgB'; have hgR := hgR'; clear hgA' hgB' hgR'; obtain ⟨cgA0, cgA1, cgA2, cgA3, cgA4, cgA5⟩ := bA; have bA : Box3 W0 gA (.bool na) (.string (nb ma)) (.int .i64 sa) := ⟨cgA0, cgA1, cgA2, cgA3, cgA4, cgA5⟩; obtain ⟨cgB0, cgB1, cgB2, cgB3, cgB4, cgB5⟩ := bB; have bB : Box3 W0 gB (.bool nc) (.string (nb mc)) (.int .i64 sc) := ⟨cgB0, cgB1, cgB2, cgB3, cgB4, cgB5⟩
 with_reducible refine (rwider_any na ma sa (max sa sc) _ (by omega) h0 s1 (by omega)).mono ?_
 rintro e wZ ⟨rfl, hbX⟩; have hacc := hacc.trans (hbX.mono hacc.size); have bA := bA.below hbX; have bB := bB.below hbX; have bR := bR.below hbX; clear hbX; clear cgA0 cgA1 cgA2 cgA3 cgA4 cgA5 cgB0 cgB1 cgB2 cgB3 cgB4 cgB5; generalize ma * 10 ^ (max sa sc - sa).toNat = X at *; generalize hYY : mc * 10 ^ (max sa sc - sc).toNat = Y at *; have HYY := Lib.hid hYY; clear hYY; generalize hSS : max sa sc = S at *
 have HSS := Lib.hid hSS; clear hSS; obtain ⟨cgA0, cgA1, cgA2, cgA3, cgA4, cgA5⟩ := bA; have bA : Box3 wZ gA (.bool na) (.string (nb ma)) (.int .i64 sa) := ⟨cgA0, cgA1, cgA2, cgA3, cgA4, cgA5⟩; obtain ⟨cgB0, cgB1, cgB2, cgB3, cgB4, cgB5⟩ := bB; have bB : Box3 wZ gB (.bool nc) (.string (nb mc)) (.int .i64 sc) := ⟨cgB0, cgB1, cgB2, cgB3, cgB4, cgB5⟩; have hgX := hacc.size; have hacc := hacc.alloc hacc.size (.cells #[.bool na, .string (nb X), .int .i64 S] 83)
 have dgA := bA.lt; have dgB := bB.lt; have dgR := bR.lt
 have egA : ¬ gA = wZ.heap.size := by omega
 have egB : ¬ gB = wZ.heap.size := by omega
 have bA := bA.alloc (.cells #[.bool na, .string (nb X), .int .i64 S] 83); have bB := bB.alloc (.cells #[.bool na, .string (nb X), .int .i64 S] 83); have bR := bR.alloc (.cells #[.bool na, .string (nb X), .int .i64 S] 83); have bX := Box3.new wZ _ rfl (.bool na) (.string (nb X)) (.int .i64 S) 83
 go_wp2_with fail
 clear cgA0 cgA1 cgA2 cgA3 cgA4 cgA5 cgB0 cgB1 cgB2 cgB3 cgB4 cgB5 egA egB; generalize wZ.heap.size = gX at *; generalize wZ.alloc (.cells #[.bool na, .string (nb X), .int .i64 S] 83) = WgX at *
 have ngAgX : gA ≠ gX := by omega
 have ngBgX : gB ≠ gX := by omega
 have ngRgX : gR ≠ gX := by omega
 clear dgA dgB dgR; rw [HSS.out]
 with_reducible refine (rwider_any nc mc sc S _ (by omega) g0 s2 (by omega)).mono ?_
 rw [HYY.out]; rintro e wZ ⟨rfl, hbX⟩; have hacc := hacc.trans (hbX.mono hacc.size); have bA := bA.below hbX; have bB := bB.below hbX; have bR := bR.below hbX; have bX := bX.below hbX; clear hbX; have u1 : (nb X).size ≤ 11 := nb_size_le.2 q1; have u2 : (nb Y).size ≤ 11 := nb_size_le.2 q2
 by_cases hn : na = nc
 ·have hn' : (na == nc) = true := by simp [hn]
  have HN := Lib.hid hn; clear hn; obtain ⟨cgX0, cgX1, cgX2, cgX3, cgX4, cgX5⟩ := bX; have bX : Box3 wZ gX (.bool na) (.string (nb X)) (.int .i64 S) := ⟨cgX0, cgX1, cgX2, cgX3, cgX4, cgX5⟩; have hgY := hacc.size; have hacc := hacc.alloc hacc.size (.cells #[.bool nc, .string (nb Y), .int .i64 S] 83); have dgA := bA.lt; have dgB := bB.lt; have dgR := bR.lt; have dgX := bX.lt
  have egX : ¬ gX = wZ.heap.size := by omega
  have bA := bA.alloc (.cells #[.bool nc, .string (nb Y), .int .i64 S] 83); have bB := bB.alloc (.cells #[.bool nc, .string (nb Y), .int .i64 S] 83); have bR := bR.alloc (.cells #[.bool nc, .string (nb Y), .int .i64 S] 83); have bX := bX.alloc (.cells #[.bool nc, .string (nb Y), .int .i64 S] 83); have bY := Box3.new wZ _ rfl (.bool nc) (.string (nb Y)) (.int .i64 S) 83
  go_wp2_with fail
  clear cgX0 cgX1 cgX2 cgX3 cgX4 cgX5 egX; generalize wZ.heap.size = gY at *; generalize wZ.alloc (.cells #[.bool nc, .string (nb Y), .int .i64 S] 83) = WgY at *
  have ngAgY : gA ≠ gY := by omega
  have ngBgY : gB ≠ gY := by omega
  have ngRgY : gR ≠ gY := by omega
  have ngXgY : gX ≠ gY := by omega
  clear dgA dgB dgR dgX; obtain ⟨cgX0, cgX1, cgX2, cgX3, cgX4, cgX5⟩ := bX; have bX : Box3 WgY gX (.bool na) (.string (nb X)) (.int .i64 S) := ⟨cgX0, cgX1, cgX2, cgX3, cgX4, cgX5⟩; obtain ⟨cgY0, cgY1, cgY2, cgY3, cgY4, cgY5⟩ := bY; have bY : Box3 WgY gY (.bool nc) (.string (nb Y)) (.int .i64 S) := ⟨cgY0, cgY1, cgY2, cgY3, cgY4, cgY5⟩; have hacc := hacc.drew; have bA := bA.drew; have bB := bB.drew
  have bR := bR.drew; have bX := bX.drew; have bY := bY.drew
  go_region_held3 (fun w' => w'.cell? ⟨gX, 0, none⟩ = some (.bool na) ∧ w'.cell? ⟨gX, 1, none⟩ = some (.string (nb X)) ∧ w'.cell? ⟨gX, 2, none⟩ = some (.int .i64 S) ∧ w'.cell? ⟨gY, 1, none⟩ = some (.string (nb Y))) (first | exact ⟨bX.c0, bX.c1, bX.c2, bY.c1⟩ | go_keep) (first | (go_at_call 75; refine (add_any _ _ _ (by omega) (by omega)).mono ?_; rw [bv_nb, bv_nb]; rintro e wX ⟨rfl, hbX⟩; have hacc := hacc.trans (hbX.mono hacc.size); have bA := bA.below hbX; have bB := bB.below hbX; have bR := bR.below hbX; have bX := bX.below hbX; have bY := bY.below hbX; obtain ⟨r0, r1, r2, r3, r4, r5⟩ := bR; clear hbX))
  go_wp2_with fail
  refine bodyPost_ret (v := .agg #[.bool na, .string (nb (X + Y)), .int .i64 S]) (by simp [results, Tryz.results58, go_sem, r0, r1, r2]) rfl ⟨⟨na, X + Y, ?_, by omega, ?_⟩, ((hacc.setCell hgR _).setCell hgR _).setCell hgR _⟩
  ·rw [HV.out, ← HN.out, Int.natCast_add, Int.mul_add]
  ·rw [HSS.out]
 ·have hn' : (na == nc) = false := by simp [hn]
  have HN := Lib.hid hn; clear hn; obtain ⟨cgX0, cgX1, cgX2, cgX3, cgX4, cgX5⟩ := bX; have bX : Box3 wZ gX (.bool na) (.string (nb X)) (.int .i64 S) := ⟨cgX0, cgX1, cgX2, cgX3, cgX4, cgX5⟩; have hgY := hacc.size; have hacc := hacc.alloc hacc.size (.cells #[.bool nc, .string (nb Y), .int .i64 S] 83); have dgA := bA.lt; have dgB := bB.lt; have dgR := bR.lt; have dgX := bX.lt
  have egX : ¬ gX = wZ.heap.size := by omega
  have bA := bA.alloc (.cells #[.bool nc, .string (nb Y), .int .i64 S] 83); have bB := bB.alloc (.cells #[.bool nc, .string (nb Y), .int .i64 S] 83); have bR := bR.alloc (.cells #[.bool nc, .string (nb Y), .int .i64 S] 83); have bX := bX.alloc (.cells #[.bool nc, .string (nb Y), .int .i64 S] 83); have bY := Box3.new wZ _ rfl (.bool nc) (.string (nb Y)) (.int .i64 S) 83
  go_wp2_with fail
  clear cgX0 cgX1 cgX2 cgX3 cgX4 cgX5 egX; generalize wZ.heap.size = gY at *; generalize wZ.alloc (.cells #[.bool nc, .string (nb Y), .int .i64 S] 83) = WgY at *
  have ngAgY : gA ≠ gY := by omega
  have ngBgY : gB ≠ gY := by omega
  have ngRgY : gR ≠ gY := by omega
  have ngXgY : gX ≠ gY := by omega
  clear dgA dgB dgR dgX
  by_cases hlt : X < Y
  ·have hc : cmpN X Y < 0 := by rw [cmpN_lt hlt]; omega
   obtain ⟨cgX0, cgX1, cgX2, cgX3, cgX4, cgX5⟩ := bX; have bX : Box3 WgY gX (.bool na) (.string (nb X)) (.int .i64 S) := ⟨cgX0, cgX1, cgX2, cgX3, cgX4, cgX5⟩; obtain ⟨cgY0, cgY1, cgY2, cgY3, cgY4, cgY5⟩ := bY; have bY : Box3 WgY gY (.bool nc) (.string (nb Y)) (.int .i64 S) := ⟨cgY0, cgY1, cgY2, cgY3, cgY4, cgY5⟩; obtain ⟨cgR0, cgR1, cgR2, cgR3, cgR4, cgR5⟩ := bR; have bR : Box3 WgY gR (.bool false) (.string ⟨#[]⟩) (.int .i64 0) := ⟨cgR0, cgR1, cgR2, cgR3, cgR4, cgR5⟩
   with_reducible refine (cmps_any _ _ _ (by omega) (by omega)).mono ?_
   rw [bv_nb, bv_nb]; rintro e w' ⟨rfl, rfl⟩; have dgA := bA.lt; have dgB := bB.lt; have dgR := bR.lt; have dgX := bX.lt; have dgY := bY.lt
   have egX : ¬ gX = WgY.heap.size := by omega
   have egY : ¬ gY = WgY.heap.size := by omega
   have egR : ¬ gR = WgY.heap.size := by omega
   have bX := bX.put (.bool nc) (.string (nb Y)) (.int .i64 S); have bR := (((bR.other (p := ⟨gX, 0, none⟩) (Ne.symm ngRgX) (.bool nc)).other (p := ⟨gX, 1, none⟩) (Ne.symm ngRgX) (.string (nb Y))).other (p := ⟨gX, 2, none⟩) (Ne.symm ngRgX) (.int .i64 S)); have bY := (((bY.other (p := ⟨gX, 0, none⟩) ngXgY (.bool nc)).other (p := ⟨gX, 1, none⟩) ngXgY (.string (nb Y))).other (p := ⟨gX, 2, none⟩) ngXgY (.int .i64 S))
   have bY := bY.put (.bool na) (.string (nb X)) (.int .i64 S); have bR := (((bR.other (p := ⟨gY, 0, none⟩) (Ne.symm ngRgY) (.bool na)).other (p := ⟨gY, 1, none⟩) (Ne.symm ngRgY) (.string (nb X))).other (p := ⟨gY, 2, none⟩) (Ne.symm ngRgY) (.int .i64 S)); have bX := (((bX.other (p := ⟨gY, 0, none⟩) (Ne.symm ngXgY) (.bool na)).other (p := ⟨gY, 1, none⟩) (Ne.symm ngXgY) (.string (nb X))).other (p := ⟨gY, 2, none⟩) (Ne.symm ngXgY) (.int .i64 S))
   have hacc := (((((hacc.setCell (p := ⟨gX, 0, none⟩) hgX (.bool nc)).setCell (p := ⟨gX, 1, none⟩) hgX (.string (nb Y))).setCell (p := ⟨gX, 2, none⟩) hgX (.int .i64 S)).setCell (p := ⟨gY, 0, none⟩) hgY (.bool na)).setCell (p := ⟨gY, 1, none⟩) hgY (.string (nb X))).setCell (p := ⟨gY, 2, none⟩) hgY (.int .i64 S); have bR := bR.alloc (.cells #[.bool na, .string (nb X), .int .i64 S] 83); have bX := bX.alloc (.cells #[.bool na, .string (nb X), .int .i64 S] 83)
   have bY := bY.alloc (.cells #[.bool na, .string (nb X), .int .i64 S] 83); have hacc := hacc.alloc hacc.size (.cells #[.bool na, .string (nb X), .int .i64 S] 83)
   go_wp2_with fail
   clear cgX0 cgX1 cgX2 cgX3 cgX4 cgX5 cgY0 cgY1 cgY2 cgY3 cgY4 cgY5 cgR0 cgR1 cgR2 cgR3 cgR4 cgR5; generalize ((((((WgY.setCell ⟨gX, 0, none⟩ (.bool nc)).setCell ⟨gX, 1, none⟩ (.string (nb Y))).setCell ⟨gX, 2, none⟩ (.int .i64 S)).setCell ⟨gY, 0, none⟩ (.bool na)).setCell ⟨gY, 1, none⟩ (.string (nb X))).setCell ⟨gY, 2, none⟩ (.int .i64 S)).alloc (.cells #[.bool na, .string (nb X), .int .i64 S] 83) = WS at *
   with_reducible refine (sub_yes _ _ _ (by omega) (by omega) (by rw [bv_nb, bv_nb]; omega)).mono ?_
   rw [bv_nb, bv_nb]; rintro e wZ ⟨rfl, hbX⟩; have hacc := hacc.trans (hbX.mono hacc.size); have bR := bR.below hbX; have bX := bX.below hbX; have bY := bY.below hbX; clear hbX; obtain ⟨cgX0, cgX1, cgX2, cgX3, cgX4, cgX5⟩ := bX; have bX : Box3 wZ gX (.bool nc) (.string (nb Y)) (.int .i64 S) := ⟨cgX0, cgX1, cgX2, cgX3, cgX4, cgX5⟩; obtain ⟨r0, r1, r2, r3, r4, r5⟩ := bR; have HB := hacc
   by_cases hz : 0 < (nb (Y - X)).size
   ·have hz' : (0 : Int) < ((nb (Y - X)).size : Int) := by omega
    have HZ0 := trivial
    cases nc
    ·go_wp2_with fail
     refine bodyPost_ret (v := .agg #[.bool false, .string (nb (Y - X)), .int .i64 S]) (by simp [results, Tryz.results58, go_sem, r0, r1, r2]) rfl ⟨⟨false, Y - X, ?_, by omega, ?_⟩, ((HB.setCell hgR _).setCell hgR _).setCell hgR _⟩
     ·rw [HV.out]; have hN := HN.out; cases na <;> simp_all [sg] <;> omega
     ·rw [HSS.out]
    ·go_wp2_with fail
     refine bodyPost_ret (v := .agg #[.bool true, .string (nb (Y - X)), .int .i64 S]) (by simp [results, Tryz.results58, go_sem, r0, r1, r2]) rfl ⟨⟨true, Y - X, ?_, by omega, ?_⟩, ((HB.setCell hgR _).setCell hgR _).setCell hgR _⟩
     ·rw [HV.out]; have hN := HN.out; cases na <;> simp_all [sg] <;> omega
     ·rw [HSS.out]
   ·have hz' : ¬ (0 : Int) < ((nb (Y - X)).size : Int) := by omega
    have HZ := Lib.hid (nb_size_zero.1 (show (nb (Y - X)).size = 0 by omega))
    cases nc
    ·go_wp2_with fail
     refine bodyPost_ret (v := .agg #[.bool false, .string (nb (Y - X)), .int .i64 S]) (by simp [results, Tryz.results58, go_sem, r0, r1, r2]) rfl ⟨⟨false, Y - X, ?_, by omega, ?_⟩, ((HB.setCell hgR _).setCell hgR _).setCell hgR _⟩
     ·rw [HV.out]; have hN := HN.out; have hzz := HZ.out; cases na <;> simp_all [sg] <;> omega
     ·rw [HSS.out]
    ·go_wp2_with fail
     refine bodyPost_ret (v := .agg #[.bool false, .string (nb (Y - X)), .int .i64 S]) (by simp [results, Tryz.results58, go_sem, r0, r1, r2]) rfl ⟨⟨false, Y - X, ?_, by omega, ?_⟩, ((HB.setCell hgR _).setCell hgR _).setCell hgR _⟩
     ·rw [HV.out]; have hN := HN.out; have hzz := HZ.out; cases na <;> simp_all [sg] <;> omega
     ·rw [HSS.out]
  ·have hc : ¬ cmpN X Y < 0 := by unfold cmpN; rw [if_neg hlt]; split <;> omega
   obtain ⟨cgX0, cgX1, cgX2, cgX3, cgX4, cgX5⟩ := bX; have bX : Box3 WgY gX (.bool na) (.string (nb X)) (.int .i64 S) := ⟨cgX0, cgX1, cgX2, cgX3, cgX4, cgX5⟩; obtain ⟨cgY0, cgY1, cgY2, cgY3, cgY4, cgY5⟩ := bY; have bY : Box3 WgY gY (.bool nc) (.string (nb Y)) (.int .i64 S) := ⟨cgY0, cgY1, cgY2, cgY3, cgY4, cgY5⟩; obtain ⟨cgR0, cgR1, cgR2, cgR3, cgR4, cgR5⟩ := bR; have bR : Box3 WgY gR (.bool false) (.string ⟨#[]⟩) (.int .i64 0) := ⟨cgR0, cgR1, cgR2, cgR3, cgR4, cgR5⟩
   with_reducible refine (cmps_any _ _ _ (by omega) (by omega)).mono ?_
   rw [bv_nb, bv_nb]; rintro e w' ⟨rfl, rfl⟩
   go_wp2_with fail
   refine (sub_yes _ _ _ (by omega) (by omega) (by rw [bv_nb, bv_nb]; omega)).mono ?_
   rw [bv_nb, bv_nb]; rintro e wZ ⟨rfl, hbX⟩; have hacc := hacc.trans (hbX.mono hacc.size); have bA := bA.below hbX; have bB := bB.below hbX; have bR := bR.below hbX; have bX := bX.below hbX; have bY := bY.below hbX; clear hbX; clear cgX0 cgX1 cgX2 cgX3 cgX4 cgX5 cgY0 cgY1 cgY2 cgY3 cgY4 cgY5 cgR0 cgR1 cgR2 cgR3 cgR4 cgR5; obtain ⟨cgX0, cgX1, cgX2, cgX3, cgX4, cgX5⟩ := bX; have bX : Box3 wZ gX (.bool na) (.string (nb X)) (.int .i64 S) := ⟨cgX0, cgX1, cgX2, cgX3, cgX4, cgX5⟩
   obtain ⟨r0, r1, r2, r3, r4, r5⟩ := bR; have HB := hacc
   by_cases hz : 0 < (nb (X - Y)).size
   ·have hz' : (0 : Int) < ((nb (X - Y)).size : Int) := by omega
    have HZ0 := trivial
    cases na
    ·go_wp2_with fail
     refine bodyPost_ret (v := .agg #[.bool false, .string (nb (X - Y)), .int .i64 S]) (by simp [results, Tryz.results58, go_sem, r0, r1, r2]) rfl ⟨⟨false, X - Y, ?_, by omega, ?_⟩, ((HB.setCell hgR _).setCell hgR _).setCell hgR _⟩
     ·rw [HV.out]; have hN := HN.out; cases nc <;> simp_all [sg] <;> omega
     ·rw [HSS.out]
    ·go_wp2_with fail
     refine bodyPost_ret (v := .agg #[.bool true, .string (nb (X - Y)), .int .i64 S]) (by simp [results, Tryz.results58, go_sem, r0, r1, r2]) rfl ⟨⟨true, X - Y, ?_, by omega, ?_⟩, ((HB.setCell hgR _).setCell hgR _).setCell hgR _⟩
     ·rw [HV.out]; have hN := HN.out; cases nc <;> simp_all [sg] <;> omega
     ·rw [HSS.out]
   ·have hz' : ¬ (0 : Int) < ((nb (X - Y)).size : Int) := by omega
    have HZ := Lib.hid (nb_size_zero.1 (show (nb (X - Y)).size = 0 by omega))
    cases na
    ·go_wp2_with fail
     refine bodyPost_ret (v := .agg #[.bool false, .string (nb (X - Y)), .int .i64 S]) (by simp [results, Tryz.results58, go_sem, r0, r1, r2]) rfl ⟨⟨false, X - Y, ?_, by omega, ?_⟩, ((HB.setCell hgR _).setCell hgR _).setCell hgR _⟩
     ·rw [HV.out]; have hN := HN.out; have hzz := HZ.out; cases nc <;> simp_all [sg] <;> omega
     ·rw [HSS.out]
    ·go_wp2_with fail
     refine bodyPost_ret (v := .agg #[.bool false, .string (nb (X - Y)), .int .i64 S]) (by simp [results, Tryz.results58, go_sem, r0, r1, r2]) rfl ⟨⟨false, X - Y, ?_, by omega, ?_⟩, ((HB.setCell hgR _).setCell hgR _).setCell hgR _⟩
     ·rw [HV.out]; have hN := HN.out; have hzz := HZ.out; cases nc <;> simp_all [sg] <;> omega
     ·rw [HSS.out]
end Go.Proofs.YtmacnhjbjembiaaGreatDoor
namespace Go.Proofs.YtmacnhjbjembiaaGreatDoor
open Go.RowKit Pl
theorem rcmp_eq (a b c d : Int) : cmpI (uv a b) (uv c d) = cmpI (plV (decide (vn a b < 0)) (vn a b).natAbs (vs a b) (!decide (vn c d < 0)) (vn c d).natAbs (vs c d)) 0 := by
 have h1 := v_bd a b; have h2 := v_bd c d
 exact plV_sign (sg_abs _) (by rw [sg_not, Int.neg_mul, sg_abs]) h1.1 h1.2.1 h2.1 h2.2.1
end Go.Proofs.YtmacnhjbjembiaaGreatDoor
namespace Go.Proofs.YtmacnhjbjembiaaGreatDoor
open Go.RowKit Pl
theorem z_cmp_zero {V : Int} {N : Bool} {M : Nat} (h : sg N * (M : Int) = V) : cmpI V 0 = if M = 0 then 0 else if N = true then -1 else 1 := by
 subst h
 by_cases hM : M = 0
 ·rw [if_pos hM, hM, Int.natCast_zero, Int.mul_zero]; rfl
 ·rw [if_neg hM]
  cases N
  ·rw [sg_false, cmpI_gt (by omega)]; rfl
  ·rw [sg_true, cmpI_lt (by omega)]; rfl
set_option maxRecDepth 100000 in
set_option maxHeartbeats 4000000 in
theorem rcmp_any (a b c d : Int) (w : World) :
  Calls Tryz.prog 27 #[.agg #[.int .i64 a, .int .i64 b], .agg #[.int .i64 c, .int .i64 d]] w fun e w' => e = .returned (.int .i64 (cmpI (uv a b) (uv c d))) ∧ Below w.heap.size w w' := by
 obtain ⟨p1, p2, p3, p4⟩ := v_bd a b; obtain ⟨p5, p6, p7, p8⟩ := v_bd c d; have HC := Lib.hid (rcmp_eq a b c d)
 go_enter Tryz.func27, Tryz.ntmps27
 have bA := ((Box2.new w _ rfl (.int .i64 a) (.int .i64 b) 24).alloc (.cells #[.int .i64 c, .int .i64 d] 24))
 have bB := (Box2.new (w.alloc (.cells #[.int .i64 a, .int .i64 b] 24)) (w.heap.size + 1) (by simp) (.int .i64 c) (.int .i64 d) 24)
 have hacc := (((Below.refl w.heap.size w).alloc (Nat.le_refl w.heap.size) (.cells #[.int .i64 a, .int .i64 b] 24)).alloc (by simp) (.cells #[.int .i64 c, .int .i64 d] 24))
 go_wp2_with fail
 generalize (w.alloc (.cells #[.int .i64 a, .int .i64 b] 24)).alloc (.cells #[.int .i64 c, .int .i64 d] 24) = W0 at *; generalize hgB : w.heap.size + 1 = gB at *; obtain ⟨gA, hgA⟩ : ∃ g, g = w.heap.size := ⟨_, rfl⟩; rw [← hgA] at bA
 simp only [← hgA]
 have ngAgB : gA ≠ gB := by omega
 have kgA : w.heap.size ≤ gA := by omega
 have kgB : w.heap.size ≤ gB := by omega
 clear hgA hgB; have hgA := kgA; have hgB := kgB; clear kgA kgB
 with_reducible refine (rbig_any a b _).mono ?_
 rintro e wZ ⟨rfl, hbX⟩; have hacc := hacc.trans (hbX.mono hacc.size); have bA := bA.below hbX; have bB := bB.below hbX; clear hbX; obtain ⟨cgB0, cgB1, cgB2, cgB3⟩ := bB; have bB : Box2 wZ gB (.int .i64 c) (.int .i64 d) := ⟨cgB0, cgB1, cgB2, cgB3⟩; have hgX := hacc.size; have hacc := hacc.alloc hacc.size (.cells #[.bool (decide (vn a b < 0)), .string (nb (vn a b).natAbs), .int .i64 (vs a b)] 83); have dgA := bA.lt
 have dgB := bB.lt
 have egB : ¬ gB = wZ.heap.size := by omega
 have bA := bA.alloc (.cells #[.bool (decide (vn a b < 0)), .string (nb (vn a b).natAbs), .int .i64 (vs a b)] 83); have bB := bB.alloc (.cells #[.bool (decide (vn a b < 0)), .string (nb (vn a b).natAbs), .int .i64 (vs a b)] 83); have bX := Box3.new wZ _ rfl (.bool (decide (vn a b < 0))) (.string (nb (vn a b).natAbs)) (.int .i64 (vs a b)) 83
 go_wp2_with fail
 clear cgB0 cgB1 cgB2 cgB3 egB; generalize wZ.heap.size = gX at *; generalize wZ.alloc (.cells #[.bool (decide (vn a b < 0)), .string (nb (vn a b).natAbs), .int .i64 (vs a b)] 83) = WgX at *
 have ngAgX : gA ≠ gX := by omega
 have ngBgX : gB ≠ gX := by omega
 clear dgA dgB
 with_reducible refine (rbig_any c d _).mono ?_
 rintro e wZ ⟨rfl, hbX⟩; have hacc := hacc.trans (hbX.mono hacc.size); have bA := bA.below hbX; have bB := bB.below hbX; have bX := bX.below hbX; clear hbX; obtain ⟨cgX0, cgX1, cgX2, cgX3, cgX4, cgX5⟩ := bX; have bX : Box3 wZ gX (.bool (decide (vn a b < 0))) (.string (nb (vn a b).natAbs)) (.int .i64 (vs a b)) := ⟨cgX0, cgX1, cgX2, cgX3, cgX4, cgX5⟩; have hgY := hacc.size; have hacc := hacc.alloc hacc.size (.cells #[.bool !decide (vn c d < 0), .string (nb (vn c d).natAbs), .int .i64 (vs c d)] 83)
 have dgA := bA.lt; have dgB := bB.lt; have dgX := bX.lt
 have egX : ¬ gX = wZ.heap.size := by omega
 have bA := bA.alloc (.cells #[.bool !decide (vn c d < 0), .string (nb (vn c d).natAbs), .int .i64 (vs c d)] 83); have bB := bB.alloc (.cells #[.bool !decide (vn c d < 0), .string (nb (vn c d).natAbs), .int .i64 (vs c d)] 83); have bX := bX.alloc (.cells #[.bool !decide (vn c d < 0), .string (nb (vn c d).natAbs), .int .i64 (vs c d)] 83); have bY := Box3.new wZ _ rfl (.bool !decide (vn c d < 0)) (.string (nb (vn c d).natAbs)) (.int .i64 (vs c d)) 83
 go_wp2_with fail
 clear cgX0 cgX1 cgX2 cgX3 cgX4 cgX5 egX; generalize wZ.heap.size = gY at *; generalize wZ.alloc (.cells #[.bool !decide (vn c d < 0), .string (nb (vn c d).natAbs), .int .i64 (vs c d)] 83) = WgY at *
 have ngAgY : gA ≠ gY := by omega
 have ngBgY : gB ≠ gY := by omega
 have ngXgY : gX ≠ gY := by omega
 clear dgA dgB dgX
 with_reducible refine (rplus_any _ _ _ _ _ _ _ (by omega) (by omega) p1 p2 p5 p6).mono ?_
 rintro e wZ ⟨⟨N, M, hV, hM, rfl⟩, hbX⟩; have hacc := hacc.trans (hbX.mono hacc.size); have bA := bA.below hbX; have bB := bB.below hbX; have bX := bX.below hbX; have bY := bY.below hbX; clear hbX; have HV := Lib.hid (z_cmp_zero hV); clear hV
 by_cases hz : M = 0
 ·have hz' : (((nb M).size : Int) == 0) = true := by simp [nb_size_zero.2 hz]
  have HZ := Lib.hid hz; clear hz
  go_wp2_with fail
  go_ret
  exact ⟨ret_int (by rw [HC.out, HV.out, if_pos HZ.out]), hacc.alloc hacc.size _⟩
 ·have hz' : (((nb M).size : Int) == 0) = false := by
   have : (nb M).size ≠ 0 := fun h => hz (nb_size_zero.1 h)
   simp [this]
  have HZ := Lib.hid hz; clear hz
  cases N
  ·go_wp2_with fail
   go_ret
   exact ⟨ret_int (by rw [HC.out, HV.out, if_neg HZ.out]; rfl), hacc.alloc hacc.size _⟩
  ·go_wp2_with fail
   go_ret
   exact ⟨ret_int (by rw [HC.out, HV.out, if_neg HZ.out]; rfl), hacc.alloc hacc.size _⟩
end Go.Proofs.YtmacnhjbjembiaaGreatDoor
namespace Go.Proofs.YtmacnhjbjembiaaGreatDoor
open Go.RowKit Pl
end Go.Proofs.YtmacnhjbjembiaaGreatDoor
namespace Go.Proofs.YtmacnhjbjembiaaGreatDoor
open Go.ChangeShapes Go.WideShapes Go.ChangeAt Go.RowKit Go.Joins
theorem fa_bool {P : Program} {W : World} {base : Nat} {u : TypeId} {us : List TypeId} {l : List Value} (hu : P.underlying u = some .bool) (h : FA (Cell.okWide P W .any base) (u :: us) l) :
  ∃ (b : Bool) (l' : List Value), l = .bool b :: l' ∧ FA (Cell.okWide P W .any base) us l' := by
 cases l with
 | nil => exact h.elim
 | cons c cs =>
  obtain ⟨h1, h2⟩ := h; unfold Cell.okWide at h1; rw [hu] at h1
  cases c with
  | bool b => exact ⟨b, cs, rfl, h2⟩
  | _ => exfalso; revert h1; simp [Cell.ok, hu]
theorem open_two7 {P : Program} {W : World} {base : Nat} {t I B : TypeId} {v : Value} (hs : (∃ fs, P.underlying t = some (.struct fs)) ∨ (∃ n e, P.underlying t = some (.array n e))) (hct : P.cellTypes P.depth t = some [I, I, I, I, I, I, I, I, B, B, I, I, I, I, I, I, I, I]) (hn : P.cellsOf t = 18) (hI : P.underlying I = some (.int .i64)) (hB : P.underlying B = some .bool) (hv : Value.okWide P W .any base t v) : ∃ (n0 : Int) (n1 : Int) (n2 : Int) (n3 : Int) (n4 : Int) (n5 : Int) (n6 : Int) (n7 : Int) (b8 : Bool) (b9 : Bool) (n10 : Int) (n11 : Int) (n12 : Int) (n13 : Int) (n14 : Int) (n15 : Int) (n16 : Int) (n17 : Int), v = .agg #[.int .i64 n0, .int .i64 n1, .int .i64 n2, .int .i64 n3, .int .i64 n4, .int .i64 n5, .int .i64 n6, .int .i64 n7, .bool b8, .bool b9, .int .i64 n10, .int .i64 n11, .int .i64 n12, .int .i64 n13, .int .i64 n14, .int .i64 n15, .int .i64 n16, .int .i64 n17] ∧ (-9223372036854775808 ≤ n0 ∧ n0 ≤ 9223372036854775807) ∧ (-9223372036854775808 ≤ n1 ∧ n1 ≤ 9223372036854775807) ∧ (-9223372036854775808 ≤ n2 ∧ n2 ≤ 9223372036854775807) ∧ (-9223372036854775808 ≤ n3 ∧ n3 ≤ 9223372036854775807) ∧ (-9223372036854775808 ≤ n4 ∧ n4 ≤ 9223372036854775807) ∧ (-9223372036854775808 ≤ n5 ∧ n5 ≤ 9223372036854775807) ∧ (-9223372036854775808 ≤ n6 ∧ n6 ≤ 9223372036854775807) ∧ (-9223372036854775808 ≤ n7 ∧ n7 ≤ 9223372036854775807) ∧ (-9223372036854775808 ≤ n10 ∧ n10 ≤ 9223372036854775807) ∧ (-9223372036854775808 ≤ n11 ∧ n11 ≤ 9223372036854775807) ∧ (-9223372036854775808 ≤ n12 ∧ n12 ≤ 9223372036854775807) ∧ (-9223372036854775808 ≤ n13 ∧ n13 ≤ 9223372036854775807) ∧ (-9223372036854775808 ≤ n14 ∧ n14 ≤ 9223372036854775807) ∧ (-9223372036854775808 ≤ n15 ∧ n15 ≤ 9223372036854775807) ∧ (-9223372036854775808 ≤ n16 ∧ n16 ≤ 9223372036854775807) ∧ (-9223372036854775808 ≤ n17 ∧ n17 ≤ 9223372036854775807) := by
 obtain ⟨l0, rfl, h0⟩ := open_cells hs hct hn hv; obtain ⟨n0, l1, rfl, b_n0, h1⟩ := fa_int hI h0; obtain ⟨n1, l2, rfl, b_n1, h2⟩ := fa_int hI h1; obtain ⟨n2, l3, rfl, b_n2, h3⟩ := fa_int hI h2; obtain ⟨n3, l4, rfl, b_n3, h4⟩ := fa_int hI h3; obtain ⟨n4, l5, rfl, b_n4, h5⟩ := fa_int hI h4; obtain ⟨n5, l6, rfl, b_n5, h6⟩ := fa_int hI h5; obtain ⟨n6, l7, rfl, b_n6, h7⟩ := fa_int hI h6; obtain ⟨n7, l8, rfl, b_n7, h8⟩ := fa_int hI h7
 obtain ⟨b8, l9, rfl, h9⟩ := fa_bool hB h8; obtain ⟨b9, l10, rfl, h10⟩ := fa_bool hB h9; obtain ⟨n10, l11, rfl, b_n10, h11⟩ := fa_int hI h10; obtain ⟨n11, l12, rfl, b_n11, h12⟩ := fa_int hI h11; obtain ⟨n12, l13, rfl, b_n12, h13⟩ := fa_int hI h12; obtain ⟨n13, l14, rfl, b_n13, h14⟩ := fa_int hI h13; obtain ⟨n14, l15, rfl, b_n14, h15⟩ := fa_int hI h14; obtain ⟨n15, l16, rfl, b_n15, h16⟩ := fa_int hI h15
 obtain ⟨n16, l17, rfl, b_n16, h17⟩ := fa_int hI h16; obtain ⟨n17, l18, rfl, b_n17, h18⟩ := fa_int hI h17; obtain rfl := fa_nil h18
 exact ⟨n0, n1, n2, n3, n4, n5, n6, n7, b8, b9, n10, n11, n12, n13, n14, n15, n16, n17, rfl, b_n0, b_n1, b_n2, b_n3, b_n4, b_n5, b_n6, b_n7, b_n10, b_n11, b_n12, b_n13, b_n14, b_n15, b_n16, b_n17⟩
end Go.Proofs.YtmacnhjbjembiaaGreatDoor
namespace Go.Proofs.YtmacnhjbjembiaaGreatDoor
open Go.RowKit W
open Pl (uv vn vs fitO makeO roundO p10 cmpI oN oS oB dtext)
open Pl (nb bv bv_nb nb_size_zero)
open Iv
set_option maxRecDepth 100000 in
set_option maxHeartbeats 4000000 in
theorem rmade7_any (q0 q1 q2 q3 : Int) (srt : Bool) (w : World)  :
  Calls Tryz.prog 46 #[.agg #[.int .i64 q0, .int .i64 q1, .int .i64 q2, .int .i64 q3], .bool srt] w fun e w' => (∃ a b c d : Int, e = .returned (rg a b c d)) ∧ Below w.heap.size w w' := by
 have M1 := Lib.hid (fun W => rmade_any q0 q1 W); have M2 := Lib.hid (fun W => rmade_any q2 q3 W); generalize mdN q0 q1 = a at *; generalize mdS q0 q1 = b at *; generalize mdN q2 q3 = c at *; generalize mdS q2 q3 = d at *; have C := Lib.hid (fun W => rcmp_any a b c d W); generalize cmpI (uv a b) (uv c d) = z at *
 go_enter Tryz.func46, Tryz.ntmps46
 have ⟨bQ, bR, hacc⟩ := opn2 w [.int .i64 q0, .int .i64 q1, .int .i64 q2, .int .i64 q3] [.int .i64 0, .int .i64 0, .int .i64 0, .int .i64 0] 22 30
 go_upto_region 1 with fail
 generalize (w.alloc (.cells #[.int .i64 q0, .int .i64 q1, .int .i64 q2, .int .i64 q3] 22)).alloc (.cells #[.int .i64 0, .int .i64 0, .int .i64 0, .int .i64 0] 30) = W0 at *; generalize hgR : w.heap.size + 1 = gR at *; obtain ⟨gQ, hgQ⟩ : ∃ g, g = w.heap.size := ⟨_, rfl⟩; rw [← hgQ] at bQ
 simp only [← hgQ]
 have ngQgR : gQ ≠ gR := by omega
 have kgQ : w.heap.size ≤ gQ := by omega
 have kgR : w.heap.size ≤ gR := by omega
 clear hgQ hgR
 go_cut [5] (fun s wx => ∃ gX : Nat, s = .pointer (some ⟨gX, 0, none⟩) ∧ Rx wx gX [.int .i64 a, .int .i64 b, .int .i64 c, .int .i64 d] ∧ gR ≠ gX ∧ w.heap.size ≤ gX ∧ Rx wx gR [.int .i64 0, .int .i64 0, .int .i64 0, .int .i64 0] ∧ Below w.heap.size w wx)
 case first =>
  replace hacc := hacc.drew; replace bQ := bQ.drew; replace bR := bR.drew
  refine wp_held (S := (fun w' => w'.cell? ⟨gQ, 0, none⟩ = some (.int .i64 q0) ∧ w'.cell? ⟨gQ, 1, none⟩ = some (.int .i64 q1) ∧ w'.cell? ⟨gQ, 2, none⟩ = some (.int .i64 q2) ∧ w'.cell? ⟨gQ, 3, none⟩ = some (.int .i64 q3))) (by kernel_rfl) (fun hP WD hWD => ?_)
  simp only [← hWD.out] at hacc bQ bR
  clear hWD
  refine ⟨?_, fun hHeld => ?_⟩
  ·try dsimp only
   with_reducible exact q4 bQ
  refine tk (oi := ?_) (v := ?_) 0 hP (by kernel_rfl) ?_ ?_ ?_ hHeld ?_; rotate_left 2
  (conv => lhs; whnf; arg 1; whnf); kernel_rfl; focus (intro w hSw; (try dsimp only at hSw); go_simp; all_goals with_reducible rfl)
  simp only [Act.put, sA, sB, sC]
  refine tk (oi := ?_) (v := ?_) 1 hP (by kernel_rfl) ?_ ?_ ?_ hHeld ?_; rotate_left 2
  (conv => lhs; whnf; arg 1; whnf); kernel_rfl; focus (intro w hSw; (try dsimp only at hSw); go_simp; all_goals with_reducible rfl)
  simp only [Act.put, sA, sB, sC]
  refine tk (oi := ?_) (v := ?_) 2 hP (by kernel_rfl) ?_ ?_ ?_ hHeld ?_; rotate_left 2
  (conv => lhs; whnf; arg 1; whnf); kernel_rfl; focus (intro w hSw; (try dsimp only at hSw); go_simp; all_goals with_reducible rfl)
  simp only [Act.put, sA, sB, sC]
  refine tk (oi := ?_) (v := ?_) 3 hP (by kernel_rfl) ?_ ?_ ?_ hHeld ?_; rotate_left 2
  (conv => lhs; whnf; arg 1; whnf); kernel_rfl; focus (intro w hSw; (try dsimp only at hSw); go_simp; all_goals with_reducible rfl)
  simp only [Act.put, sA, sB, sC]
  refine tk (oi := ?_) (v := ?_) 5 hP (by kernel_rfl) ?_ ?_ ?_ hHeld ?_; rotate_left 2
  (conv => lhs; whnf; arg 1; whnf); kernel_rfl; focus (intro w hSw; (try dsimp only at hSw); go_simp; all_goals with_reducible rfl)
  simp only [Act.put, sA, sB, sC]
  refine tk (oi := ?_) (v := ?_) 6 hP (by kernel_rfl) ?_ ?_ ?_ hHeld ?_; rotate_left 2
  (conv => lhs; whnf; arg 1; whnf); kernel_rfl; focus (intro w hSw; (try dsimp only at hSw); go_simp; all_goals with_reducible rfl)
  simp only [Act.put, sA, sB, sC]
  refine tk (oi := ?_) (v := ?_) 7 hP (by kernel_rfl) ?_ ?_ ?_ hHeld ?_; rotate_left 2
  (conv => lhs; whnf; arg 1; whnf); kernel_rfl; focus (intro w hSw; (try dsimp only at hSw); go_simp; all_goals with_reducible rfl)
  simp only [Act.put, sA, sB, sC]
  refine tk (oi := ?_) (v := ?_) 8 hP (by kernel_rfl) ?_ ?_ ?_ hHeld ?_; rotate_left 2
  (conv => lhs; whnf; arg 1; whnf); kernel_rfl; focus (intro w hSw; (try dsimp only at hSw); go_simp; all_goals with_reducible rfl)
  simp only [Act.put, sA, sB, sC]
  refine wpAnyH_ready (rs := [4, 11]) (by kernel_rfl) (by simp) ?_
  refine AllReadyH.cons (o := ?_) ?_ (fun KK hK => ?_) ?_; rotate_left; (conv => lhs; whnf; arg 1; whnf)
  ·go_simp
   with_reducible refine (M1.out _).mono ?_
   rintro e wZ ⟨rfl, hbX⟩; replace hacc := hacc.trans (hbX.mono hacc.size); replace bQ := bQ.below hbX; replace bR := bR.below hbX; clear hbX
   (first | refine hK.out _ _ ?_ (fun hHeldN => ?_) | (go_wp2_with fail; refine hK.out _ _ ?_ (fun hHeldN => ?_)))
   ·try dsimp only
    with_reducible exact q4 bQ
   replace hHeld := hHeldN; clear hK KK hHeldN
   try simp only [Act.put, sA, sB, sC]
   refine wpAnyH_ready (rs := [9, 11]) (by kernel_rfl) (by simp) ?_
   refine AllReadyH.cons (o := ?_) ?_ (fun KK hK => ?_) ?_; rotate_left; (conv => lhs; whnf; arg 1; whnf)
   ·go_simp
    with_reducible refine (M2.out _).mono ?_
    rintro e wZ ⟨rfl, hbX⟩; replace hacc := hacc.trans (hbX.mono hacc.size); replace bQ := bQ.below hbX; replace bR := bR.below hbX; clear hbX
    (first | refine hK.out _ _ ?_ (fun hHeldN => ?_) | (go_wp2_with fail; refine hK.out _ _ ?_ (fun hHeldN => ?_)))
    ·try dsimp only
     with_reducible exact q4 bQ
    replace hHeld := hHeldN; clear hK KK hHeldN
    try simp only [Act.put, sA, sB, sC]
    refine tk (oi := ?_) (v := ?_) 10 hP (by kernel_rfl) ?_ ?_ ?_ hHeld ?_; rotate_left 2
    (conv => lhs; whnf; arg 1; whnf); kernel_rfl; focus (intro w hSw; (try dsimp only at hSw); go_simp; all_goals with_reducible rfl)
    simp only [Act.put, sA, sB, sC]
    refine st (oi := ?_) 11 (by kernel_rfl) ?_ (fun KK hK => ?_); rotate_left; (conv => lhs; whnf; arg 1; whnf)
    go_simp
    have kgX := hacc.size; replace hacc := hacc.alloc hacc.size (.cells #[.int .i64 0, .int .i64 0, .int .i64 0, .int .i64 0] 30); have dgQ := bQ.lt; have dgR := bR.lt; replace bQ := bQ.alloc (.cells #[.int .i64 0, .int .i64 0, .int .i64 0, .int .i64 0] 30); replace bR := bR.alloc (.cells #[.int .i64 0, .int .i64 0, .int .i64 0, .int .i64 0] 30); have bX := Rx.new (wZ) _ rfl [.int .i64 0, .int .i64 0, .int .i64 0, .int .i64 0] 30
    generalize wZ.heap.size = gX at *; generalize wZ.alloc (.cells #[.int .i64 0, .int .i64 0, .int .i64 0, .int .i64 0] 30) = WgX at *
    have ngQgX : gQ ≠ gX := by omega
    have ngRgX : gR ≠ gX := by omega
    clear dgQ dgR
    (first | refine hK.out _ _ ?_ (fun hHeldN => ?_) | (go_wp2_with fail; refine hK.out _ _ ?_ (fun hHeldN => ?_)))
    ·try dsimp only
     with_reducible exact q4 bQ
    replace hHeld := hHeldN; clear hK KK hHeldN
    try simp only [Act.put, sA, sB, sC]
    refine st (oi := ?_) 12 (by kernel_rfl) ?_ (fun KK hK => ?_); rotate_left; (conv => lhs; whnf; arg 1; whnf)
    have ⟨cgX0, fgX0, cgX1, fgX1, cgX2, fgX2, cgX3, fgX3⟩ := bX.all4; replace hacc := (((hacc.setCell (p := ⟨gX, 0, none⟩) kgX (.int .i64 a)).setCell (p := ⟨gX, 1, none⟩) kgX (.int .i64 b)).setCell (p := ⟨gX, 2, none⟩) kgX (.int .i64 c)).setCell (p := ⟨gX, 3, none⟩) kgX (.int .i64 d); replace bQ := ((((bQ.other (p := ⟨gX, 0, none⟩) (Ne.symm ngQgX) (.int .i64 a)).other (p := ⟨gX, 1, none⟩) (Ne.symm ngQgX) (.int .i64 b)).other (p := ⟨gX, 2, none⟩) (Ne.symm ngQgX) (.int .i64 c)).other (p := ⟨gX, 3, none⟩) (Ne.symm ngQgX) (.int .i64 d))
    replace bR := ((((bR.other (p := ⟨gX, 0, none⟩) (Ne.symm ngRgX) (.int .i64 a)).other (p := ⟨gX, 1, none⟩) (Ne.symm ngRgX) (.int .i64 b)).other (p := ⟨gX, 2, none⟩) (Ne.symm ngRgX) (.int .i64 c)).other (p := ⟨gX, 3, none⟩) (Ne.symm ngRgX) (.int .i64 d)); replace bX := bX.put4 (.int .i64 a) (.int .i64 b) (.int .i64 c) (.int .i64 d)
    go_simp
    clear cgX0 fgX0 cgX1 fgX1 cgX2 fgX2 cgX3 fgX3; generalize (((WgX.setCell ⟨gX, 0, none⟩ (.int .i64 a)).setCell ⟨gX, 1, none⟩ (.int .i64 b)).setCell ⟨gX, 2, none⟩ (.int .i64 c)).setCell ⟨gX, 3, none⟩ (.int .i64 d) = WS at *
    (first | refine hK.out _ _ ?_ (fun hHeldN => ?_) | (go_wp2_with fail; refine hK.out _ _ ?_ (fun hHeldN => ?_)))
    ·try dsimp only
     with_reducible exact q4 bQ
    replace hHeld := hHeldN; clear hK KK hHeldN
    try simp only [Act.put, sA, sB, sC]
    refine wpAnyH_done (by kernel_rfl) ?_ _
    refine NoPanic.normal ?_
    go_wp2_with fail
    go_meet
    exact ⟨gX, rfl, bX, ngRgX, kgX, bR, hacc⟩
   refine AllReadyH.cons (o := ?_) ?_ (fun KK hK => ?_) AllReadyH.nil; rotate_left; (conv => lhs; whnf; arg 1; whnf)
   go_simp
   have kgX := hacc.size; replace hacc := hacc.alloc hacc.size (.cells #[.int .i64 0, .int .i64 0, .int .i64 0, .int .i64 0] 30); have dgQ := bQ.lt; have dgR := bR.lt; replace bQ := bQ.alloc (.cells #[.int .i64 0, .int .i64 0, .int .i64 0, .int .i64 0] 30); replace bR := bR.alloc (.cells #[.int .i64 0, .int .i64 0, .int .i64 0, .int .i64 0] 30); have bX := Rx.new (wZ) _ rfl [.int .i64 0, .int .i64 0, .int .i64 0, .int .i64 0] 30
   generalize wZ.heap.size = gX at *; generalize wZ.alloc (.cells #[.int .i64 0, .int .i64 0, .int .i64 0, .int .i64 0] 30) = WgX at *
   have ngQgX : gQ ≠ gX := by omega
   have ngRgX : gR ≠ gX := by omega
   clear dgQ dgR
   (first | refine hK.out _ _ ?_ (fun hHeldN => ?_) | (go_wp2_with fail; refine hK.out _ _ ?_ (fun hHeldN => ?_)))
   ·try dsimp only
    with_reducible exact q4 bQ
   replace hHeld := hHeldN; clear hK KK hHeldN
   try simp only [Act.put, sA, sB, sC]
   refine st (oi := ?_) 9 (by kernel_rfl) ?_ (fun KK hK => ?_); rotate_left; (conv => lhs; whnf; arg 1; whnf)
   go_simp
   with_reducible refine (M2.out _).mono ?_
   rintro e wZ ⟨rfl, hbX⟩; replace hacc := hacc.trans (hbX.mono hacc.size); replace bQ := bQ.below hbX; replace bR := bR.below hbX; replace bX := bX.below hbX; clear hbX
   (first | refine hK.out _ _ ?_ (fun hHeldN => ?_) | (go_wp2_with fail; refine hK.out _ _ ?_ (fun hHeldN => ?_)))
   ·try dsimp only
    with_reducible exact q4 bQ
   replace hHeld := hHeldN; clear hK KK hHeldN
   try simp only [Act.put, sA, sB, sC]
   refine tk (oi := ?_) (v := ?_) 10 hP (by kernel_rfl) ?_ ?_ ?_ hHeld ?_; rotate_left 2
   (conv => lhs; whnf; arg 1; whnf); kernel_rfl; focus (intro w hSw; (try dsimp only at hSw); go_simp; all_goals with_reducible rfl)
   simp only [Act.put, sA, sB, sC]
   refine st (oi := ?_) 12 (by kernel_rfl) ?_ (fun KK hK => ?_); rotate_left; (conv => lhs; whnf; arg 1; whnf)
   have ⟨cgX0, fgX0, cgX1, fgX1, cgX2, fgX2, cgX3, fgX3⟩ := bX.all4; replace hacc := (((hacc.setCell (p := ⟨gX, 0, none⟩) kgX (.int .i64 a)).setCell (p := ⟨gX, 1, none⟩) kgX (.int .i64 b)).setCell (p := ⟨gX, 2, none⟩) kgX (.int .i64 c)).setCell (p := ⟨gX, 3, none⟩) kgX (.int .i64 d); replace bQ := ((((bQ.other (p := ⟨gX, 0, none⟩) (Ne.symm ngQgX) (.int .i64 a)).other (p := ⟨gX, 1, none⟩) (Ne.symm ngQgX) (.int .i64 b)).other (p := ⟨gX, 2, none⟩) (Ne.symm ngQgX) (.int .i64 c)).other (p := ⟨gX, 3, none⟩) (Ne.symm ngQgX) (.int .i64 d))
   replace bR := ((((bR.other (p := ⟨gX, 0, none⟩) (Ne.symm ngRgX) (.int .i64 a)).other (p := ⟨gX, 1, none⟩) (Ne.symm ngRgX) (.int .i64 b)).other (p := ⟨gX, 2, none⟩) (Ne.symm ngRgX) (.int .i64 c)).other (p := ⟨gX, 3, none⟩) (Ne.symm ngRgX) (.int .i64 d)); replace bX := bX.put4 (.int .i64 a) (.int .i64 b) (.int .i64 c) (.int .i64 d)
   go_simp
   clear cgX0 fgX0 cgX1 fgX1 cgX2 fgX2 cgX3 fgX3; generalize (((wZ.setCell ⟨gX, 0, none⟩ (.int .i64 a)).setCell ⟨gX, 1, none⟩ (.int .i64 b)).setCell ⟨gX, 2, none⟩ (.int .i64 c)).setCell ⟨gX, 3, none⟩ (.int .i64 d) = WS at *
   (first | refine hK.out _ _ ?_ (fun hHeldN => ?_) | (go_wp2_with fail; refine hK.out _ _ ?_ (fun hHeldN => ?_)))
   ·try dsimp only
    with_reducible exact q4 bQ
   replace hHeld := hHeldN; clear hK KK hHeldN
   try simp only [Act.put, sA, sB, sC]
   refine wpAnyH_done (by kernel_rfl) ?_ _
   refine NoPanic.normal ?_
   go_wp2_with fail
   go_meet
   exact ⟨gX, rfl, bX, ngRgX, kgX, bR, hacc⟩
  refine AllReadyH.cons (o := ?_) ?_ (fun KK hK => ?_) AllReadyH.nil; rotate_left; (conv => lhs; whnf; arg 1; whnf)
  go_simp
  have kgX := hacc.size; replace hacc := hacc.alloc hacc.size (.cells #[.int .i64 0, .int .i64 0, .int .i64 0, .int .i64 0] 30); have dgQ := bQ.lt; have dgR := bR.lt; replace bQ := bQ.alloc (.cells #[.int .i64 0, .int .i64 0, .int .i64 0, .int .i64 0] 30); replace bR := bR.alloc (.cells #[.int .i64 0, .int .i64 0, .int .i64 0, .int .i64 0] 30); have bX := Rx.new (WD) _ rfl [.int .i64 0, .int .i64 0, .int .i64 0, .int .i64 0] 30
  generalize WD.heap.size = gX at *; generalize WD.alloc (.cells #[.int .i64 0, .int .i64 0, .int .i64 0, .int .i64 0] 30) = WgX at *
  have ngQgX : gQ ≠ gX := by omega
  have ngRgX : gR ≠ gX := by omega
  clear dgQ dgR
  (first | refine hK.out _ _ ?_ (fun hHeldN => ?_) | (go_wp2_with fail; refine hK.out _ _ ?_ (fun hHeldN => ?_)))
  ·try dsimp only
   with_reducible exact q4 bQ
  replace hHeld := hHeldN; clear hK KK hHeldN
  try simp only [Act.put, sA, sB, sC]
  refine st (oi := ?_) 4 (by kernel_rfl) ?_ (fun KK hK => ?_); rotate_left; (conv => lhs; whnf; arg 1; whnf)
  go_simp
  with_reducible refine (M1.out _).mono ?_
  rintro e wZ ⟨rfl, hbX⟩; replace hacc := hacc.trans (hbX.mono hacc.size); replace bQ := bQ.below hbX; replace bR := bR.below hbX; replace bX := bX.below hbX; clear hbX
  (first | refine hK.out _ _ ?_ (fun hHeldN => ?_) | (go_wp2_with fail; refine hK.out _ _ ?_ (fun hHeldN => ?_)))
  ·try dsimp only
   with_reducible exact q4 bQ
  replace hHeld := hHeldN; clear hK KK hHeldN
  try simp only [Act.put, sA, sB, sC]
  refine st (oi := ?_) 9 (by kernel_rfl) ?_ (fun KK hK => ?_); rotate_left; (conv => lhs; whnf; arg 1; whnf)
  go_simp
  with_reducible refine (M2.out _).mono ?_
  rintro e wZ ⟨rfl, hbX⟩; replace hacc := hacc.trans (hbX.mono hacc.size); replace bQ := bQ.below hbX; replace bR := bR.below hbX; replace bX := bX.below hbX; clear hbX
  (first | refine hK.out _ _ ?_ (fun hHeldN => ?_) | (go_wp2_with fail; refine hK.out _ _ ?_ (fun hHeldN => ?_)))
  ·try dsimp only
   with_reducible exact q4 bQ
  replace hHeld := hHeldN; clear hK KK hHeldN
  try simp only [Act.put, sA, sB, sC]
  refine tk (oi := ?_) (v := ?_) 10 hP (by kernel_rfl) ?_ ?_ ?_ hHeld ?_; rotate_left 2
  (conv => lhs; whnf; arg 1; whnf); kernel_rfl; focus (intro w hSw; (try dsimp only at hSw); go_simp; all_goals with_reducible rfl)
  simp only [Act.put, sA, sB, sC]
  refine st (oi := ?_) 12 (by kernel_rfl) ?_ (fun KK hK => ?_); rotate_left; (conv => lhs; whnf; arg 1; whnf)
  have ⟨cgX0, fgX0, cgX1, fgX1, cgX2, fgX2, cgX3, fgX3⟩ := bX.all4; replace hacc := (((hacc.setCell (p := ⟨gX, 0, none⟩) kgX (.int .i64 a)).setCell (p := ⟨gX, 1, none⟩) kgX (.int .i64 b)).setCell (p := ⟨gX, 2, none⟩) kgX (.int .i64 c)).setCell (p := ⟨gX, 3, none⟩) kgX (.int .i64 d); replace bQ := ((((bQ.other (p := ⟨gX, 0, none⟩) (Ne.symm ngQgX) (.int .i64 a)).other (p := ⟨gX, 1, none⟩) (Ne.symm ngQgX) (.int .i64 b)).other (p := ⟨gX, 2, none⟩) (Ne.symm ngQgX) (.int .i64 c)).other (p := ⟨gX, 3, none⟩) (Ne.symm ngQgX) (.int .i64 d))
  replace bR := ((((bR.other (p := ⟨gX, 0, none⟩) (Ne.symm ngRgX) (.int .i64 a)).other (p := ⟨gX, 1, none⟩) (Ne.symm ngRgX) (.int .i64 b)).other (p := ⟨gX, 2, none⟩) (Ne.symm ngRgX) (.int .i64 c)).other (p := ⟨gX, 3, none⟩) (Ne.symm ngRgX) (.int .i64 d)); replace bX := bX.put4 (.int .i64 a) (.int .i64 b) (.int .i64 c) (.int .i64 d)
  go_simp
  clear cgX0 fgX0 cgX1 fgX1 cgX2 fgX2 cgX3 fgX3; generalize (((wZ.setCell ⟨gX, 0, none⟩ (.int .i64 a)).setCell ⟨gX, 1, none⟩ (.int .i64 b)).setCell ⟨gX, 2, none⟩ (.int .i64 c)).setCell ⟨gX, 3, none⟩ (.int .i64 d) = WS at *
  (first | refine hK.out _ _ ?_ (fun hHeldN => ?_) | (go_wp2_with fail; refine hK.out _ _ ?_ (fun hHeldN => ?_)))
  ·try dsimp only
   with_reducible exact q4 bQ
  replace hHeld := hHeldN; clear hK KK hHeldN
  try simp only [Act.put, sA, sB, sC]
  refine wpAnyH_done (by kernel_rfl) ?_ _
  refine NoPanic.normal ?_
  go_wp2_with fail
  go_meet
  exact ⟨gX, rfl, bX, ngRgX, kgX, bR, hacc⟩
 case rest =>
  obtain ⟨gX, rfl, bX, ngRgX, kgX, bR, hacc⟩ := hcut; clear bQ M1 M2
  cases srt
  ·skip
   have ⟨cgX0, fgX0, cgX1, fgX1, cgX2, fgX2, cgX3, fgX3⟩ := bX.all4; have cgR0 := bR.at 0 rfl; have fgR0 := bR.fr 0 rfl; have cgR1 := bR.at 1 rfl; have fgR1 := bR.fr 1 rfl; have cgR2 := bR.at 2 rfl; have fgR2 := bR.fr 2 rfl; have cgR3 := bR.at 3 rfl; have fgR3 := bR.fr 3 rfl; have cgR0 := bR.at 0 rfl; have fgR0 := bR.fr 0 rfl; have cgR1 := bR.at 1 rfl; have fgR1 := bR.fr 1 rfl; have cgR2 := bR.at 2 rfl
   have fgR2 := bR.fr 2 rfl; have cgR3 := bR.at 3 rfl; have fgR3 := bR.fr 3 rfl
   go_wp2_with fail
   refine bodyPost_ret (v := .agg #[.int .i64 a, .int .i64 b, .int .i64 c, .int .i64 d]) (by simp [results, Tryz.results46, go_sem, cgR0, cgR1, cgR2, cgR3]) rfl ⟨⟨_, _, _, _, rfl⟩, ((((hacc.setCell kgR _).setCell kgR _).setCell kgR _).setCell kgR _)⟩
  ·skip
   have ⟨cgX0, fgX0, cgX1, fgX1, cgX2, fgX2, cgX3, fgX3⟩ := bX.all4
   go_wp2_with fail
   clear cgX0 fgX0 cgX1 fgX1 cgX2 fgX2 cgX3 fgX3
   with_reducible refine (C.out _).mono ?_
   rintro e wZ ⟨rfl, hbX⟩; replace hacc := hacc.trans (hbX.mono hacc.size); replace bR := bR.below hbX; replace bX := bX.below hbX; clear hbX
   by_cases h : 0 < z
   ·have hd := decide_eq_true h
    have ⟨cgX0, fgX0, cgX1, fgX1, cgX2, fgX2, cgX3, fgX3⟩ := bX.all4; have kgT := hacc.size; replace hacc := hacc.alloc hacc.size (.cells #[.int .i64 a, .int .i64 b] 24); have dgR := bR.lt; have dgX := bX.lt; replace bR := bR.alloc (.cells #[.int .i64 a, .int .i64 b] 24); replace bX := bX.alloc (.cells #[.int .i64 a, .int .i64 b] 24); have bT : Rx (wZ.alloc (.cells #[.int .i64 a, .int .i64 b] 24)) wZ.heap.size [.int .i64 a, .int .i64 b] := Rx.new wZ _ rfl [.int .i64 a, .int .i64 b] 24
    go_upto_region 4 with fail
    clear cgX0 fgX0 cgX1 fgX1 cgX2 fgX2 cgX3 fgX3; generalize wZ.heap.size = gT at *; generalize wZ.alloc (.cells #[.int .i64 a, .int .i64 b] 24) = WgT at *
    have ngRgT : gR ≠ gT := by omega
    have ngXgT : gX ≠ gT := by omega
    clear dgR dgX; have ⟨cgX0, fgX0, cgX1, fgX1, cgX2, fgX2, cgX3, fgX3⟩ := bX.all4; have ⟨cgT0, fgT0, cgT1, fgT1⟩ := bT.all2; replace hacc := (hacc.setCell (p := ⟨gX, 0, none⟩) kgX (.int .i64 c)).setCell (p := ⟨gX, 1, none⟩) kgX (.int .i64 d); replace bR := ((bR.other (p := ⟨gX, 0, none⟩) (Ne.symm ngRgX) (.int .i64 c)).other (p := ⟨gX, 1, none⟩) (Ne.symm ngRgX) (.int .i64 d)); replace bT := ((bT.other (p := ⟨gX, 0, none⟩) ngXgT (.int .i64 c)).other (p := ⟨gX, 1, none⟩) ngXgT (.int .i64 d))
    replace bX := bX.put 0 (.int .i64 c) (by simp)
    replace bX := bX.put 1 (.int .i64 d) (by simp)
    simp only [List.set] at bX
    go_upto_region 5 with fail
    clear cgX0 fgX0 cgX1 fgX1 cgX2 fgX2 cgX3 fgX3 cgT0 fgT0 cgT1 fgT1; generalize (WgT.setCell ⟨gX, 0, none⟩ (.int .i64 c)).setCell ⟨gX, 1, none⟩ (.int .i64 d) = WS at *; have ⟨cgX0, fgX0, cgX1, fgX1, cgX2, fgX2, cgX3, fgX3⟩ := bX.all4; have ⟨cgT0, fgT0, cgT1, fgT1⟩ := bT.all2; replace hacc := (hacc.setCell (p := ⟨gX, 2, none⟩) kgX (.int .i64 a)).setCell (p := ⟨gX, 3, none⟩) kgX (.int .i64 b); replace bR := ((bR.other (p := ⟨gX, 2, none⟩) (Ne.symm ngRgX) (.int .i64 a)).other (p := ⟨gX, 3, none⟩) (Ne.symm ngRgX) (.int .i64 b))
    replace bT := ((bT.other (p := ⟨gX, 2, none⟩) ngXgT (.int .i64 a)).other (p := ⟨gX, 3, none⟩) ngXgT (.int .i64 b))
    replace bX := bX.put 2 (.int .i64 a) (by simp)
    replace bX := bX.put 3 (.int .i64 b) (by simp)
    simp only [List.set] at bX
    go_upto_region 6 with fail
    clear cgX0 fgX0 cgX1 fgX1 cgX2 fgX2 cgX3 fgX3 cgT0 fgT0 cgT1 fgT1; generalize (WS.setCell ⟨gX, 2, none⟩ (.int .i64 a)).setCell ⟨gX, 3, none⟩ (.int .i64 b) = WS at *; have ⟨cgX0, fgX0, cgX1, fgX1, cgX2, fgX2, cgX3, fgX3⟩ := bX.all4; have cgR0 := bR.at 0 rfl; have fgR0 := bR.fr 0 rfl; have cgR1 := bR.at 1 rfl; have fgR1 := bR.fr 1 rfl; have cgR2 := bR.at 2 rfl; have fgR2 := bR.fr 2 rfl; have cgR3 := bR.at 3 rfl
    have fgR3 := bR.fr 3 rfl; have cgR0 := bR.at 0 rfl; have fgR0 := bR.fr 0 rfl; have cgR1 := bR.at 1 rfl; have fgR1 := bR.fr 1 rfl; have cgR2 := bR.at 2 rfl; have fgR2 := bR.fr 2 rfl; have cgR3 := bR.at 3 rfl; have fgR3 := bR.fr 3 rfl
    go_wp2_with fail
    refine bodyPost_ret (v := .agg #[.int .i64 c, .int .i64 d, .int .i64 a, .int .i64 b]) (by simp [results, Tryz.results46, go_sem, cgR0, cgR1, cgR2, cgR3]) rfl ⟨⟨_, _, _, _, rfl⟩, ((((hacc.setCell kgR _).setCell kgR _).setCell kgR _).setCell kgR _)⟩
   ·have hd := decide_eq_false h
    have ⟨cgX0, fgX0, cgX1, fgX1, cgX2, fgX2, cgX3, fgX3⟩ := bX.all4; have cgR0 := bR.at 0 rfl; have fgR0 := bR.fr 0 rfl; have cgR1 := bR.at 1 rfl; have fgR1 := bR.fr 1 rfl; have cgR2 := bR.at 2 rfl; have fgR2 := bR.fr 2 rfl; have cgR3 := bR.at 3 rfl; have fgR3 := bR.fr 3 rfl; have cgR0 := bR.at 0 rfl; have fgR0 := bR.fr 0 rfl; have cgR1 := bR.at 1 rfl; have fgR1 := bR.fr 1 rfl; have cgR2 := bR.at 2 rfl
    have fgR2 := bR.fr 2 rfl; have cgR3 := bR.at 3 rfl; have fgR3 := bR.fr 3 rfl
    go_wp2_with fail
    refine bodyPost_ret (v := .agg #[.int .i64 a, .int .i64 b, .int .i64 c, .int .i64 d]) (by simp [results, Tryz.results46, go_sem, cgR0, cgR1, cgR2, cgR3]) rfl ⟨⟨_, _, _, _, rfl⟩, ((((hacc.setCell kgR _).setCell kgR _).setCell kgR _).setCell kgR _)⟩
set_option maxRecDepth 100000 in
set_option maxHeartbeats 4000000 in
theorem ranges_any (q0 q1 q2 q3 q4 q5 q6 q7 d0 d1 d2 d3 d4 d5 d6 d7 : Int) (srt raw : Bool) (w : World)  :
  Calls Tryz.prog 11 #[.agg #[.int .i64 q0, .int .i64 q1, .int .i64 q2, .int .i64 q3, .int .i64 q4, .int .i64 q5, .int .i64 q6, .int .i64 q7, .bool srt, .bool raw, .int .i64 d0, .int .i64 d1, .int .i64 d2, .int .i64 d3, .int .i64 d4, .int .i64 d5, .int .i64 d6, .int .i64 d7]] w fun e w' => (∃ a b c d k l m n : Int, e = .returned (.tuple #[rg a b c d, rg k l m n])) ∧ Below w.heap.size w w' := by
 have M1 := Lib.hid (fun W => rmade7_any q0 q1 q2 q3 srt W); have M2 := Lib.hid (fun W => rmade7_any q4 q5 q6 q7 srt W)
 cases raw
 ·skip
  go_enter Tryz.func11, Tryz.ntmps11
  have ⟨bT, bR, bS, hacc⟩ := opn3 w [.int .i64 q0, .int .i64 q1, .int .i64 q2, .int .i64 q3, .int .i64 q4, .int .i64 q5, .int .i64 q6, .int .i64 q7, .bool srt, .bool false, .int .i64 d0, .int .i64 d1, .int .i64 d2, .int .i64 d3, .int .i64 d4, .int .i64 d5, .int .i64 d6, .int .i64 d7] [.int .i64 0, .int .i64 0, .int .i64 0, .int .i64 0] [.int .i64 0, .int .i64 0, .int .i64 0, .int .i64 0] 27 30 30
  go_upto_region 1 with fail
  generalize ((w.alloc (.cells #[.int .i64 q0, .int .i64 q1, .int .i64 q2, .int .i64 q3, .int .i64 q4, .int .i64 q5, .int .i64 q6, .int .i64 q7, .bool srt, .bool false, .int .i64 d0, .int .i64 d1, .int .i64 d2, .int .i64 d3, .int .i64 d4, .int .i64 d5, .int .i64 d6, .int .i64 d7] 27)).alloc (.cells #[.int .i64 0, .int .i64 0, .int .i64 0, .int .i64 0] 30)).alloc (.cells #[.int .i64 0, .int .i64 0, .int .i64 0, .int .i64 0] 30) = W0 at *
  generalize hgS : w.heap.size + 1 + 1 = gS at *; generalize hgR : w.heap.size + 1 = gR at *; obtain ⟨gT, hgT⟩ : ∃ g, g = w.heap.size := ⟨_, rfl⟩; rw [← hgT] at bT
  simp only [← hgT]
  have ngTgR : gT ≠ gR := by omega
  have ngTgS : gT ≠ gS := by omega
  have ngRgS : gR ≠ gS := by omega
  have kgT : w.heap.size ≤ gT := by omega
  have kgR : w.heap.size ≤ gR := by omega
  have kgS : w.heap.size ≤ gS := by omega
  clear hgT hgR hgS; have cgT0 := bT.at 0 rfl; have fgT0 := bT.fr 0 rfl; have cgT1 := bT.at 1 rfl; have fgT1 := bT.fr 1 rfl; have cgT2 := bT.at 2 rfl; have fgT2 := bT.fr 2 rfl; have cgT3 := bT.at 3 rfl; have fgT3 := bT.fr 3 rfl; have cgT4 := bT.at 4 rfl; have fgT4 := bT.fr 4 rfl; have cgT5 := bT.at 5 rfl; have fgT5 := bT.fr 5 rfl; have cgT6 := bT.at 6 rfl; have fgT6 := bT.fr 6 rfl; have cgT7 := bT.at 7 rfl
  have fgT7 := bT.fr 7 rfl; have cgT8 := bT.at 8 rfl; have fgT8 := bT.fr 8 rfl; have cgT9 := bT.at 9 rfl; have fgT9 := bT.fr 9 rfl; have cgT10 := bT.at 10 rfl; have fgT10 := bT.fr 10 rfl; have cgT11 := bT.at 11 rfl; have fgT11 := bT.fr 11 rfl; have cgT12 := bT.at 12 rfl; have fgT12 := bT.fr 12 rfl; have cgT13 := bT.at 13 rfl; have fgT13 := bT.fr 13 rfl; have cgT14 := bT.at 14 rfl; have fgT14 := bT.fr 14 rfl
  have cgT15 := bT.at 15 rfl; have fgT15 := bT.fr 15 rfl; have cgT16 := bT.at 16 rfl; have fgT16 := bT.fr 16 rfl; have cgT17 := bT.at 17 rfl; have fgT17 := bT.fr 17 rfl
  go_upto_region 3 with fail
  clear cgT0 fgT0 cgT1 fgT1 cgT2 fgT2 cgT3 fgT3 cgT4 fgT4 cgT5 fgT5 cgT6 fgT6 cgT7 fgT7 cgT8 fgT8 cgT9 fgT9 cgT10 fgT10 cgT11 fgT11 cgT12 fgT12 cgT13 fgT13 cgT14 fgT14 cgT15 fgT15 cgT16 fgT16 cgT17 fgT17; replace hacc := hacc.drew; replace bT := bT.drew; replace bR := bR.drew; replace bS := bS.drew
  refine wp_held (S := (fun w' => w'.cell? ⟨gT, 0, none⟩ = some (.int .i64 q0) ∧ w'.cell? ⟨gT, 1, none⟩ = some (.int .i64 q1) ∧ w'.cell? ⟨gT, 2, none⟩ = some (.int .i64 q2) ∧ w'.cell? ⟨gT, 3, none⟩ = some (.int .i64 q3) ∧ w'.cell? ⟨gT, 4, none⟩ = some (.int .i64 q4) ∧ w'.cell? ⟨gT, 5, none⟩ = some (.int .i64 q5) ∧ w'.cell? ⟨gT, 6, none⟩ = some (.int .i64 q6) ∧ w'.cell? ⟨gT, 7, none⟩ = some (.int .i64 q7) ∧ w'.cell? ⟨gT, 8, none⟩ = some (.bool srt) ∧ w'.cell? ⟨gT, 9, none⟩ = some (.bool false) ∧ w'.cell? ⟨gT, 10, none⟩ = some (.int .i64 d0) ∧ w'.cell? ⟨gT, 11, none⟩ = some (.int .i64 d1) ∧ w'.cell? ⟨gT, 12, none⟩ = some (.int .i64 d2) ∧ w'.cell? ⟨gT, 13, none⟩ = some (.int .i64 d3) ∧ w'.cell? ⟨gT, 14, none⟩ = some (.int .i64 d4) ∧ w'.cell? ⟨gT, 15, none⟩ = some (.int .i64 d5) ∧ w'.cell? ⟨gT, 16, none⟩ = some (.int .i64 d6) ∧ w'.cell? ⟨gT, 17, none⟩ = some (.int .i64 d7))) (by kernel_rfl) (fun hP WD hWD => ?_)
  simp only [← hWD.out] at hacc bT bR bS
  clear hWD
  refine ⟨?_, fun hHeld => ?_⟩
  ·try dsimp only
   with_reducible exact q18 bT
  refine tk (oi := ?_) (v := ?_) 0 hP (by kernel_rfl) ?_ ?_ ?_ hHeld ?_; rotate_left 2
  (conv => lhs; whnf; arg 1; whnf); kernel_rfl; focus (intro w hSw; (try dsimp only at hSw); go_simp; all_goals with_reducible rfl)
  simp only [Act.put, sA, sB, sC]
  refine tk (oi := ?_) (v := ?_) 1 hP (by kernel_rfl) ?_ ?_ ?_ hHeld ?_; rotate_left 2
  (conv => lhs; whnf; arg 1; whnf); kernel_rfl; focus (intro w hSw; (try dsimp only at hSw); go_simp; all_goals with_reducible rfl)
  simp only [Act.put, sA, sB, sC]
  refine tk (oi := ?_) (v := ?_) 2 hP (by kernel_rfl) ?_ ?_ ?_ hHeld ?_; rotate_left 2
  (conv => lhs; whnf; arg 1; whnf); kernel_rfl; focus (intro w hSw; (try dsimp only at hSw); go_simp; all_goals with_reducible rfl)
  simp only [Act.put, sA, sB, sC]
  refine tk (oi := ?_) (v := ?_) 3 hP (by kernel_rfl) ?_ ?_ ?_ hHeld ?_; rotate_left 2
  (conv => lhs; whnf; arg 1; whnf); kernel_rfl; focus (intro w hSw; (try dsimp only at hSw); go_simp; all_goals with_reducible rfl)
  simp only [Act.put, sA, sB, sC]
  refine tk (oi := ?_) (v := ?_) 5 hP (by kernel_rfl) ?_ ?_ ?_ hHeld ?_; rotate_left 2
  (conv => lhs; whnf; arg 1; whnf); kernel_rfl; focus (intro w hSw; (try dsimp only at hSw); go_simp; all_goals with_reducible rfl)
  simp only [Act.put, sA, sB, sC]
  refine tk (oi := ?_) (v := ?_) 6 hP (by kernel_rfl) ?_ ?_ ?_ hHeld ?_; rotate_left 2
  (conv => lhs; whnf; arg 1; whnf); kernel_rfl; focus (intro w hSw; (try dsimp only at hSw); go_simp; all_goals with_reducible rfl)
  simp only [Act.put, sA, sB, sC]
  refine tk (oi := ?_) (v := ?_) 7 hP (by kernel_rfl) ?_ ?_ ?_ hHeld ?_; rotate_left 2
  (conv => lhs; whnf; arg 1; whnf); kernel_rfl; focus (intro w hSw; (try dsimp only at hSw); go_simp; all_goals with_reducible rfl)
  simp only [Act.put, sA, sB, sC]
  refine tk (oi := ?_) (v := ?_) 8 hP (by kernel_rfl) ?_ ?_ ?_ hHeld ?_; rotate_left 2
  (conv => lhs; whnf; arg 1; whnf); kernel_rfl; focus (intro w hSw; (try dsimp only at hSw); go_simp; all_goals with_reducible rfl)
  simp only [Act.put, sA, sB, sC]
  refine st (oi := ?_) 4 (by kernel_rfl) ?_ (fun KK hK => ?_); rotate_left; (conv => lhs; whnf; arg 1; whnf)
  go_simp
  with_reducible refine (M1.out _).mono ?_
  rintro e wZ ⟨⟨a, b, c, d, rfl⟩, hbX⟩; replace hacc := hacc.trans (hbX.mono hacc.size); replace bT := bT.below hbX; replace bR := bR.below hbX; replace bS := bS.below hbX; clear hbX
  (first | refine hK.out _ _ ?_ (fun hHeldN => ?_) | (go_wp2_with fail; refine hK.out _ _ ?_ (fun hHeldN => ?_)))
  ·try dsimp only
   with_reducible exact q18 bT
  replace hHeld := hHeldN; clear hK KK hHeldN
  try simp only [Act.put, sA, sB, sC]
  refine st (oi := ?_) 9 (by kernel_rfl) ?_ (fun KK hK => ?_); rotate_left; (conv => lhs; whnf; arg 1; whnf)
  go_simp
  with_reducible refine (M2.out _).mono ?_
  rintro e wZ ⟨⟨k, l, m, n, rfl⟩, hbX⟩; replace hacc := hacc.trans (hbX.mono hacc.size); replace bT := bT.below hbX; replace bR := bR.below hbX; replace bS := bS.below hbX; clear hbX
  (first | refine hK.out _ _ ?_ (fun hHeldN => ?_) | (go_wp2_with fail; refine hK.out _ _ ?_ (fun hHeldN => ?_)))
  ·try dsimp only
   with_reducible exact q18 bT
  replace hHeld := hHeldN; clear hK KK hHeldN
  try simp only [Act.put, sA, sB, sC]
  refine st (oi := ?_) 10 (by kernel_rfl) ?_ (fun KK hK => ?_); rotate_left; (conv => lhs; whnf; arg 1; whnf)
  have ⟨cgR0, fgR0, cgR1, fgR1, cgR2, fgR2, cgR3, fgR3⟩ := bR.all4; replace hacc := (((hacc.setCell (p := ⟨gR, 0, none⟩) kgR (.int .i64 a)).setCell (p := ⟨gR, 1, none⟩) kgR (.int .i64 b)).setCell (p := ⟨gR, 2, none⟩) kgR (.int .i64 c)).setCell (p := ⟨gR, 3, none⟩) kgR (.int .i64 d); replace bT := ((((bT.other (p := ⟨gR, 0, none⟩) (Ne.symm ngTgR) (.int .i64 a)).other (p := ⟨gR, 1, none⟩) (Ne.symm ngTgR) (.int .i64 b)).other (p := ⟨gR, 2, none⟩) (Ne.symm ngTgR) (.int .i64 c)).other (p := ⟨gR, 3, none⟩) (Ne.symm ngTgR) (.int .i64 d))
  replace bS := ((((bS.other (p := ⟨gR, 0, none⟩) ngRgS (.int .i64 a)).other (p := ⟨gR, 1, none⟩) ngRgS (.int .i64 b)).other (p := ⟨gR, 2, none⟩) ngRgS (.int .i64 c)).other (p := ⟨gR, 3, none⟩) ngRgS (.int .i64 d)); replace bR := bR.put4 (.int .i64 a) (.int .i64 b) (.int .i64 c) (.int .i64 d)
  go_simp
  clear cgR0 fgR0 cgR1 fgR1 cgR2 fgR2 cgR3 fgR3; generalize (((wZ.setCell ⟨gR, 0, none⟩ (.int .i64 a)).setCell ⟨gR, 1, none⟩ (.int .i64 b)).setCell ⟨gR, 2, none⟩ (.int .i64 c)).setCell ⟨gR, 3, none⟩ (.int .i64 d) = WS at *
  (first | refine hK.out _ _ ?_ (fun hHeldN => ?_) | (go_wp2_with fail; refine hK.out _ _ ?_ (fun hHeldN => ?_)))
  ·try dsimp only
   with_reducible exact q18 bT
  replace hHeld := hHeldN; clear hK KK hHeldN
  try simp only [Act.put, sA, sB, sC]
  refine st (oi := ?_) 11 (by kernel_rfl) ?_ (fun KK hK => ?_); rotate_left; (conv => lhs; whnf; arg 1; whnf)
  have ⟨cgS0, fgS0, cgS1, fgS1, cgS2, fgS2, cgS3, fgS3⟩ := bS.all4; replace hacc := (((hacc.setCell (p := ⟨gS, 0, none⟩) kgS (.int .i64 k)).setCell (p := ⟨gS, 1, none⟩) kgS (.int .i64 l)).setCell (p := ⟨gS, 2, none⟩) kgS (.int .i64 m)).setCell (p := ⟨gS, 3, none⟩) kgS (.int .i64 n); replace bT := ((((bT.other (p := ⟨gS, 0, none⟩) (Ne.symm ngTgS) (.int .i64 k)).other (p := ⟨gS, 1, none⟩) (Ne.symm ngTgS) (.int .i64 l)).other (p := ⟨gS, 2, none⟩) (Ne.symm ngTgS) (.int .i64 m)).other (p := ⟨gS, 3, none⟩) (Ne.symm ngTgS) (.int .i64 n))
  replace bR := ((((bR.other (p := ⟨gS, 0, none⟩) (Ne.symm ngRgS) (.int .i64 k)).other (p := ⟨gS, 1, none⟩) (Ne.symm ngRgS) (.int .i64 l)).other (p := ⟨gS, 2, none⟩) (Ne.symm ngRgS) (.int .i64 m)).other (p := ⟨gS, 3, none⟩) (Ne.symm ngRgS) (.int .i64 n)); replace bS := bS.put4 (.int .i64 k) (.int .i64 l) (.int .i64 m) (.int .i64 n)
  go_simp
  clear cgS0 fgS0 cgS1 fgS1 cgS2 fgS2 cgS3 fgS3; generalize (((WS.setCell ⟨gS, 0, none⟩ (.int .i64 k)).setCell ⟨gS, 1, none⟩ (.int .i64 l)).setCell ⟨gS, 2, none⟩ (.int .i64 m)).setCell ⟨gS, 3, none⟩ (.int .i64 n) = WS at *
  (first | refine hK.out _ _ ?_ (fun hHeldN => ?_) | (go_wp2_with fail; refine hK.out _ _ ?_ (fun hHeldN => ?_)))
  ·try dsimp only
   with_reducible exact q18 bT
  replace hHeld := hHeldN; clear hK KK hHeldN
  try simp only [Act.put, sA, sB, sC]
  refine wpAnyH_done (by kernel_rfl) ?_ _
  refine NoPanic.normal ?_
  have ⟨cgR0, fgR0, cgR1, fgR1, cgR2, fgR2, cgR3, fgR3⟩ := bR.all4; have ⟨cgS0, fgS0, cgS1, fgS1, cgS2, fgS2, cgS3, fgS3⟩ := bS.all4
  go_wp2_with fail
  refine bodyPost_ret (v := .tuple #[.agg #[.int .i64 a, .int .i64 b, .int .i64 c, .int .i64 d], .agg #[.int .i64 k, .int .i64 l, .int .i64 m, .int .i64 n]]) (by simp [results, Tryz.results11, go_sem, cgR0, cgR1, cgR2, cgR3, cgS0, cgS1, cgS2, cgS3]) rfl ⟨⟨_, _, _, _, _, _, _, _, rfl⟩, hacc⟩
 ·skip
  go_enter Tryz.func11, Tryz.ntmps11
  have ⟨bT, bR, bS, hacc⟩ := opn3 w [.int .i64 q0, .int .i64 q1, .int .i64 q2, .int .i64 q3, .int .i64 q4, .int .i64 q5, .int .i64 q6, .int .i64 q7, .bool srt, .bool true, .int .i64 d0, .int .i64 d1, .int .i64 d2, .int .i64 d3, .int .i64 d4, .int .i64 d5, .int .i64 d6, .int .i64 d7] [.int .i64 0, .int .i64 0, .int .i64 0, .int .i64 0] [.int .i64 0, .int .i64 0, .int .i64 0, .int .i64 0] 27 30 30
  go_upto_region 1 with fail
  generalize ((w.alloc (.cells #[.int .i64 q0, .int .i64 q1, .int .i64 q2, .int .i64 q3, .int .i64 q4, .int .i64 q5, .int .i64 q6, .int .i64 q7, .bool srt, .bool true, .int .i64 d0, .int .i64 d1, .int .i64 d2, .int .i64 d3, .int .i64 d4, .int .i64 d5, .int .i64 d6, .int .i64 d7] 27)).alloc (.cells #[.int .i64 0, .int .i64 0, .int .i64 0, .int .i64 0] 30)).alloc (.cells #[.int .i64 0, .int .i64 0, .int .i64 0, .int .i64 0] 30) = W0 at *
  generalize hgS : w.heap.size + 1 + 1 = gS at *; generalize hgR : w.heap.size + 1 = gR at *; obtain ⟨gT, hgT⟩ : ∃ g, g = w.heap.size := ⟨_, rfl⟩; rw [← hgT] at bT
  simp only [← hgT]
  have ngTgR : gT ≠ gR := by omega
  have ngTgS : gT ≠ gS := by omega
  have ngRgS : gR ≠ gS := by omega
  have kgT : w.heap.size ≤ gT := by omega
  have kgR : w.heap.size ≤ gR := by omega
  have kgS : w.heap.size ≤ gS := by omega
  clear hgT hgR hgS; have cgT0 := bT.at 0 rfl; have fgT0 := bT.fr 0 rfl; have cgT1 := bT.at 1 rfl; have fgT1 := bT.fr 1 rfl; have cgT2 := bT.at 2 rfl; have fgT2 := bT.fr 2 rfl; have cgT3 := bT.at 3 rfl; have fgT3 := bT.fr 3 rfl; have cgT4 := bT.at 4 rfl; have fgT4 := bT.fr 4 rfl; have cgT5 := bT.at 5 rfl; have fgT5 := bT.fr 5 rfl; have cgT6 := bT.at 6 rfl; have fgT6 := bT.fr 6 rfl; have cgT7 := bT.at 7 rfl
  have fgT7 := bT.fr 7 rfl; have cgT8 := bT.at 8 rfl; have fgT8 := bT.fr 8 rfl; have cgT9 := bT.at 9 rfl; have fgT9 := bT.fr 9 rfl; have cgT10 := bT.at 10 rfl; have fgT10 := bT.fr 10 rfl; have cgT11 := bT.at 11 rfl; have fgT11 := bT.fr 11 rfl; have cgT12 := bT.at 12 rfl; have fgT12 := bT.fr 12 rfl; have cgT13 := bT.at 13 rfl; have fgT13 := bT.fr 13 rfl; have cgT14 := bT.at 14 rfl; have fgT14 := bT.fr 14 rfl
  have cgT15 := bT.at 15 rfl; have fgT15 := bT.fr 15 rfl; have cgT16 := bT.at 16 rfl; have fgT16 := bT.fr 16 rfl; have cgT17 := bT.at 17 rfl; have fgT17 := bT.fr 17 rfl
  go_upto_region 2 with fail
  clear M1 M2; clear cgT0 fgT0 cgT1 fgT1 cgT2 fgT2 cgT3 fgT3 cgT4 fgT4 cgT5 fgT5 cgT6 fgT6 cgT7 fgT7 cgT8 fgT8 cgT9 fgT9 cgT10 fgT10 cgT11 fgT11 cgT12 fgT12 cgT13 fgT13 cgT14 fgT14 cgT15 fgT15 cgT16 fgT16 cgT17 fgT17; replace hacc := hacc.drew; replace bT := bT.drew; replace bR := bR.drew; replace bS := bS.drew
  refine wp_held (S := (fun w' => w'.cell? ⟨gT, 0, none⟩ = some (.int .i64 q0) ∧ w'.cell? ⟨gT, 1, none⟩ = some (.int .i64 q1) ∧ w'.cell? ⟨gT, 2, none⟩ = some (.int .i64 q2) ∧ w'.cell? ⟨gT, 3, none⟩ = some (.int .i64 q3) ∧ w'.cell? ⟨gT, 4, none⟩ = some (.int .i64 q4) ∧ w'.cell? ⟨gT, 5, none⟩ = some (.int .i64 q5) ∧ w'.cell? ⟨gT, 6, none⟩ = some (.int .i64 q6) ∧ w'.cell? ⟨gT, 7, none⟩ = some (.int .i64 q7) ∧ w'.cell? ⟨gT, 8, none⟩ = some (.bool srt) ∧ w'.cell? ⟨gT, 9, none⟩ = some (.bool true) ∧ w'.cell? ⟨gT, 10, none⟩ = some (.int .i64 d0) ∧ w'.cell? ⟨gT, 11, none⟩ = some (.int .i64 d1) ∧ w'.cell? ⟨gT, 12, none⟩ = some (.int .i64 d2) ∧ w'.cell? ⟨gT, 13, none⟩ = some (.int .i64 d3) ∧ w'.cell? ⟨gT, 14, none⟩ = some (.int .i64 d4) ∧ w'.cell? ⟨gT, 15, none⟩ = some (.int .i64 d5) ∧ w'.cell? ⟨gT, 16, none⟩ = some (.int .i64 d6) ∧ w'.cell? ⟨gT, 17, none⟩ = some (.int .i64 d7))) (by kernel_rfl) (fun hP WD hWD => ?_)
  simp only [← hWD.out] at hacc bT bR bS
  clear hWD
  refine ⟨?_, fun hHeld => ?_⟩
  ·try dsimp only
   with_reducible exact q18 bT
  refine tk (oi := ?_) (v := ?_) 0 hP (by kernel_rfl) ?_ ?_ ?_ hHeld ?_; rotate_left 2
  (conv => lhs; whnf; arg 1; whnf); kernel_rfl; focus (intro w hSw; (try dsimp only at hSw); go_simp; all_goals with_reducible rfl)
  simp only [Act.put, sA, sB, sC]
  refine tk (oi := ?_) (v := ?_) 1 hP (by kernel_rfl) ?_ ?_ ?_ hHeld ?_; rotate_left 2
  (conv => lhs; whnf; arg 1; whnf); kernel_rfl; focus (intro w hSw; (try dsimp only at hSw); go_simp; all_goals with_reducible rfl)
  simp only [Act.put, sA, sB, sC]
  refine tk (oi := ?_) (v := ?_) 2 hP (by kernel_rfl) ?_ ?_ ?_ hHeld ?_; rotate_left 2
  (conv => lhs; whnf; arg 1; whnf); kernel_rfl; focus (intro w hSw; (try dsimp only at hSw); go_simp; all_goals with_reducible rfl)
  simp only [Act.put, sA, sB, sC]
  refine tk (oi := ?_) (v := ?_) 3 hP (by kernel_rfl) ?_ ?_ ?_ hHeld ?_; rotate_left 2
  (conv => lhs; whnf; arg 1; whnf); kernel_rfl; focus (intro w hSw; (try dsimp only at hSw); go_simp; all_goals with_reducible rfl)
  simp only [Act.put, sA, sB, sC]
  refine tk (oi := ?_) (v := ?_) 4 hP (by kernel_rfl) ?_ ?_ ?_ hHeld ?_; rotate_left 2
  (conv => lhs; whnf; arg 1; whnf); kernel_rfl; focus (intro w hSw; (try dsimp only at hSw); go_simp; all_goals with_reducible rfl)
  simp only [Act.put, sA, sB, sC]
  refine tk (oi := ?_) (v := ?_) 5 hP (by kernel_rfl) ?_ ?_ ?_ hHeld ?_; rotate_left 2
  (conv => lhs; whnf; arg 1; whnf); kernel_rfl; focus (intro w hSw; (try dsimp only at hSw); go_simp; all_goals with_reducible rfl)
  simp only [Act.put, sA, sB, sC]
  refine tk (oi := ?_) (v := ?_) 6 hP (by kernel_rfl) ?_ ?_ ?_ hHeld ?_; rotate_left 2
  (conv => lhs; whnf; arg 1; whnf); kernel_rfl; focus (intro w hSw; (try dsimp only at hSw); go_simp; all_goals with_reducible rfl)
  simp only [Act.put, sA, sB, sC]
  refine tk (oi := ?_) (v := ?_) 7 hP (by kernel_rfl) ?_ ?_ ?_ hHeld ?_; rotate_left 2
  (conv => lhs; whnf; arg 1; whnf); kernel_rfl; focus (intro w hSw; (try dsimp only at hSw); go_simp; all_goals with_reducible rfl)
  simp only [Act.put, sA, sB, sC]
  refine tk (oi := ?_) (v := ?_) 8 hP (by kernel_rfl) ?_ ?_ ?_ hHeld ?_; rotate_left 2
  (conv => lhs; whnf; arg 1; whnf); kernel_rfl; focus (intro w hSw; (try dsimp only at hSw); go_simp; all_goals with_reducible rfl)
  simp only [Act.put, sA, sB, sC]
  refine tk (oi := ?_) (v := ?_) 9 hP (by kernel_rfl) ?_ ?_ ?_ hHeld ?_; rotate_left 2
  (conv => lhs; whnf; arg 1; whnf); kernel_rfl; focus (intro w hSw; (try dsimp only at hSw); go_simp; all_goals with_reducible rfl)
  simp only [Act.put, sA, sB, sC]
  refine tk (oi := ?_) (v := ?_) 10 hP (by kernel_rfl) ?_ ?_ ?_ hHeld ?_; rotate_left 2
  (conv => lhs; whnf; arg 1; whnf); kernel_rfl; focus (intro w hSw; (try dsimp only at hSw); go_simp; all_goals with_reducible rfl)
  simp only [Act.put, sA, sB, sC]
  refine tk (oi := ?_) (v := ?_) 11 hP (by kernel_rfl) ?_ ?_ ?_ hHeld ?_; rotate_left 2
  (conv => lhs; whnf; arg 1; whnf); kernel_rfl; focus (intro w hSw; (try dsimp only at hSw); go_simp; all_goals with_reducible rfl)
  simp only [Act.put, sA, sB, sC]
  refine tk (oi := ?_) (v := ?_) 12 hP (by kernel_rfl) ?_ ?_ ?_ hHeld ?_; rotate_left 2
  (conv => lhs; whnf; arg 1; whnf); kernel_rfl; focus (intro w hSw; (try dsimp only at hSw); go_simp; all_goals with_reducible rfl)
  simp only [Act.put, sA, sB, sC]
  refine tk (oi := ?_) (v := ?_) 13 hP (by kernel_rfl) ?_ ?_ ?_ hHeld ?_; rotate_left 2
  (conv => lhs; whnf; arg 1; whnf); kernel_rfl; focus (intro w hSw; (try dsimp only at hSw); go_simp; all_goals with_reducible rfl)
  simp only [Act.put, sA, sB, sC]
  refine st (oi := ?_) 14 (by kernel_rfl) ?_ (fun KK hK => ?_); rotate_left; (conv => lhs; whnf; arg 1; whnf)
  have ⟨cgR0, fgR0, cgR1, fgR1, cgR2, fgR2, cgR3, fgR3⟩ := bR.all4; replace hacc := (((hacc.setCell (p := ⟨gR, 0, none⟩) kgR (.int .i64 d0)).setCell (p := ⟨gR, 1, none⟩) kgR (.int .i64 d1)).setCell (p := ⟨gR, 2, none⟩) kgR (.int .i64 d2)).setCell (p := ⟨gR, 3, none⟩) kgR (.int .i64 d3); replace bT := ((((bT.other (p := ⟨gR, 0, none⟩) (Ne.symm ngTgR) (.int .i64 d0)).other (p := ⟨gR, 1, none⟩) (Ne.symm ngTgR) (.int .i64 d1)).other (p := ⟨gR, 2, none⟩) (Ne.symm ngTgR) (.int .i64 d2)).other (p := ⟨gR, 3, none⟩) (Ne.symm ngTgR) (.int .i64 d3))
  replace bS := ((((bS.other (p := ⟨gR, 0, none⟩) ngRgS (.int .i64 d0)).other (p := ⟨gR, 1, none⟩) ngRgS (.int .i64 d1)).other (p := ⟨gR, 2, none⟩) ngRgS (.int .i64 d2)).other (p := ⟨gR, 3, none⟩) ngRgS (.int .i64 d3)); replace bR := bR.put4 (.int .i64 d0) (.int .i64 d1) (.int .i64 d2) (.int .i64 d3)
  go_simp
  clear cgR0 fgR0 cgR1 fgR1 cgR2 fgR2 cgR3 fgR3; generalize (((WD.setCell ⟨gR, 0, none⟩ (.int .i64 d0)).setCell ⟨gR, 1, none⟩ (.int .i64 d1)).setCell ⟨gR, 2, none⟩ (.int .i64 d2)).setCell ⟨gR, 3, none⟩ (.int .i64 d3) = WS at *
  (first | refine hK.out _ _ ?_ (fun hHeldN => ?_) | (go_wp2_with fail; refine hK.out _ _ ?_ (fun hHeldN => ?_)))
  ·try dsimp only
   with_reducible exact q18 bT
  replace hHeld := hHeldN; clear hK KK hHeldN
  try simp only [Act.put, sA, sB, sC]
  refine st (oi := ?_) 15 (by kernel_rfl) ?_ (fun KK hK => ?_); rotate_left; (conv => lhs; whnf; arg 1; whnf)
  have ⟨cgS0, fgS0, cgS1, fgS1, cgS2, fgS2, cgS3, fgS3⟩ := bS.all4; replace hacc := (((hacc.setCell (p := ⟨gS, 0, none⟩) kgS (.int .i64 d4)).setCell (p := ⟨gS, 1, none⟩) kgS (.int .i64 d5)).setCell (p := ⟨gS, 2, none⟩) kgS (.int .i64 d6)).setCell (p := ⟨gS, 3, none⟩) kgS (.int .i64 d7); replace bT := ((((bT.other (p := ⟨gS, 0, none⟩) (Ne.symm ngTgS) (.int .i64 d4)).other (p := ⟨gS, 1, none⟩) (Ne.symm ngTgS) (.int .i64 d5)).other (p := ⟨gS, 2, none⟩) (Ne.symm ngTgS) (.int .i64 d6)).other (p := ⟨gS, 3, none⟩) (Ne.symm ngTgS) (.int .i64 d7))
  replace bR := ((((bR.other (p := ⟨gS, 0, none⟩) (Ne.symm ngRgS) (.int .i64 d4)).other (p := ⟨gS, 1, none⟩) (Ne.symm ngRgS) (.int .i64 d5)).other (p := ⟨gS, 2, none⟩) (Ne.symm ngRgS) (.int .i64 d6)).other (p := ⟨gS, 3, none⟩) (Ne.symm ngRgS) (.int .i64 d7)); replace bS := bS.put4 (.int .i64 d4) (.int .i64 d5) (.int .i64 d6) (.int .i64 d7)
  go_simp
  clear cgS0 fgS0 cgS1 fgS1 cgS2 fgS2 cgS3 fgS3; generalize (((WS.setCell ⟨gS, 0, none⟩ (.int .i64 d4)).setCell ⟨gS, 1, none⟩ (.int .i64 d5)).setCell ⟨gS, 2, none⟩ (.int .i64 d6)).setCell ⟨gS, 3, none⟩ (.int .i64 d7) = WS at *
  (first | refine hK.out _ _ ?_ (fun hHeldN => ?_) | (go_wp2_with fail; refine hK.out _ _ ?_ (fun hHeldN => ?_)))
  ·try dsimp only
   with_reducible exact q18 bT
  replace hHeld := hHeldN; clear hK KK hHeldN
  try simp only [Act.put, sA, sB, sC]
  refine wpAnyH_done (by kernel_rfl) ?_ _
  refine NoPanic.normal ?_
  have ⟨cgR0, fgR0, cgR1, fgR1, cgR2, fgR2, cgR3, fgR3⟩ := bR.all4; have ⟨cgS0, fgS0, cgS1, fgS1, cgS2, fgS2, cgS3, fgS3⟩ := bS.all4
  go_wp2_with fail
  refine bodyPost_ret (v := .tuple #[.agg #[.int .i64 d0, .int .i64 d1, .int .i64 d2, .int .i64 d3], .agg #[.int .i64 d4, .int .i64 d5, .int .i64 d6, .int .i64 d7]]) (by simp [results, Tryz.results11, go_sem, cgR0, cgR1, cgR2, cgR3, cgS0, cgS1, cgS2, cgS3]) rfl ⟨⟨_, _, _, _, _, _, _, _, rfl⟩, hacc⟩
end Go.Proofs.YtmacnhjbjembiaaGreatDoor
