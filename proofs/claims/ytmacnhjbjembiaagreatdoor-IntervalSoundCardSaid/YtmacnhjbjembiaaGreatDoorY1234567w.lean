/- Parts of the proofs about this seat's statements. -/
import Derived.Test.YtmacnhjbjembiaaGreatDoorY1234567u
import Derived.Test.YtmacnhjbjembiaaGreatDoorY1234567v
namespace Go.Proofs.YtmacnhjbjembiaaGreatDoor
open Go.RowKit W
open Pl (uv vn vs fitO makeO roundO p10 cmpI oN oS oB dtext)
open Pl (nb bv bv_nb nb_size_zero)
open Iv
theorem Sz_rK {K : Nat} (hK : 0 < K) (hK2 : K ≤ 1000000000000) {z : Int} (hz : z.natAbs ≤ 10000000000000000000000000000000000000000000) : Sz (rK K z) 24 := by
 obtain ⟨g, hg, e1, e2⟩ := rK_parts z hK
 have h1 : (rK K z).num.natAbs ≤ z.natAbs := by
  have e : z.natAbs = (rK K z).num.natAbs * g := by
   have := congrArg Int.natAbs e1; rw [Int.natAbs_mul, Int.natAbs_natCast] at this
   exact this
  rw [e]; exact Nat.le_mul_of_pos_right _ hg
 have h2 : (rK K z).den ≤ K := by
  have := Nat.le_mul_of_pos_right (rK K z).den hg
  omega
 refine ⟨Pl.nb_size_le.2 (Nat.lt_of_le_of_lt (Nat.le_trans h1 hz) (by decide)), Pl.nb_size_le.2 (Nat.lt_of_le_of_lt (Nat.le_trans h2 hK2) (by decide))⟩
theorem SzZ {K : Nat} (hK : 0 < K) (hK2 : K ≤ 1000000000000) (z : Zb) : Sz (rK K z.1) 33554432 := (Sz_rK hK hK2 z.2).mono (by decide)
theorem SzU {u : Int} (hu : InR u) : Sz (rU u) 33554432 := (Sz_rK (by decide) (by decide) (by have := inR_bd hu; omega)).mono (by decide)
theorem cands_add (x y : Int × Int) (hx : InP x) (hy : InP y) : Cands 61 1000000 x y (cnds (fun u v => u + v) (fun _ _ hu hv => bd_add hu hv) x y hx hy) :=
 cands_of _ x y hx hy (by decide) (SzZ (by decide) (by decide)) (fun l Ba Bb Bo T J Jx w0 hG hY W => cand1_add 8 (by decide) 1000000 (fun u v => u + v) (fun _ _ hu hv => bd_add hu hv) x y hx hy (fun u v W hu hv => by
  have := aadd_any (rU u) (rU v) W (SzU hu) (SzU hv); rw [rU_add] at this
  exact this) l Ba Bb Bo T J Jx w0 hG hY W)
theorem iext_add (x y : Int × Int) (w : World) (hG : GI w) (hx : InP x) (hy : InP y) :
  Calls Tryz.prog 68 #[gv x, gv y, .func (.func 61) #[] #[]] w fun e w' => e = .returned (.tuple #[rv (rK 1000000 (m4 (x.1 + y.1) (x.1 + y.2) (x.2 + y.1) (x.2 + y.2)).1), rv (rK 1000000 (m4 (x.1 + y.1) (x.1 + y.2) (x.2 + y.1) (x.2 + y.2)).2)]) ∧ Below w.heap.size w w' :=
 iext_any _ _ x y _ w hG (cands_add x y hx hy) _ (mm_cnds _ _ x y hx hy)
theorem cands_mul (x y : Int × Int) (hx : InP x) (hy : InP y) : Cands 69 1000000000000 x y (cnds (fun u v => u * v) (fun _ _ hu hv => bd_mul hu hv) x y hx hy) :=
 cands_of _ x y hx hy (by decide) (SzZ (by decide) (by decide)) (fun l Ba Bb Bo T J Jx w0 hG hY W => cand1_mul 8 (by decide) 1000000000000 (fun u v => u * v) (fun _ _ hu hv => bd_mul hu hv) x y hx hy (fun u v W hu hv => by
  have := amul_any (rU u) (rU v) W (SzU hu) (SzU hv); rw [rU_mul] at this
  exact this) l Ba Bb Bo T J Jx w0 hG hY W)
theorem iext_mul (x y : Int × Int) (w : World) (hG : GI w) (hx : InP x) (hy : InP y) :
  Calls Tryz.prog 68 #[gv x, gv y, .func (.func 69) #[] #[]] w fun e w' => e = .returned (.tuple #[rv (rK 1000000000000 (m4 (x.1 * y.1) (x.1 * y.2) (x.2 * y.1) (x.2 * y.2)).1), rv (rK 1000000000000 (m4 (x.1 * y.1) (x.1 * y.2) (x.2 * y.1) (x.2 * y.2)).2)]) ∧ Below w.heap.size w w' :=
 iext_any _ _ x y _ w hG (cands_mul x y hx hy) _ (mm_cnds _ _ x y hx hy)
set_option maxRecDepth 100000 in
set_option maxHeartbeats 8000000 in
theorem isingle_any (x : Int × Int) (w : World) (hx : InP x) :
  Calls Tryz.prog 70 #[gv x] w fun e w' => e = .returned (.bool (siB x)) ∧ Below w.heap.size w w' := by
 obtain ⟨n0, hn0⟩ : ∃ n, n = Dn x.1 := ⟨_, rfl⟩; obtain ⟨s0, hs0⟩ : ∃ n, n = Ds x.1 := ⟨_, rfl⟩; obtain ⟨n1, hn1⟩ : ∃ n, n = Dn x.2 := ⟨_, rfl⟩; obtain ⟨s1, hs1⟩ : ∃ n, n = Ds x.2 := ⟨_, rfl⟩
 by_cases h : x.1 = x.2
 ·have HE : Hid (siB x = true) := Lib.hid (decide_eq_true h)
  have e1 : n1 = n0 := by rw [hn1, hn0, h]
  have e2 : s1 = s0 := by rw [hs1, hs0, h]
  unfold gv rg; rw [← hn0, ← hs0, ← hn1, ← hs1]; subst e1 e2; clear hn0 hs0 hn1 hs1 h
  go_enter Tryz.func70, Tryz.ntmps70
  have ⟨bA, hacc⟩ := opn1 w [.int .i64 n1, .int .i64 s1, .int .i64 n1, .int .i64 s1] 30
  go_upto_region 1 with fail
  generalize w.alloc (.cells #[.int .i64 n1, .int .i64 s1, .int .i64 n1, .int .i64 s1] 30) = W0 at *; obtain ⟨gA, hgA⟩ : ∃ g, g = w.heap.size := ⟨_, rfl⟩; rw [← hgA] at bA
  simp only [← hgA]
  have kgA : w.heap.size ≤ gA := by omega
  clear hgA; have ⟨cgA0, fgA0, cgA1, fgA1, cgA2, fgA2, cgA3, fgA3⟩ := bA.all4
  go_wp2_with fail
  go_ret
  exact ⟨by rw [HE.out]; first | done | rfl, hacc⟩
 ·have HE : Hid (siB x = false) := Lib.hid (decide_eq_false h)
  have hd : ¬ (n0 = n1 ∧ s0 = s1) := fun hh => h (D_inj hx.1 hx.2 (by rw [← hn0, ← hn1]; exact hh.1) (by rw [← hs0, ← hs1]; exact hh.2))
  unfold gv rg; rw [← hn0, ← hs0, ← hn1, ← hs1]; clear hn0 hs0 hn1 hs1 h
  by_cases h1 : n0 = n1
  ·have h2 : ¬ s0 = s1 := fun h => hd ⟨h1, h⟩
   have h2b : (s0 == s1) = false := by simpa using h2
   subst h1; clear hd
   go_enter Tryz.func70, Tryz.ntmps70
   have ⟨bA, hacc⟩ := opn1 w [.int .i64 n0, .int .i64 s0, .int .i64 n0, .int .i64 s1] 30
   go_upto_region 1 with fail
   generalize w.alloc (.cells #[.int .i64 n0, .int .i64 s0, .int .i64 n0, .int .i64 s1] 30) = W0 at *; obtain ⟨gA, hgA⟩ : ∃ g, g = w.heap.size := ⟨_, rfl⟩; rw [← hgA] at bA
   simp only [← hgA]
   have kgA : w.heap.size ≤ gA := by omega
   clear hgA; have ⟨cgA0, fgA0, cgA1, fgA1, cgA2, fgA2, cgA3, fgA3⟩ := bA.all4
   go_wp2_with fail
   go_ret
   exact ⟨by rw [HE.out]; first | done | rfl, hacc⟩
  ·have h1b : (n0 == n1) = false := by simpa using h1
   clear hd
   go_enter Tryz.func70, Tryz.ntmps70
   have ⟨bA, hacc⟩ := opn1 w [.int .i64 n0, .int .i64 s0, .int .i64 n1, .int .i64 s1] 30
   go_upto_region 1 with fail
   generalize w.alloc (.cells #[.int .i64 n0, .int .i64 s0, .int .i64 n1, .int .i64 s1] 30) = W0 at *; obtain ⟨gA, hgA⟩ : ∃ g, g = w.heap.size := ⟨_, rfl⟩; rw [← hgA] at bA
   simp only [← hgA]
   have kgA : w.heap.size ≤ gA := by omega
   clear hgA; have ⟨cgA0, fgA0, cgA1, fgA1, cgA2, fgA2, cgA3, fgA3⟩ := bA.all4
   go_wp2_with fail
   go_ret
   exact ⟨by rw [HE.out]; first | done | rfl, hacc⟩
end Go.Proofs.YtmacnhjbjembiaaGreatDoor
