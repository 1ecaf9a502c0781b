/- Parts of the proofs about this seat's statements. -/
import Derived.Test.YtmacnhjbjembiaaGreatDoorY1234567g
namespace Go.Proofs.YtmacnhjbjembiaaGreatDoor
open Go.RowKit Pl
theorem slice_one (s : ByteArray) (k : Nat) (h : k < s.size) (ds : List UInt8) : (⟨ds.toArray⟩ : ByteArray) ++ s.extract k (k + 1) = ⟨(ds ++ [s[k]]).toArray⟩ := by
 apply ext_of_data
 simp [ByteArray.data_extract]
 have : (s.data.toList.drop k).take 1 = [s[k]] := by rw [drop_cons s k h]; rfl
 simpa using this
theorem dval_bd {ds : List UInt8} (h : alld ds = true) (hl : ds.length ≤ 100) : (nb (dval ds)).size ≤ 50 :=
 nb_size_le.2 (Nat.lt_of_lt_of_le (dval_lt h) (Nat.le_trans (Nat.pow_le_pow_right (by omega) hl) (by decide)))
theorem mul10_sz {M : Nat} (h : (nb M).size ≤ 50) : (nb (M * 10)).size ≤ 60 := by
 have h1 := nb_size_le.1 h
 have h2 : 256 ^ 50 * 10 ≤ 256 ^ 60 := by decide
 exact nb_size_le.2 (by omega)
theorem z_alld_get {D : ByteArray} (h : alld D.data.toList = true) {j : Nat} (hj : j < D.size) : 48 ≤ D[j].toNat ∧ D[j].toNat ≤ 57 := by
 have hm : D[j] ∈ D.data.toList := List.mem_of_mem_drop (by rw [drop_cons D j hj]; simp)
 have := List.all_eq_true.1 h _ hm
 simpa [isD] using this
theorem z_alld_take {l : List UInt8} (h : alld l = true) (k : Nat) : alld (l.take k) = true := by
 unfold alld at *; rw [List.all_eq_true] at *
 exact fun x hx => h x (List.mem_of_mem_take hx)
set_option maxRecDepth 100000 in
set_option maxHeartbeats 8000000 in
theorem z_rparse_any (s : ByteArray) (w : World) (hs : s.size ≤ 100) :
  Calls Tryz.prog 89 #[.string s] w fun e w' => e = .returned (.tuple #[.agg #[.int .i64 (oN (parseO s.data.toList)), .int .i64 (oS (parseO s.data.toList))], .bool (oB (parseO s.data.toList))]) ∧ Below w.heap.size w w' := by
 have HE := Lib.hid (rparse_eq s.data.toList)
 go_enter Tryz.func89, Tryz.ntmps89
 go_wp2_with fail
 have bR := (Box2.new w _ rfl (.int .i64 0) (.int .i64 0) 24).alloc (.cells #[.bool false, .string ⟨#[]⟩, .int .i64 0] 83)
 have bB := Box3.new (w.alloc (.cells #[.int .i64 0, .int .i64 0] 24)) (w.heap.size + 1) (by simp) (.bool false) (.string ⟨#[]⟩) (.int .i64 0) 83
 have hB := ((Below.refl w.heap.size w).alloc (Nat.le_refl _) (.cells #[.int .i64 0, .int .i64 0] 24)).alloc (by simp) (.cells #[.bool false, .string ⟨#[]⟩, .int .i64 0] 83)
 generalize (w.alloc (.cells #[.int .i64 0, .int .i64 0] 24)).alloc (.cells #[.bool false, .string ⟨#[]⟩, .int .i64 0] 83) = W0 at *
 go_loopg [5, 6, 7] s.size (fun g d sn i wr => ∃ (k : Nat) (neg : Bool) (ds : List UInt8) (seen : Bool) (sc : Nat), k ≤ s.size ∧ g = s.size - k ∧ pfold (s.data.toList.take k) = some (k, neg, ds, seen, sc) ∧ d = .string ⟨ds.toArray⟩ ∧ sn = .bool seen ∧ i = .int .i64 k ∧ sc ≤ k ∧ ds.length ≤ k ∧ alld ds = true ∧ Box3 wr (w.heap.size + 1) (.bool neg) (.string ⟨#[]⟩) (.int .i64 sc) ∧ Box2 wr w.heap.size (.int .i64 0) (.int .i64 0) ∧ Below w.heap.size w wr)
 case atStart => exact ⟨0, false, [], false, 0, by omega, rfl, rfl, rfl, rfl, rfl, by omega, by simp, rfl, bB, bR, hB⟩
 case round =>
  clear bB bR hB; obtain ⟨k, neg, ds, seen, sc, hk, rfl, hf, rfl, rfl, rfl, hsc, hdl, hal, bB, bR, hB⟩ := hrel; have HF := Lib.hid hf; have HA := Lib.hid hal; clear hf hal; obtain ⟨c0, c1, c2, c3, c4, c5⟩ := bB; have bB : Box3 wr (w.heap.size + 1) (.bool neg) (.string ⟨#[]⟩) (.int .i64 sc) := ⟨c0, c1, c2, c3, c4, c5⟩; obtain ⟨r0, r1, r2, r3⟩ := bR; have bR : Box2 wr w.heap.size (.int .i64 0) (.int .i64 0) := ⟨r0, r1, r2, r3⟩
  by_cases hlt : k < s.size
  ·have hk0 : (0 : Int) ≤ (k : Int) := by omega
   have hk1 : (k : Int) < (s.size : Int) := by omega
   have hst := pfold_snoc (s.data.toList.take k) s[k]; rw [← take_snoc s k hlt, HF.out] at hst; have HS := Lib.hid hst; clear hst; have hcb : s[k].toNat < 256 := s[k].toNat_lt; have HC := Lib.hid (slice_one s k hlt ds); have hcc : s[k].toNat < 256 := hcb
   by_cases hA : k = 0 ∧ s[k].toNat = 45
   ·have e1 : ((k : Int) == 0) = true := by simp [hA.1]
    have e2 : ((s[k].toNat : Int) == 45) = true := by simp [hA.2]
    have HX := Lib.hid (HS.out.trans (by simp only [pstep]; rw [if_pos hA]))
    clear hA
    go_wp2_with fail
    go_roundg (s.size - (k + 1))
    case measure => omega
    case rel => exact ⟨k + 1, true, ds, seen, sc, by omega, rfl, HX.out, rfl, rfl, by go_num, by omega, by omega, HA.out, bB.set0 (.bool true), bR.other (by simp) _, hB.setCell (by simp) _⟩
   ·have HA2 := Lib.hid hA
    clear hA
    by_cases hk' : k = 0
    ·have e1 : ((k : Int) == 0) = true := by simp [hk']
     have e2 : ((s[k].toNat : Int) == 45) = false := by have := HA2.out; simp; omega
     clear hk'
     by_cases h46 : s[k].toNat = 46 ∧ seen = false
     ·have e3 : ((s[k].toNat : Int) == 46) = true := by simp [h46.1]
      have HX := Lib.hid (HS.out.trans (by simp only [pstep]; rw [if_neg HA2.out, if_pos h46]))
      obtain ⟨h46a, rfl⟩ := h46; clear h46a
      go_wp2_with fail
      go_roundg (s.size - (k + 1))
      case measure => omega
      case rel => exact ⟨k + 1, neg, ds, true, sc, by omega, rfl, HX.out, rfl, rfl, by go_num, by omega, by omega, HA.out, bB, bR, hB⟩
     ·have HA3 := Lib.hid h46
      have e3 : ((s[k].toNat : Int) == 46) = false ∨ (((s[k].toNat : Int) == 46) = true ∧ seen = true) := by
       by_cases h : s[k].toNat = 46
       ·right; refine ⟨by simp [h], ?_⟩; cases seen; · exact absurd ⟨h, rfl⟩ h46
        ·rfl
       ·left; simp; omega
      clear h46
      by_cases hD : isD s[k] = true
      ·have hd := hD
       simp only [isD, decide_eq_true_eq] at hd
       obtain ⟨d1, d2⟩ := hd
       have d1' : (48 : Int) ≤ (s[k].toNat : Int) := by omega
       have d2' : (s[k].toNat : Int) ≤ 57 := by omega
       have HX := Lib.hid (HS.out.trans (by simp only [pstep]; rw [if_neg HA2.out, if_neg HA3.out, if_pos hD]))
       have HY := Lib.hid (show alld (ds ++ [s[k]]) = true by rw [alld_snoc, HA.out, hD]; rfl)
       clear hD d1 d2
       rcases e3 with e3 | ⟨e3, rfl⟩
       ·cases seen
        ·go_wp2_with fail
         go_roundg (s.size - (k + 1))
         case measure => omega
         case rel => exact ⟨k + 1, neg, ds ++ [s[k]], false, sc, by omega, rfl, HX.out, by first | exact congrArg Value.string HC.out | rfl, rfl, by go_num, by omega, by simp; omega, HY.out, bB, bR, hB⟩
        ·go_wp2_with fail
         go_roundg (s.size - (k + 1))
         case measure => omega
         case rel => exact ⟨k + 1, neg, ds ++ [s[k]], true, sc + 1, by omega, rfl, HX.out, by first | exact congrArg Value.string HC.out | rfl, rfl, by go_num, by omega, by simp; omega, HY.out, by have := bB.set2 (.int .i64 ((sc : Int) + 1)); rw [show ((sc + 1 : Nat) : Int) = (sc : Int) + 1 by omega]; exact this, bR.other (by simp) _, hB.setCell (by simp) _⟩
       ·exfalso; simp at e3; omega
      ·have HN := Lib.hid (rparse_none (pfold_take_none (k := k + 1) (HS.out.trans (by simp only [pstep]; rw [if_neg HA2.out, if_neg HA3.out, if_neg hD]))))
       have hd : ¬ (48 ≤ s[k].toNat ∧ s[k].toNat ≤ 57) := fun h => hD (by simp [isD, h])
       clear hD
       rcases e3 with e3 | ⟨e3, rfl⟩
       ·by_cases h48 : 48 ≤ s[k].toNat
        ·have d1' : (48 : Int) ≤ (s[k].toNat : Int) := by omega
         have d2' : decide ((s[k].toNat : Int) ≤ 57) = false := by simp; omega
         clear hd h48
         go_wp2_with fail
         refine bodyPost_ret (v := .tuple #[.agg #[.int .i64 0, .int .i64 0], .bool false]) (by simp [results, Tryz.results89, go_sem, r0, r1]) rfl ⟨?_, (hB.setCell (by simp) _).setCell (by simp) _⟩
         rw [← HE.out, HN.out]; rfl
        ·have d1' : decide ((48 : Int) ≤ (s[k].toNat : Int)) = false := by simp; omega
         clear hd h48
         go_wp2_with fail
         refine bodyPost_ret (v := .tuple #[.agg #[.int .i64 0, .int .i64 0], .bool false]) (by simp [results, Tryz.results89, go_sem, r0, r1]) rfl ⟨?_, (hB.setCell (by simp) _).setCell (by simp) _⟩
         rw [← HE.out, HN.out]; rfl
       ·by_cases h48 : 48 ≤ s[k].toNat
        ·have d1' : (48 : Int) ≤ (s[k].toNat : Int) := by omega
         have d2' : decide ((s[k].toNat : Int) ≤ 57) = false := by simp; omega
         clear hd h48
         go_wp2_with fail
         refine bodyPost_ret (v := .tuple #[.agg #[.int .i64 0, .int .i64 0], .bool false]) (by simp [results, Tryz.results89, go_sem, r0, r1]) rfl ⟨?_, (hB.setCell (by simp) _).setCell (by simp) _⟩
         rw [← HE.out, HN.out]; rfl
        ·have d1' : decide ((48 : Int) ≤ (s[k].toNat : Int)) = false := by simp; omega
         clear hd h48
         go_wp2_with fail
         refine bodyPost_ret (v := .tuple #[.agg #[.int .i64 0, .int .i64 0], .bool false]) (by simp [results, Tryz.results89, go_sem, r0, r1]) rfl ⟨?_, (hB.setCell (by simp) _).setCell (by simp) _⟩
         rw [← HE.out, HN.out]; rfl
    ·have e1 : ((k : Int) == 0) = false := by simp; omega
     clear hk'
     by_cases h46 : s[k].toNat = 46 ∧ seen = false
     ·have e3 : ((s[k].toNat : Int) == 46) = true := by simp [h46.1]
      have HX := Lib.hid (HS.out.trans (by simp only [pstep]; rw [if_neg HA2.out, if_pos h46]))
      obtain ⟨h46a, rfl⟩ := h46; clear h46a
      go_wp2_with fail
      go_roundg (s.size - (k + 1))
      case measure => omega
      case rel => exact ⟨k + 1, neg, ds, true, sc, by omega, rfl, HX.out, rfl, rfl, by go_num, by omega, by omega, HA.out, bB, bR, hB⟩
     ·have HA3 := Lib.hid h46
      have e3 : ((s[k].toNat : Int) == 46) = false ∨ (((s[k].toNat : Int) == 46) = true ∧ seen = true) := by
       by_cases h : s[k].toNat = 46
       ·right; refine ⟨by simp [h], ?_⟩; cases seen; · exact absurd ⟨h, rfl⟩ h46
        ·rfl
       ·left; simp; omega
      clear h46
      by_cases hD : isD s[k] = true
      ·have hd := hD
       simp only [isD, decide_eq_true_eq] at hd
       obtain ⟨d1, d2⟩ := hd
       have d1' : (48 : Int) ≤ (s[k].toNat : Int) := by omega
       have d2' : (s[k].toNat : Int) ≤ 57 := by omega
       have HX := Lib.hid (HS.out.trans (by simp only [pstep]; rw [if_neg HA2.out, if_neg HA3.out, if_pos hD]))
       have HY := Lib.hid (show alld (ds ++ [s[k]]) = true by rw [alld_snoc, HA.out, hD]; rfl)
       clear hD d1 d2
       rcases e3 with e3 | ⟨e3, rfl⟩
       ·cases seen
        ·go_wp2_with fail
         go_roundg (s.size - (k + 1))
         case measure => omega
         case rel => exact ⟨k + 1, neg, ds ++ [s[k]], false, sc, by omega, rfl, HX.out, by first | exact congrArg Value.string HC.out | rfl, rfl, by go_num, by omega, by simp; omega, HY.out, bB, bR, hB⟩
        ·go_wp2_with fail
         go_roundg (s.size - (k + 1))
         case measure => omega
         case rel => exact ⟨k + 1, neg, ds ++ [s[k]], true, sc + 1, by omega, rfl, HX.out, by first | exact congrArg Value.string HC.out | rfl, rfl, by go_num, by omega, by simp; omega, HY.out, by have := bB.set2 (.int .i64 ((sc : Int) + 1)); rw [show ((sc + 1 : Nat) : Int) = (sc : Int) + 1 by omega]; exact this, bR.other (by simp) _, hB.setCell (by simp) _⟩
       ·exfalso; simp at e3; omega
      ·have HN := Lib.hid (rparse_none (pfold_take_none (k := k + 1) (HS.out.trans (by simp only [pstep]; rw [if_neg HA2.out, if_neg HA3.out, if_neg hD]))))
       have hd : ¬ (48 ≤ s[k].toNat ∧ s[k].toNat ≤ 57) := fun h => hD (by simp [isD, h])
       clear hD
       rcases e3 with e3 | ⟨e3, rfl⟩
       ·by_cases h48 : 48 ≤ s[k].toNat
        ·have d1' : (48 : Int) ≤ (s[k].toNat : Int) := by omega
         have d2' : decide ((s[k].toNat : Int) ≤ 57) = false := by simp; omega
         clear hd h48
         go_wp2_with fail
         refine bodyPost_ret (v := .tuple #[.agg #[.int .i64 0, .int .i64 0], .bool false]) (by simp [results, Tryz.results89, go_sem, r0, r1]) rfl ⟨?_, (hB.setCell (by simp) _).setCell (by simp) _⟩
         rw [← HE.out, HN.out]; rfl
        ·have d1' : decide ((48 : Int) ≤ (s[k].toNat : Int)) = false := by simp; omega
         clear hd h48
         go_wp2_with fail
         refine bodyPost_ret (v := .tuple #[.agg #[.int .i64 0, .int .i64 0], .bool false]) (by simp [results, Tryz.results89, go_sem, r0, r1]) rfl ⟨?_, (hB.setCell (by simp) _).setCell (by simp) _⟩
         rw [← HE.out, HN.out]; rfl
       ·by_cases h48 : 48 ≤ s[k].toNat
        ·have d1' : (48 : Int) ≤ (s[k].toNat : Int) := by omega
         have d2' : decide ((s[k].toNat : Int) ≤ 57) = false := by simp; omega
         clear hd h48
         go_wp2_with fail
         refine bodyPost_ret (v := .tuple #[.agg #[.int .i64 0, .int .i64 0], .bool false]) (by simp [results, Tryz.results89, go_sem, r0, r1]) rfl ⟨?_, (hB.setCell (by simp) _).setCell (by simp) _⟩
         rw [← HE.out, HN.out]; rfl
        ·have d1' : decide ((48 : Int) ≤ (s[k].toNat : Int)) = false := by simp; omega
         clear hd h48
         go_wp2_with fail
         refine bodyPost_ret (v := .tuple #[.agg #[.int .i64 0, .int .i64 0], .bool false]) (by simp [results, Tryz.results89, go_sem, r0, r1]) rfl ⟨?_, (hB.setCell (by simp) _).setCell (by simp) _⟩
         rw [← HE.out, HN.out]; rfl
  ·have hge : ¬ (k : Int) < (s.size : Int) := by omega
   have hfull : s.data.toList.take k = s.data.toList := List.take_of_length_le (by simp; omega)
   have hfs := HF.out; rw [hfull] at hfs; have HR := Lib.hid (rparse_some hfs); clear hfs hfull HF hlt; obtain ⟨D, hD⟩ : ∃ D : ByteArray, D = ⟨ds.toArray⟩ := ⟨_, rfl⟩
   have hds : ds = D.data.toList := by rw [hD]
   have hDD : (⟨ds.toArray⟩ : ByteArray) = D := hD.symm
   simp only [hDD]
   clear hD hDD; subst hds
   have hDs : D.size ≤ 100 := by simp at hdl; omega
   clear hdl
   have hz0 : nb (dval (D.data.toList.take 0)) = ⟨#[]⟩ := by simp [dval, nb, enc_zero]
   have bB1 : Box3 wr (w.heap.size + 1) (.bool neg) (.string (nb (dval (D.data.toList.take 0)))) (.int .i64 sc) := by rw [hz0]; exact bB
   clear c0 c1 c2 c3 c4 c5 r0 r1 r2 r3 hz0
   go_wp2_with fail
   go_loopg [8] D.size (fun g i wq => ∃ j : Nat, j ≤ D.size ∧ g = D.size - j ∧ i = .int .i64 j ∧ Box3 wq (w.heap.size + 1) (.bool neg) (.string (nb (dval (D.data.toList.take j)))) (.int .i64 sc) ∧ Box2 wq w.heap.size (.int .i64 0) (.int .i64 0) ∧ Below w.heap.size w wq)
   case atStart => exact ⟨0, by omega, rfl, rfl, bB1, bR, hB⟩
   case round =>
    clear bB bB1 bR hB; obtain ⟨j, hj, rfl, rfl, bB, bR, hB⟩ := hrel
    have hMs := dval_bd (ds := D.data.toList.take j) (z_alld_take HA.out j) (by simp; omega)
    by_cases hlj : j < D.size
    ·have hj0 : (0 : Int) ≤ (j : Int) := by omega
     have hj1 : (j : Int) < (D.size : Int) := by omega
     have hdg := z_alld_get HA.out hlj; obtain ⟨d1, d2⟩ := hdg
     have HN := Lib.hid (show dval (D.data.toList.take (j + 1)) = dval (D.data.toList.take j) * 10 + (D[j].toNat - 48) by rw [take_snoc D j hlj, dval_snoc])
     have HNN := Lib.hid (show ((D[j].toNat : Int) - 48).toNat = D[j].toNat - 48 by omega)
     have k0 : (48 : Int) ≤ (D[j].toNat : Int) := by omega
     have k1 : (D[j].toNat : Int) ≤ 57 := by omega
     have kw1 : IntKind.u8.wrap ((D[j].toNat : Int) - 48) = (D[j].toNat : Int) - 48 := by rw [u8_wrap, u8_toNat]; omega
     have kw2 : IntKind.i64.wrap ((D[j].toNat : Int) - 48) = (D[j].toNat : Int) - 48 := IntWalk.i64_in _ (by omega)
     generalize dval (D.data.toList.take j) = M at *; have hM1 : (nb (M * 10)).size ≤ 60 := mul10_sz hMs
     have hs2 : (nb 10).size ≤ 8 := nb_size_le.2 (by decide)
     have hs3 : (nb ((D[j].toNat : Int) - 48).toNat).size ≤ 8 := nb_size_le.2 (by omega)
     obtain ⟨c0, c1, c2, c3, c4, c5⟩ := bB; have bB : Box3 wr (w.heap.size + 1) (.bool neg) (.string (nb M)) (.int .i64 sc) := ⟨c0, c1, c2, c3, c4, c5⟩; clear c0 c2 c3 c5; have hB := hB.drew; have bB := bB.drew; have bR := bR.drew
     go_wp2_with fail
     go_region_with (first | (go_at_call 76; refine (ofn_any _ _ (by omega) (by omega)).mono ?_; rintro e wX ⟨rfl, hbX⟩; have hB := hB.trans (hbX.mono hB.size); have bB := bB.below hbX; have bR := bR.below hbX; have c1 := bB.c1; have c4 := bB.f1; clear hbX) | (go_at_call 66; refine (mul_any _ _ _ (by omega) (by omega)).mono ?_; rw [bv_nb, bv_nb]; rintro e wX ⟨rfl, hbX⟩; have hB := hB.trans (hbX.mono hB.size); have bB := bB.below hbX; have bR := bR.below hbX; have c1 := bB.c1; have c4 := bB.f1; clear hbX) | (go_at_call 75; refine (add_any _ _ _ (by omega) (by omega)).mono ?_; rw [bv_nb, bv_nb]; rintro e wX ⟨rfl, hbX⟩; have hB := hB.trans (hbX.mono hB.size); have bB := bB.below hbX; have bR := bR.below hbX; have c1 := bB.c1; have c4 := bB.f1; clear hbX))
     all_goals
      clear kw1 kw2
      go_wp2_with fail
      go_roundg (D.size - (j + 1))
      case measure => omega
      case rel => exact ⟨j + 1, by omega, rfl, by go_num, by rw [HN.out, ← HNN.out]; exact bB.set1 _, bR.other (by simp) _, hB.setCell (by simp) _⟩
    ·have hj1 : ¬ (j : Int) < (D.size : Int) := by omega
     have hfl : D.data.toList.take j = D.data.toList := List.take_of_length_le (by simp; omega)
     rw [hfl] at bB hMs; clear hfl hlj; have hrt := @fitO_right (sg neg * (dval D.data.toList : Int)) sc; generalize dval D.data.toList = M at *; obtain ⟨c0, c1, c2, c3, c4, c5⟩ := bB
     cases ho : fitO (sg neg * (M : Int)) sc with
     | none =>
      have HO := Lib.hid ho
      have HQ := Lib.hid (show rparseO s.data.toList = none by rw [HR.out, ho]; rfl)
      clear ho hrt; have o1 : oN none = 0 := rfl; have o2 : oS none = 0 := rfl; have o3 : oB none = false := rfl
      go_wp2_with fail
      refine (rfit_any neg M sc _ (by omega) (by omega)).mono ?_
      rw [HO.out]; rintro e w3 ⟨rfl, hb3⟩; have hB := hB.trans (hb3.mono hB.size); have bR := bR.below hb3; clear hb3 c0 c1 c2 c3 c4 c5; have lR := bR.lt
      have hne : ¬ w.heap.size = w3.heap.size := by omega
      obtain ⟨k0, k1, _, _⟩ := (bR.put (.int .i64 0) (.int .i64 0)).alloc (.cells #[.int .i64 0, .int .i64 0] 24)
      have hB2 := ((hB.setCell (p := ⟨w.heap.size, 0, none⟩) (by simp) (.int .i64 0)).setCell (p := ⟨w.heap.size, 1, none⟩) (by simp) (.int .i64 0)).alloc (by simpa using hB.size) (.cells #[.int .i64 0, .int .i64 0] 24)
      obtain ⟨t0, t1, t2, t3⟩ := bR
      go_wp2_with fail
      refine bodyPost_ret (v := .tuple #[.agg #[.int .i64 0, .int .i64 0], .bool false]) (by simp [results, Tryz.results89, go_sem, k0, k1]) rfl ⟨?_, hB2⟩
      rw [← HE.out, HQ.out]; rfl
     | some p =>
      have hr := hrt ho; have HO := Lib.hid ho
      have HQ := Lib.hid (show rparseO s.data.toList = chkO (some p) s.data.toList by rw [HR.out, ho])
      clear ho hrt; obtain ⟨p1, p2⟩ := p
      simp only at hr
      have HV := Lib.hid (v_right hr); clear hr; have HCK := Lib.hid (show chkO (some (p1, p2)) s.data.toList = if dtext p1 p2.toNat = s.data.toList then some (p1, p2) else none from rfl); have o1 : oN (some (p1, p2)) = p1 := rfl; have o2 : oS (some (p1, p2)) = p2 := rfl; have o3 : oB (some (p1, p2)) = true := rfl
      go_wp2_with fail
      refine (rfit_any neg M sc _ (by omega) (by omega)).mono ?_
      rw [HO.out]; rintro e w3 ⟨rfl, hb3⟩; have hB := hB.trans (hb3.mono hB.size); have bR := bR.below hb3; clear hb3 c0 c1 c2 c3 c4 c5; have lR := bR.lt
      have hne : w.heap.size ≠ w3.heap.size := by omega
      have hB4 := hB.alloc hB.size (.cells #[.int .i64 p1, .int .i64 p2] 24); have bxa := Box2.new w3 _ rfl (.int .i64 p1) (.int .i64 p2) 24; have bxr := bR.alloc (.cells #[.int .i64 p1, .int .i64 p2] 24)
      go_wp2_with fail
      refine (rtext_any p1 p2 _).mono ?_
      rw [HV.out.1, HV.out.2]; rintro e w5 ⟨rfl, hb5⟩; have hB5 := hB4.trans (hb5.mono hB4.size); obtain ⟨y0, y1, y2, y3⟩ := bxa.below hb5; obtain ⟨r0, r1, r2, r3⟩ := bxr.below hb5; clear o1 o2 o3 hb5; generalize dtext p1 p2.toNat = T at *
      by_cases hTs : T = s.data.toList
      ·have HX := Lib.hid (show rparseO s.data.toList = some (p1, p2) by rw [HQ.out, HCK.out, if_pos hTs])
       have q1 : (T != s.toList) = false := by rw [ByteArray.toList_eq]; simp [hTs]
       have q2 : (T == s.toList) = true := by rw [ByteArray.toList_eq]; simp [hTs]
       clear hTs
       go_wp2_with fail
       refine bodyPost_ret (v := .tuple #[.agg #[.int .i64 p1, .int .i64 p2], .bool true]) (by simp [results, Tryz.results89, go_sem, r0, r1]) rfl ⟨?_, (hB5.setCell (by simp) _).setCell (by simp) _⟩
       rw [← HE.out, HX.out]; rfl
      ·have HX := Lib.hid (show rparseO s.data.toList = none by rw [HQ.out, HCK.out, if_neg hTs])
       have q1 : (T != s.toList) = true := by rw [ByteArray.toList_eq]; simp [hTs]
       have q2 : (T == s.toList) = false := by rw [ByteArray.toList_eq]; simp [hTs]
       clear hTs
       go_wp2_with fail
       refine bodyPost_ret (v := .tuple #[.agg #[.int .i64 0, .int .i64 0], .bool false]) (by simp [results, Tryz.results89, go_sem, r0, r1]) rfl ⟨?_, (hB5.setCell (by simp) _).setCell (by simp) _⟩
       rw [← HE.out, HX.out]; rfl
end Go.Proofs.YtmacnhjbjembiaaGreatDoor
