/- Walks of package nat: Add, Sub (printed by gen_nadd.py). -/
import Derived.Test.YtfbjboehniakcaaGreatDoorV3
namespace Go.Proofs.YtfbjboehniakcaaGreatDoor
open Go.RowKit W
open Pl (bval enc bv nb u8 u8_toNat tk nb_size_le bv_nb bv_lt nb_bv_size nb_size_zero cmpN cmpN_lt cmpN_gt cmpN_eq)
theorem val_str {n m : Nat} (h : n = m) : Value.string (nb n) = .string (nb m) := by rw [h]
theorem U32s.ne_own {w : World} {B : Nat} {v : Value} {l : List Int} (h : U32s w B v l) {g : Nat} (hg : g < B) : some g ≠ v.ownBlock := fun e => by have := h.own g e.symm; omega
theorem U32s.kept {w w' : World} {B : Nat} {v : Value} {l : List Int} {row : Option Nat} (h : U32s w B v l) (hg : w.grownBy w' row) (hne : v.ownBlock = none ∨ v.ownBlock ≠ row) : U32s w' B v l := World.ownsRow.kept h hg hne
theorem U32s.lt {w : World} {B : Nat} {v : Value} {l : List Int} (h : U32s w B v l) : ∀ k, v.ownBlock = some k → k < w.heap.size := fun k hk => (World.ownsRow.lt h k hk).2
set_option maxRecDepth 100000 in
set_option maxHeartbeats 4000000 in
theorem nadd_any (s t : ByteArray) (w : World) (hs : s.size ≤ 1073741823) (ht : t.size ≤ 1073741823) :
    Calls Tryz.prog 58 #[.string s, .string t] w fun e w' => e = .returned (.string (nb (bv s + bv t))) ∧ Below w.heap.size w w' := by
  have l1 := digs_len_bv s
  have l2 := digs_len_bv t
  go_enter Tryz.func58, Tryz.ntmps58
  go_wp2_with fail
  refine (limbs_any s _ (by omega)).mono ?_
  rintro e w1 ⟨⟨v1, rfl, hv1⟩, hb1⟩
  go_wp2_with fail
  refine (limbs_any t _ (by omega)).mono ?_
  rintro e w2 ⟨⟨v2, rfl, hv2⟩, hb2⟩
  have hb := hb1.trans (hb2.mono hb1.size)
  have hv1' := hv1.below hb2
  have hn1 := fun (k : Nat) (e1 : v1.ownBlock = some k) (e2 : v2.ownBlock = some k) => (show False from by have := hv1.lt k e1; have := hv2.own k e2; omega)
  have HN := Lib.hid hn1
  have hv2' := hv2.low hb1.size
  clear hv1 hn1 hv2
  obtain ⟨a, cap, rfl, hc, hm, hcell⟩ := hv1'.open
  obtain ⟨a', cap', rfl, hc', hm', hcell'⟩ := hv2'.open
  unfold maxLen at hm hm'
  have Hcell := Lib.hid hcell
  have Hcell' := Lib.hid hcell'
  clear hcell hcell'
  have hu := digs_dig (bv s)
  have hv := digs_dig (bv t)
  have e1 := dv_digs (bv s)
  have e2 := dv_digs (bv t)
  have E1 := Lib.hid e1
  have E2 := Lib.hid e2
  clear e1 e2
  generalize digs (bv s) = u at *
  generalize digs (bv t) = v at *
  rcases Nat.lt_or_ge u.length v.length with hl | hl
  · have hle : u.length ≤ v.length := by omega
    go_wp2_with fail
    clear hl
    go_loopw [7, 23] (fun c k wr => ∃ (out : List Int) (cc : Int) (kk : Nat), U32s wr w.heap.size (.slice a' v.length cap') (out ++ v.drop kk) ∧ SI v u kk out cc ∧ kk ≤ v.length ∧ c = .int .u64 cc ∧ k = .int .i64 kk ∧ w2.grownBy wr (Value.slice a' v.length cap').ownBlock) (fun _ k _ => v.length - (intOf k).toNat)
    case atStart => exact ⟨[], 0, 0, by simpa using hv2', SI.start v u, by omega, rfl, rfl, World.grownBy.refl _ _⟩
    case round =>
      obtain ⟨out, cc, kk, ho, hsi, hkl, rfl, rfl, hgr⟩ := hrel
      have hol := hsi.2.1
      have hc0 := hsi.2.2.1
      have hc1 := hsi.2.2.2.1
      by_cases hlt : kk < v.length
      · obtain ⟨g, hg1, hg2, rfl, hc3⟩ := Hcell'.out kk hlt
        clear hc3
        obtain ⟨c1, c2⟩ := ho.at kk (by simp; omega)
        rw [get_mid hol hlt] at c1
        have hz := hv.get kk hlt
        have hnx := Lib.hid (hsi.succ hv hu hlt)
        have hset := Lib.hid (fun z => (ho.set kk z).of_eq (set_mid hol hlt z))
        by_cases hlv : kk < u.length
        · obtain ⟨g', hg1', hg2', rfl, hc1'⟩ := Hcell.out kk hlv
          have hc2' : wr.cell? ⟨g', kk, none⟩ = some (.int .u32 u[kk]) := hgr.cell hc1' (fun e => HN.out g' rfl e.symm)
          have hy := hu.get kk hlv
          rw [gd_lt hlv] at hnx
          generalize u[kk] = y at hc2' hy hnx
          generalize v[kk] = z at c1 hz hnx
          clear hc1'
          go_wp2
          go_roundw
          case rel => exact ⟨_, _, kk + 1, hset.out _, hnx.out, by omega, rfl, by go_num, grownBy_trans hgr (grownBy_setCell _ g kk _)⟩
          case measure => simp [intOf]; omega
        · rw [gd_ge hlv, Int.add_zero] at hnx
          generalize v[kk] = z at c1 hz hnx
          go_wp2
          go_roundw
          case rel => exact ⟨_, _, kk + 1, hset.out _, hnx.out, by omega, rfl, by go_num, grownBy_trans hgr (grownBy_setCell _ g kk _)⟩
          case measure => simp [intOf]; omega
      · obtain rfl : kk = v.length := by omega
        obtain ⟨hd1, hd2⟩ := hsi.done hle
        have HD := Lib.hid hd2
        clear hd2
        have hbel := hb.grown hgr hb.size (fun k e => hv2'.own k e)
        have ho2 : U32s wr w.heap.size (.slice a' v.length cap') out := by simpa using ho
        go_wp2_with (at_builtin; refine app_u32 (by rfl) (by rfl) (by rfl) (by rfl) w.heap.size ho2 (by omega) hbel.size ?_; intro v3 w3 ho3 hg3)
        have hbel3 := hbel.grown hg3 hbel.size ho2.own
        refine (nnumber_any _ _ _ _ hd1 ho3 (by simp; omega)).mono ?_
        rintro e w4 ⟨rfl, hb4⟩
        go_wp2_with fail
        go_ret
        exact ⟨ret_str (by rw [HD.out, E1.out, E2.out, show ((bv t : Int) + (bv s : Int)).toNat = bv s + bv t from by omega]), hbel3.trans (hb4.mono hbel3.size)⟩
  · have hle : v.length ≤ u.length := by omega
    go_wp2_with fail
    clear hl
    go_loopw [7, 23] (fun c k wr => ∃ (out : List Int) (cc : Int) (kk : Nat), U32s wr w.heap.size (.slice a u.length cap) (out ++ u.drop kk) ∧ SI u v kk out cc ∧ kk ≤ u.length ∧ c = .int .u64 cc ∧ k = .int .i64 kk ∧ w2.grownBy wr (Value.slice a u.length cap).ownBlock) (fun _ k _ => u.length - (intOf k).toNat)
    case atStart => exact ⟨[], 0, 0, by simpa using hv1', SI.start u v, by omega, rfl, rfl, World.grownBy.refl _ _⟩
    case round =>
      obtain ⟨out, cc, kk, ho, hsi, hkl, rfl, rfl, hgr⟩ := hrel
      have hol := hsi.2.1
      have hc0 := hsi.2.2.1
      have hc1 := hsi.2.2.2.1
      by_cases hlt : kk < u.length
      · obtain ⟨g, hg1, hg2, rfl, hc3⟩ := Hcell.out kk hlt
        clear hc3
        obtain ⟨c1, c2⟩ := ho.at kk (by simp; omega)
        rw [get_mid hol hlt] at c1
        have hz := hu.get kk hlt
        have hnx := Lib.hid (hsi.succ hu hv hlt)
        have hset := Lib.hid (fun z => (ho.set kk z).of_eq (set_mid hol hlt z))
        by_cases hlv : kk < v.length
        · obtain ⟨g', hg1', hg2', rfl, hc1'⟩ := Hcell'.out kk hlv
          have hc2' : wr.cell? ⟨g', kk, none⟩ = some (.int .u32 v[kk]) := hgr.cell hc1' (fun e => HN.out g' e.symm rfl)
          have hy := hv.get kk hlv
          rw [gd_lt hlv] at hnx
          generalize v[kk] = y at hc2' hy hnx
          generalize u[kk] = z at c1 hz hnx
          clear hc1'
          go_wp2
          go_roundw
          case rel => exact ⟨_, _, kk + 1, hset.out _, hnx.out, by omega, rfl, by go_num, grownBy_trans hgr (grownBy_setCell _ g kk _)⟩
          case measure => simp [intOf]; omega
        · rw [gd_ge hlv, Int.add_zero] at hnx
          generalize u[kk] = z at c1 hz hnx
          go_wp2
          go_roundw
          case rel => exact ⟨_, _, kk + 1, hset.out _, hnx.out, by omega, rfl, by go_num, grownBy_trans hgr (grownBy_setCell _ g kk _)⟩
          case measure => simp [intOf]; omega
      · obtain rfl : kk = u.length := by omega
        obtain ⟨hd1, hd2⟩ := hsi.done hle
        have HD := Lib.hid hd2
        clear hd2
        have hbel := hb.grown hgr hb.size (fun k e => hv1'.own k e)
        have ho2 : U32s wr w.heap.size (.slice a u.length cap) out := by simpa using ho
        go_wp2_with (at_builtin; refine app_u32 (by rfl) (by rfl) (by rfl) (by rfl) w.heap.size ho2 (by omega) hbel.size ?_; intro v3 w3 ho3 hg3)
        have hbel3 := hbel.grown hg3 hbel.size ho2.own
        refine (nnumber_any _ _ _ _ hd1 ho3 (by simp; omega)).mono ?_
        rintro e w4 ⟨rfl, hb4⟩
        go_wp2_with fail
        go_ret
        exact ⟨ret_str (by rw [HD.out, E1.out, E2.out, show ((bv s : Int) + (bv t : Int)).toNat = bv s + bv t from by omega]), hbel3.trans (hb4.mono hbel3.size)⟩
set_option maxRecDepth 100000 in
set_option maxHeartbeats 2000000 in
theorem nsub_no (s t : ByteArray) (w : World) (hs : s.size ≤ 1073741823) (ht : t.size ≤ 1073741823) (h : bv s < bv t) :
    Calls Tryz.prog 67 #[.string s, .string t] w fun e w' => e = .returned (.tuple #[.string ⟨#[]⟩, .bool false]) ∧ w = w' := by
  have hc := cmpN_lt h
  go_enter Tryz.func67, Tryz.ntmps67
  go_wp2_with fail
  refine (ncmp_any s t _ (by omega) (by omega)).mono ?_
  rw [hc]
  rintro e w' ⟨rfl, rfl⟩
  go_wp2_with fail
  go_ret2
  exact ⟨rfl, rfl⟩
set_option maxRecDepth 100000 in
set_option maxHeartbeats 2000000 in
theorem nsub_yes (s t : ByteArray) (w : World) (hs : s.size ≤ 1073741823) (ht : t.size ≤ 1073741823) (h : bv t ≤ bv s) :
    Calls Tryz.prog 67 #[.string s, .string t] w fun e w' => e = .returned (.tuple #[.string (nb (bv s - bv t)), .bool true]) ∧ Below w.heap.size w w' := by
  have hc : 0 ≤ cmpN (bv s) (bv t) := by unfold cmpN; split <;> first | omega | (split <;> omega)
  have l1 := digs_len_bv s
  have l2 := digs_len_bv t
  go_enter Tryz.func67, Tryz.ntmps67
  go_wp2_with fail
  refine (ncmp_any s t _ (by omega) (by omega)).mono ?_
  generalize cmpN (bv s) (bv t) = c at hc
  rintro e w' ⟨rfl, rfl⟩
  go_wp2_with fail
  refine (limbs_any s _ (by omega)).mono ?_
  rintro e w1 ⟨⟨v1, rfl, hv1⟩, hb1⟩
  go_wp2_with fail
  refine (limbs_any t _ (by omega)).mono ?_
  rintro e w2 ⟨⟨v2, rfl, hv2⟩, hb2⟩
  have hb := hb1.trans (hb2.mono hb1.size)
  have hv1' := hv1.below hb2
  have hn1 : ∀ k, v1.ownBlock = some k → some k ≠ v2.ownBlock := fun k e1 e2 => by have := hv1.lt k e1; have := hv2.own k e2.symm; omega
  have hu := digs_dig (bv s)
  have hv := digs_dig (bv t)
  have e1 := dv_digs (bv s)
  have e2 := dv_digs (bv t)
  have hll := digs_len_mono h
  have hle : dv (digs (bv t)) ≤ dv (digs (bv s)) := by rw [e1, e2]; omega
  have HF := Lib.hid (show (dv (digs (bv s)) - dv (digs (bv t))).toNat = bv s - bv t by rw [e1, e2]; omega)
  clear e1 e2 hc h
  generalize digs (bv s) = u at *
  generalize digs (bv t) = v at *
  go_wp2_with fail
  refine (nsubtract_call u v v1 v2 w.heap.size _ hu hv hv1' (hv2.low (Nat.zero_le _)) hn1 hll hle).mono ?_
  rintro e w3 ⟨⟨vr, rfl⟩, ⟨out, hd, hol, hdo, ho⟩, hg⟩
  have hb3 := hb.grown hg hb.size hv1'.own
  clear hle
  go_wp2_with fail
  refine (nnumber_any _ _ _ _ hd ho (by omega)).mono ?_
  rintro e w4 ⟨rfl, hb4⟩
  go_wp2_with fail
  go_ret2
  exact ⟨ret2 (val_str HF.out) rfl, hb3.trans (hb4.mono hb3.size)⟩
end Go.Proofs.YtfbjboehniakcaaGreatDoor
