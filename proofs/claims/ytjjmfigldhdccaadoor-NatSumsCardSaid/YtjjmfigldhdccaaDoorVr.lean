/- Walks of package nat: Pow whole. -/
import Derived.Test.YtjjmfigldhdccaaDoorVo
namespace Go.Proofs.YtjjmfigldhdccaaDoor
open Go.RowKit W Go.Shelf
open Pl (bv nb bv_nb nb_bv_size bv_lt cmpN)
set_option maxRecDepth 100000 in
set_option maxHeartbeats 2000000 in
theorem npow_zero (s e m : ByteArray) (w : World) (he : e.size ≤ 33554432) (hm : m.size ≤ 33554432) (h0 : bv m = 0) :
    Calls Tryd.prog 24 #[.string s, .string e, .string m] w fun en w' => en = .returned (.tuple #[.string ⟨#[]⟩, .bool false]) ∧ Below w.heap.size w w' := by
  have hl := digs_zero_len h0
  clear h0
  go_enter Tryd.func24, Tryd.ntmps24
  go_wp2_with fail
  refine (limbs_any m _ (by omega)).mono ?_
  rintro en w1 ⟨⟨vm, rfl, hvm⟩, hb1⟩
  obtain ⟨am, cm, rfl, hcm, hmm, hcellm⟩ := hvm.open
  clear hcellm
  go_wp2_with fail
  refine (limbs_any e _ (by omega)).mono ?_
  rintro en w2 ⟨⟨ve, rfl, hve⟩, hb2⟩
  have hb12 := (hb1.trans (hb2.mono hb1.size)).alloc (hb1.trans (hb2.mono hb1.size)).size (.cells #[.slice am (digs (bv m)).length cm] 56)
  rw [hl] at hb12
  go_wp2_with fail
  go_ret2
  exact ⟨rfl, hb12⟩
set_option maxRecDepth 100000 in
set_option maxHeartbeats 4000000 in
theorem npow_odd (s e m : ByteArray) (w : World) (hs : s.size ≤ 33554432) (he : e.size ≤ 33554432) (hm : m.size ≤ 33554430) (hodd : bv m % 2 = 1) :
    Calls Tryd.prog 24 #[.string s, .string e, .string m] w fun en w' => en = .returned (.tuple #[.string (nb (bv s ^ bv e % bv m)), .bool true]) ∧ Below w.heap.size w w' := by
  have l1 := digs_len_bv s
  have l2 := digs_len_bv e
  have l3 := digs_len_bv m
  have h0 : 0 < bv m := by omega
  obtain ⟨hp, hd0⟩ := digit0 (show bv m ≠ 0 by omega)
  have HD0 := Lib.hid hd0
  have hrd := digs_dig (bv s ^ bv e % bv m)
  have hrl := digs_len_mono (Nat.le_of_lt (Nat.mod_lt (bv s ^ bv e) h0))
  obtain ⟨k, hk⟩ : ∃ k, (digs (bv m)).length = k + 1 := ⟨(digs (bv m)).length - 1, by omega⟩
  have HK := Lib.hid hk
  obtain ⟨R, hR⟩ : ∃ R, R = bv s ^ bv e % bv m := ⟨_, rfl⟩
  rw [← hR] at hrd hrl
  have HR := Lib.hid hR
  have HE := Lib.hid (dv_digs R)
  clear hd0 hk hR
  go_enter Tryd.func24, Tryd.ntmps24
  go_wp2_with fail
  refine (limbs_any m _ (by omega)).mono ?_
  rintro en w1 ⟨⟨vm, rfl, hvm⟩, hb1⟩
  go_wp2_with fail
  refine (limbs_any e _ (by omega)).mono ?_
  rintro en w2 ⟨⟨ve, rfl, hve⟩, hb2⟩
  have hb12 := hb1.trans (hb2.mono hb1.size)
  have hvm2 := hvm.extend hb2
  obtain ⟨am, cm, rfl, hcm, hmm, hcellm⟩ := hvm2.open
  obtain ⟨gm, hgm1, hgm2, rfl, hcm0⟩ := hcellm 0 hp
  rw [HD0.out] at hcm0
  clear hcellm
  have hmod : bits BinOp.and IntKind.u32 ((bv m % 4294967296 : Nat) : Int) 1 = 1 := by
    have e := bits_mask .u32 32 (by decide) wraps_u32 1 (by decide) ((bv m % 4294967296 : Nat) : Int) (by omega) (by omega)
    rw [show (2 : Int) ^ 1 - 1 = 1 from rfl, show (2 : Int) ^ 1 = 2 from rfl] at e
    rw [e]; omega
  have hcm3 : (w2.alloc (.cells #[.slice (some ⟨gm, 0, none⟩) (digs (bv m)).length cm] 56)).cell? ⟨gm, 0, none⟩ = some (.int .u32 ((bv m % 4294967296 : Nat) : Int)) := by
    rw [((Below.refl _ w2).alloc (Nat.le_refl _) (.cells #[.slice (some ⟨gm, 0, none⟩) (digs (bv m)).length cm] 56)).cell (p := ⟨gm, 0, none⟩) hgm2]; exact hcm0
  obtain ⟨q, hq⟩ : ∃ q : Int, ((bv m % 4294967296 : Nat) : Int) = q := ⟨_, rfl⟩
  rw [hq] at hcm3 hmod
  have hq0 : 0 ≤ q := by omega
  have hq1 : q < 4294967296 := by omega
  have hbx8 := Boxed.new w2 56 (.slice (some ⟨gm, 0, none⟩) (digs (bv m)).length cm)
  have hc8 := cell_new w2 (.slice (some ⟨gm, 0, none⟩) (digs (bv m)).length cm) 56
  clear hq hcm0
  have hvm3 := hvm2.alloc (.cells #[.slice (some ⟨gm, 0, none⟩) (digs (bv m)).length cm] 56)
  have hve3 := (hve.low (Nat.zero_le _)).alloc (.cells #[.slice (some ⟨gm, 0, none⟩) (digs (bv m)).length cm] 56)
  have hb3 := hb12.alloc hb12.size (.cells #[.slice (some ⟨gm, 0, none⟩) (digs (bv m)).length cm] 56)
  go_upto_region 5 with fail
  clear hcm3 hc8 hmod
  have hpf1 : PF w _ w2.heap.size (.slice (some ⟨gm, 0, none⟩) (digs (bv m)).length cm) ve (digs (bv m)) (digs (bv e)) := ⟨hbx8, hvm3, hve3, hb3⟩
  have hpf := hpf1.plain (Below.refl _ _).drew
  generalize w2.heap.size = b8 at *
  generalize w2.alloc (.cells #[.slice (some ⟨gm, 0, none⟩) (digs (bv m)).length cm] 56) = w3 at *
  clear hpf1 hbx8 hvm3 hve3 hb3 hvm2
  go_region_held3 (fun w' => w'.cell? ⟨b8, 0, none⟩ = some (.slice (some ⟨gm, 0, none⟩) (digs (bv m)).length cm)) (first | with_reducible exact hpf.box.cell | go_keep) (first | (go_at_call 42; refine (limbs_any s _ (by omega)).mono ?_; rintro en wA ⟨⟨vA, rfl, hvA⟩, hbA⟩; have q1 := hpf.plain hbA; have hpf := q1; clear q1) | (go_at_call 53; refine (npowodd_any (bv s) (bv e) (bv m) k _ _ _ _ (hvA.low (Nat.zero_le _)) hpf.re hpf.rm hodd HK.out (by omega) (by omega) (by have := HK.out; omega)).mono ?_; rintro en wB ⟨⟨vB, rfl, hvB⟩, hbB⟩; have q1 := hpf.plain hbB; have hpf := q1; clear q1; rw [← HR.out] at hvB) | (go_at_call 43; refine (nnumber_any _ _ _ _ hrd hvB (by omega)).mono ?_; rintro en wC ⟨rfl, hbC⟩; have q1 := hpf.plain hbC; have hpf := q1; clear q1))
  all_goals go_wp2
  all_goals go_ret2
  all_goals exact ⟨ret2 (val_str (by rw [HE.out, Int.toNat_natCast, HR.out])) rfl, hpf.bel⟩
theorem npow_any (s e m : ByteArray) (w : World) (hs : s.size ≤ 33554432) (he : e.size ≤ 33554432) (hm : m.size ≤ 33554430) (h0 : 0 < bv m) :
    Calls Tryd.prog 24 #[.string s, .string e, .string m] w fun en w' => en = .returned (.tuple #[.string (nb (bv s ^ bv e % bv m)), .bool true]) ∧ Below w.heap.size w w' := by
  rcases Nat.mod_two_eq_zero_or_one (bv m) with h | h
  · exact npow_even s e m w hs he (by omega) h0 h
  · exact npow_odd s e m w hs he hm h
end Go.Proofs.YtjjmfigldhdccaaDoor
