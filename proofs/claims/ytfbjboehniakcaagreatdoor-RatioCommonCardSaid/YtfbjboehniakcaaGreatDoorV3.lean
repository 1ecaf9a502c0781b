/- Walks of package nat: compare, subtract, Add, Sub. -/
import Derived.Test.YtfbjboehniakcaaGreatDoorV2
namespace Go.Proofs.YtfbjboehniakcaaGreatDoor
open Go.RowKit W
open Pl (bval enc bv nb bval_append bval_cons bval_nil bval_snoc bval_lt u8 u8_toNat tk tk_zero tk_size tk_succ tk_lt tk_pos nb_size_le bv_nb bv_lt nb_bv_size nb_size_zero Zeros cmpN cmpN_lt cmpN_gt cmpN_eq nb_less nb_eq nb_inj nb_toList nb_size strip0 ext_of_data extract_list nb_size_lt size8 bval_enc)
set_option maxHeartbeats 1000000 in
theorem cmpu_any (x y : Int) (w : World) :
    Calls Tryz.prog 122 #[.int .u32 x, .int .u32 y] w fun e w' => e = .returned (.int .i64 (Lib.compareInt x y)) ∧ w' = w := by
  go_enter Tryz.func122, Tryz.ntmps122
  rcases (by omega : x < y ∨ x = y ∨ y < x) with h | h | h
  · have hc := Lib.hid (show Lib.compareInt x y = -1 from by unfold Lib.compareInt; rw [if_pos h])
    go_wp2
    go_ret
    exact ⟨ret_int hc.out.symm, rfl⟩
  · have hc := Lib.hid (show Lib.compareInt x y = 0 from by unfold Lib.compareInt; rw [if_neg (by omega), if_neg (by omega)])
    have h1 : ¬ x < y := by omega
    have h2 : ¬ y < x := by omega
    clear h
    go_wp2
    go_ret
    exact ⟨ret_int hc.out.symm, rfl⟩
  · have hc := Lib.hid (show Lib.compareInt x y = 1 from by unfold Lib.compareInt; rw [if_neg (by omega), if_pos (by omega)])
    go_wp2
    go_ret
    exact ⟨ret_int hc.out.symm, rfl⟩
theorem compareInt_cmpN {p q : Int} {x y : Nat} (h : ¬ p = q) (h1 : p < q → x < y) (h2 : q < p → y < x) : Lib.compareInt p q = cmpN x y := by
  unfold Lib.compareInt
  rcases (by omega : p < q ∨ q < p) with h3 | h3
  · rw [if_pos h3, cmpN_lt (h1 h3)]
  · rw [if_neg (by omega), if_pos (by omega), cmpN_gt (h2 h3)]
set_option maxRecDepth 100000 in
set_option maxHeartbeats 1000000 in
theorem ncompare_any (x y : Nat) (vu vv : Value) (B : Nat) (w : World) (h : U32s w B vu (digs x)) (h' : U32s w B vv (digs y)) :
    Calls Tryz.prog 102 #[vu, vv] w fun e w' => e = .returned (.int .i64 (cmpN x y)) ∧ Below w.heap.size w w' := by
  obtain ⟨a, cap, rfl, hc, hm, hcell⟩ := h.open
  obtain ⟨a', cap', rfl, hc', hm', hcell'⟩ := h'.open
  unfold maxLen at hm hm'
  have Hcell := Lib.hid hcell
  have Hcell' := Lib.hid hcell'
  clear hcell hcell'
  have l1 := fun h => cmp_len (a := x) (b := y) h
  have l2 := fun h => cmp_len (a := y) (b := x) h
  have l3 := fun h => CI.start (a := x) (b := y) h
  have L1 := Lib.hid l1
  have L2 := Lib.hid l2
  have L3 := Lib.hid l3
  clear l1 l2 l3
  by_cases hlen : (digs x).length = (digs y).length
  · have hci := L3.out hlen
    have h1 : (digs x).length ≤ (digs y).length := by omega
    have h2 : (digs y).length ≤ (digs x).length := by omega
    have hnl : (((digs x).length : Int) != ((digs y).length : Int)) = false := by simp [hlen]
    have Hlen := Lib.hid hlen
    clear hlen
    go_enter Tryz.func102, Tryz.ntmps102
    go_wp2
    go_loopw [5] (fun k wr => ∃ m : Nat, m ≤ (digs x).length ∧ CI x y m ∧ k = .int .i64 ((m : Int) - 1) ∧ Below w.heap.size w wr) (fun k _ => (intOf k + 1).toNat)
    case atStart => exact ⟨_, Nat.le_refl _, hci, rfl, Below.refl _ _⟩
    case round =>
      obtain ⟨m, hml, hC, rfl, hbel⟩ := hrel
      cases m with
      | zero =>
        go_wp2
        go_ret
        exact ⟨ret_int (by rw [cmpN_eq hC.done]), hbel⟩
      | succ m =>
        obtain ⟨g, hg1, hg2, rfl, hc1⟩ := Hcell.out m (by omega)
        obtain ⟨g', hg1', hg2', rfl, hc1'⟩ := Hcell'.out m (by omega)
        have hc2 : wr.cell? ⟨g, m, none⟩ = some (.int .u32 (digs x)[m]) := by rw [hbel.cell (p := ⟨g, m, none⟩) hg2]; exact hc1
        have hc2' : wr.cell? ⟨g', m, none⟩ = some (.int .u32 (digs y)[m]) := by rw [hbel.cell (p := ⟨g', m, none⟩) hg2']; exact hc1'
        have em : ((m + 1 : Nat) : Int) - 1 = m := by omega
        rw [em]
        clear em hc1 hc1'
        have h0 : (0 : Int) ≤ m := by omega
        have h1 : (m : Int) < (digs x).length := by omega
        have h1' : (m : Int) < (digs y).length := by omega
        have r1 : (digs x)[m] < (digs y)[m] → x < y := fun h => hC.lt (by omega) (by omega) h
        have r2 : (digs y)[m] < (digs x)[m] → y < x := fun h => hC.symm.lt (by omega) (by omega) h
        have r3 : (digs x)[m] = (digs y)[m] → CI x y m := fun h => hC.succ (by omega) (by omega) h
        have R1 := Lib.hid r1
        have R2 := Lib.hid r2
        have R3 := Lib.hid r3
        clear r1 r2 r3 hC
        generalize (digs x)[m] = p at *
        generalize (digs y)[m] = q at *
        by_cases hpq : p = q
        · have hne : (p != q) = false := by simp [hpq]
          have R4 := Lib.hid (R3.out hpq)
          clear hpq
          go_wp2
          go_quiet (fail)
          go_wp2
          go_roundw
          case rel => exact ⟨m, by omega, R4.out, rfl, below_drewN hbel _⟩
          case measure => first | (simp [intOf]; done) | (simp [intOf]; omega)
        · have hne : (p != q) = true := by simp [hpq]
          have R5 := Lib.hid (compareInt_cmpN hpq R1.out R2.out)
          go_wp2
          go_quiet (fail)
          rename_i nq
          have hb1 := below_drewN hbel nq
          have hc3 : (wr.drewN nq).cell? ⟨g, m, none⟩ = some (.int .u32 p) := hc2
          have hc3' : (wr.drewN nq).cell? ⟨g', m, none⟩ = some (.int .u32 q) := hc2'
          generalize wr.drewN nq = wq at *
          go_wp2
          go_quiet (first | (go_at_call 122; exact Calls.quiet_of_same (cmpu_any _ _ _)))
          go_wp2
          go_ret
          exact ⟨ret_int R5.out, below_drewN hb1 _⟩
  · have hnl : (((digs x).length : Int) != ((digs y).length : Int)) = true := by simp [Int.natCast_inj, hlen]
    have hc : Lib.compareInt ((digs x).length : Int) ((digs y).length : Int) = cmpN x y := compareInt_cmpN (by omega) (fun h => L1.out (by omega)) (fun h => L2.out (by omega))
    have HC := Lib.hid hc
    clear hlen hc
    go_enter Tryz.func102, Tryz.ntmps102
    go_wp2_with (go_at_call 108; refine (Tryz.cmp_Compare_int _ _ _).mono ?_; rintro e w' ⟨rfl, rfl⟩)
    go_ret
    exact ⟨ret_int HC.out, Below.refl _ _⟩
theorem wrap_u64_mod (n : Int) : IntKind.u64.wrap n = n % 18446744073709551616 := IntKind.wrap_u64 n
theorem sub_wrap (z b y : Int) : IntKind.u64.wrap (IntKind.u64.wrap (z - b) - y) = (z - b - y) % 18446744073709551616 := by
  rw [IntKind.wrap_u64, IntKind.wrap_u64]; omega
theorem grownBy_trans {a w w' : World} {row : Option Nat} (h : a.grownBy w row) (k : w.grownBy w' row) : a.grownBy w' row :=
  ⟨k.os.trans h.os, k.tape.trans h.tape, k.output.trans h.output, Nat.le_trans h.size k.size, fun i hi hne => (k.block i (Nat.lt_of_lt_of_le hi h.size) hne).trans (h.block i hi hne)⟩
theorem grownBy_setCell (w : World) (b i : Nat) (v : Value) : w.grownBy (w.setCell ⟨b, i, none⟩ v) (some b) :=
  ⟨rfl, rfl, rfl, by simp [World.setCell], fun k _ hne => Below.heap_setCell _ _ _ _ (fun e => hne (by rw [e]))⟩
theorem U32s.len_cap {w : World} {B g n cap : Nat} {l : List Int} (h : U32s w B (.slice (some ⟨g, 0, none⟩) n cap) l) : n = l.length ∧ l.length ≤ cap ∧ cap ≤ maxLen ∧ B ≤ g ∧ g < w.heap.size := by
  rcases h.2 with ⟨hv, _⟩ | ⟨g', cap', cur, hv, hb, hg, hnc, hcm, hcs, htake⟩
  · cases hv
  · simp only [Value.slice.injEq, Option.some.injEq, Addr.mk.injEq] at hv
    obtain ⟨⟨rfl, _⟩, rfl, rfl⟩ := hv
    exact ⟨rfl, hnc, hcm, hb, (Array.getElem?_eq_some_iff.1 hg).1⟩
set_option maxRecDepth 100000 in
set_option maxHeartbeats 1000000 in
theorem nsubtract_any (u v : List Int) (g cap : Nat) (vv : Value) (B : Nat) (w : World) (hu : Dig u) (hv : Dig v) (h : U32s w B (.slice (some ⟨g, 0, none⟩) u.length cap) u) (h' : U32s w 0 vv v) (hne : some g ≠ vv.ownBlock) (hl : v.length ≤ u.length) (hle : dv v ≤ dv u) :
    Calls Tryz.prog 91 #[.slice (some ⟨g, 0, none⟩) u.length cap, vv] w fun e w' => (∃ v, e = .returned v) ∧ (∃ out, Dig out ∧ out.length = u.length ∧ dv out = dv u - dv v ∧ U32s w' B (.slice (some ⟨g, 0, none⟩) u.length cap) out) ∧ w.grownBy w' (some g) := by
  obtain ⟨a', cap', rfl, hc', hm', hcell'⟩ := h'.open
  have hcu := h.len_cap
  unfold maxLen at hm' hcu
  have Hcell' := Lib.hid hcell'
  clear hcell'
  have Hle := Lib.hid hle
  clear hle
  go_enter Tryz.func91, Tryz.ntmps91
  go_wp2
  go_loopw [4, 9] (fun c k wr => ∃ (out : List Int) (b : Int) (kk : Nat), U32s wr B (.slice (some ⟨g, 0, none⟩) u.length cap) (out ++ u.drop kk) ∧ MI u v kk out b ∧ kk ≤ u.length ∧ c = .int .u64 b ∧ k = .int .i64 kk ∧ w.grownBy wr (some g)) (fun _ k _ => u.length - (intOf k).toNat)
  case atStart => exact ⟨[], 0, 0, by simpa using h, MI.start u v, by omega, rfl, rfl, World.grownBy.refl _ _⟩
  case round =>
    obtain ⟨out, b, kk, ho, hmi, hkl, rfl, rfl, hgr⟩ := hrel
    have hol := hmi.2.1
    have hb0 := hmi.2.2.1
    have hb1 := hmi.2.2.2.1
    by_cases hlt : kk < u.length
    · obtain ⟨c1, c2⟩ := ho.at kk (by simp; omega)
      rw [get_mid hol hlt] at c1
      have hz := hu.get kk hlt
      have hnx := Lib.hid (hmi.step hu hv hlt)
      have hset := Lib.hid (fun z => (ho.set kk z).of_eq (set_mid hol hlt z))
      by_cases hlv : kk < v.length
      · obtain ⟨g', hg1', hg2', rfl, hc1'⟩ := Hcell'.out kk hlv
        have hc2' : wr.cell? ⟨g', kk, none⟩ = some (.int .u32 v[kk]) := hgr.cell hc1' (fun e => hne e.symm)
        have hy := hv.get kk hlv
        rw [gd_lt hlv] at hnx
        generalize v[kk] = y at hc2' hy hnx
        generalize u[kk] = z at c1 hz hnx
        clear hc1'
        go_wp2
        rw [sub_wrap]
        go_roundw
        case rel => exact ⟨_, _, kk + 1, hset.out _, hnx.out, by omega, rfl, by go_num, grownBy_trans hgr (grownBy_setCell _ g kk _)⟩
        case measure => simp [intOf]; omega
      · rw [gd_ge hlv, Int.sub_zero] at hnx
        generalize u[kk] = z at c1 hz hnx
        go_wp2
        rw [wrap_u64_mod]
        go_roundw
        case rel => exact ⟨_, _, kk + 1, hset.out _, hnx.out, by omega, rfl, by go_num, grownBy_trans hgr (grownBy_setCell _ g kk _)⟩
        case measure => simp [intOf]; omega
    · obtain rfl : kk = u.length := by omega
      have hd := Lib.hid (hmi.done hl Hle.out)
      go_wp2
      go_end0
      exact ⟨⟨_, rfl⟩, ⟨out, hd.out.1, hol, hd.out.2, by simpa using ho⟩, hgr⟩
set_option maxHeartbeats 1000000 in
theorem nsubtract_nil (v : List Int) (a : Option Addr) (cap : Nat) (vv : Value) (w : World) (h' : U32s w 0 vv v) (_ : v.length ≤ 0) :
    Calls Tryz.prog 91 #[.slice a 0 cap, vv] w fun e w' => (∃ v, e = .returned v) ∧ w = w' := by
  obtain ⟨a', cap', rfl, hc', hm', hcell'⟩ := h'.open
  clear hcell'
  go_enter Tryz.func91, Tryz.ntmps91
  go_wp2
  go_loop [4, 9] (fun c k => k = .int .i64 0) (fun _ k => 0)
  case atStart => rfl
  case round =>
    subst hrel
    go_wp2
    go_end0
    exact ⟨⟨_, rfl⟩, rfl⟩
theorem nsubtract_call (u v : List Int) (vu vv : Value) (B : Nat) (w : World) (hu : Dig u) (hv : Dig v) (h : U32s w B vu u) (h' : U32s w 0 vv v) (hne : ∀ k, vu.ownBlock = some k → some k ≠ vv.ownBlock) (hl : v.length ≤ u.length) (hle : dv v ≤ dv u) :
    Calls Tryz.prog 91 #[vu, vv] w fun e w' => (∃ v, e = .returned v) ∧ (∃ out, Dig out ∧ out.length = u.length ∧ dv out = dv u - dv v ∧ U32s w' B vu out) ∧ w.grownBy w' vu.ownBlock := by
  obtain ⟨a, cap, rfl, hc, hm, hcell⟩ := h.open
  by_cases h0 : 0 < u.length
  · obtain ⟨g, _, _, rfl, _⟩ := hcell 0 h0
    exact nsubtract_any u v g cap vv B w hu hv h h' (hne g rfl) hl hle
  · have eu : u = [] := List.eq_nil_of_length_eq_zero (by omega)
    have ev : v = [] := List.eq_nil_of_length_eq_zero (by omega)
    subst eu ev
    refine (nsubtract_nil [] a cap vv w h' (Nat.le_refl _)).mono ?_
    rintro e w' ⟨he, rfl⟩
    exact ⟨he, ⟨[], Dig.nil, rfl, by simp [dv], h⟩, World.grownBy.refl _ _⟩
end Go.Proofs.YtfbjboehniakcaaGreatDoor
