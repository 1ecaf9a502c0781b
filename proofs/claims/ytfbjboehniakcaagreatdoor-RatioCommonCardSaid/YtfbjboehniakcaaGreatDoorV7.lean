/- Walks of package nat: takeAway. -/
import Derived.Test.YtfbjboehniakcaaGreatDoorV6
namespace Go.Proofs.YtfbjboehniakcaaGreatDoor
open Go.RowKit W
theorem grownBy_drewN {a w : World} {row : Option Nat} (h : a.grownBy w row) (n : Nat) : a.grownBy (w.drewN n) row := by
  have hb := below_drewN (Below.refl w.heap.size w) n
  exact grownBy_trans h ⟨hb.os, hb.tape, hb.output, hb.size, fun k hk _ => hb.block k hk⟩
theorem get_win {lo out win hi : List Int} {j k : Nat} (hlo : lo.length = j) (ho : out.length = k) (hk : k < win.length) : (lo ++ ((out ++ win.drop k) ++ hi))[j + k]'(by simp; omega) = win[k] := by
  subst hlo ho
  rw [List.getElem_append_right (by omega)]
  simp only [Nat.add_sub_cancel_left]
  rw [List.getElem_append_left (by simp; omega), get_mid rfl hk]
theorem set_win {lo out win hi : List Int} {j k : Nat} (hlo : lo.length = j) (ho : out.length = k) (hk : k < win.length) (z : Int) : (lo ++ ((out ++ win.drop k) ++ hi)).set (j + k) z = lo ++ (((out ++ [z]) ++ win.drop (k + 1)) ++ hi) := by
  subst hlo ho
  rw [List.set_append_right _ _ (by omega), Nat.add_sub_cancel_left, List.set_append_left _ _ (by simp; omega), set_mid rfl hk]
/-- what taking away leaves -/
structure TK (win v : List Int) (n : Nat) (Q : Int) (win' : List Int) : Prop where
  dig : Dig win'
  len : win'.length = n + 1
  q0 : 0 ≤ Q
  q1 : Q < 4294967296
  val : dv win = Q * dv v + dv win'
  lt : dv win' < dv v
  top : dv win' = dv (win'.take n)
theorem TK.ok1 {win v out : List Int} {n : Nat} {D : Int} (hd : Dig out) (hl : out.length = n) (h0 : 0 ≤ D) (h1 : D ≤ 4294967295) (h2 : dv out = dv win - D * dv v) (h3 : dv win < (D + 1) * dv v) : TK win v n D (out ++ [0]) := by
  have e : dv (out ++ [0]) = dv out := by rw [dv_snoc]; simp
  have e2 : (D + 1) * dv v = D * dv v + dv v := by grind
  refine ⟨hd.snoc (by omega) (by omega), by simp [hl], h0, by omega, by omega, by omega, ?_⟩
  rw [e, List.take_left' hl]
theorem TK.ok2 {win v out : List Int} {n : Nat} {D : Int} (hd : Dig out) (hl : out.length = n) (h0 : 1 ≤ D) (h1 : D ≤ 4294967295) (h2 : dv out = dv win - D * dv v + dv v) (h3 : dv win < D * dv v) : TK win v n (D - 1) (out ++ [0]) := by
  have e : dv (out ++ [0]) = dv out := by rw [dv_snoc]; simp
  have e2 : (D - 1) * dv v = D * dv v - dv v := by grind
  refine ⟨hd.snoc (by omega) (by omega), by simp [hl], by omega, by omega, by omega, by omega, ?_⟩
  rw [e, List.take_left' hl]
set_option maxRecDepth 100000 in
set_option maxHeartbeats 4000000 in
theorem ntake_any (lo win hi v : List Int) (vv : Value) (g j n L cap c0 B : Nat) (D : Int) (w : World) (hwin : Dig win) (hv : Dig v) (hlo : lo.length = j) (hwl : win.length = n + 1) (hvl : v.length = n)
    (h : U32s w B (.slice (some ⟨g, 0, none⟩) L cap) (lo ++ (win ++ hi))) (h' : U32s w 0 vv v) (hne : some g ≠ vv.ownBlock) (hc0 : n + 1 ≤ c0) (hc1 : c0 ≤ maxLen) (hL : L ≤ 1073741825) (hD0 : 0 ≤ D) (hD1 : D ≤ 4294967295)
    (hlow : (D - 1) * dv v ≤ dv win) (hhigh : dv win < (D + 1) * dv v) :
    Calls Tryz.prog 106 #[.slice (some ⟨g, j, none⟩) (n + 1) c0, vv, .int .u64 D] w fun e w' => (∃ Q win', e = .returned (.int .u32 Q) ∧ TK win v n Q win' ∧ U32s w' B (.slice (some ⟨g, 0, none⟩) L cap) (lo ++ (win' ++ hi))) ∧ w.grownBy w' (some g) := by
  subst hvl
  obtain ⟨a', cap', rfl, hc', hm', hcell'⟩ := h'.open
  have hlc := h.len_cap
  have hlL : L = j + (v.length + 1) + hi.length := by rw [hlc.1]; simp; omega
  unfold maxLen at hm' hc1
  have Hcell' := Lib.hid hcell'
  have HLO := Lib.hid (And.intro hlow hhigh)
  clear hcell' hlow hhigh hlc
  go_enter Tryz.func106, Tryz.ntmps106
  go_wp2
  go_loopw [7, 8, 18] (fun b c k wr => ∃ (out : List Int) (bb cc : Int) (kk : Nat), U32s wr B (.slice (some ⟨g, 0, none⟩) L cap) (lo ++ ((out ++ win.drop kk) ++ hi)) ∧ KI win v D kk out bb cc ∧ kk ≤ v.length ∧ b = .int .u64 bb ∧ c = .int .u64 cc ∧ k = .int .i64 kk ∧ w.grownBy wr (some g)) (fun _ _ k _ => v.length - (intOf k).toNat)
  case atStart => exact ⟨[], 0, 0, 0, by simpa using h, KI.start win v D, by omega, rfl, rfl, rfl, World.grownBy.refl _ _⟩
  case round =>
    obtain ⟨out, b, c, kk, ho, hki, hkl, rfl, rfl, rfl, hgr⟩ := hrel
    have hol := hki.2.1
    have hb0 := hki.2.2.1
    have hb1 := hki.2.2.2.1
    have hc2 := hki.2.2.2.2.1
    have hc3 := hki.2.2.2.2.2.1
    by_cases hlt : kk < v.length
    · have hlw : kk < win.length := by omega
      obtain ⟨c1, c2⟩ := ho.at (j + kk) (by simp; omega)
      rw [get_win hlo hol hlw] at c1
      obtain ⟨g', hg1', hg2', rfl, hc1'⟩ := Hcell'.out kk hlt
      have hc2' : wr.cell? ⟨g', kk, none⟩ = some (.int .u32 v[kk]) := hgr.cell hc1' (fun e => hne e.symm)
      have hz := hwin.get kk hlw
      have hy := hv.get kk hlt
      have hbd := hki.bound hv hlt hD0 (by omega)
      have hnx := hki.succ hwin hv hlt hlw rfl rfl hD0 (by omega)
      have hset := Lib.hid (fun z => (ho.set (j + kk) z).of_eq (set_win hlo hol hlw z))
      generalize v[kk] = y at hc2' hy hbd hnx
      generalize win[kk] = z at c1 hz hnx
      have hnx := Lib.hid hnx
      clear hc1'
      obtain ⟨d0, d1⟩ := hbd
      have d2 : D * y < 18446744073709551616 := by omega
      have d3 : D * y + c < 18446744073709551616 := by omega
      have d4 : 0 ≤ D * y + c := by omega
      go_wp2
      rw [sub_wrap]
      go_roundw
      case rel => exact ⟨_, _, _, kk + 1, hset.out _, hnx.out, by omega, rfl, rfl, by go_num, grownBy_trans hgr (grownBy_setCell _ g (j + kk) _)⟩
      case measure => simp [intOf]; omega
    · obtain rfl : kk = v.length := by omega
      have hlw : v.length < win.length := by omega
      obtain ⟨c1, c2⟩ := ho.at (j + v.length) (by simp; omega)
      rw [get_win hlo hol hlw] at c1
      have hz := hwin.get v.length hlw
      have hdn := hki.done hv hwl rfl rfl HLO.out.1 HLO.out.2
      have hset := Lib.hid (fun z => (ho.set (j + v.length) z).of_eq (set_win hlo hol hlw z))
      generalize win[v.length] = z at c1 hz hdn
      have hdg := hki.1
      rcases hdn with ⟨e1, e2, e3⟩ | ⟨e1, e2, e3⟩
      · have hw : IntKind.u64.wrap (IntKind.u64.wrap (z - c) - b) = 0 := by rw [sub_wrap, e2]; rfl
        have hk := Lib.hid (TK.ok1 hdg hol hD0 hD1 e3 HLO.out.2)
        clear e1 e2 e3 hb0 hb1
        go_wp2
        go_ret
        exact ⟨⟨_, _, rfl, hk.out, (hset.out _).of_eq (by rw [List.drop_of_length_le (by omega), List.append_nil])⟩, grownBy_trans hgr (grownBy_setCell _ g (j + v.length) _)⟩
      · have hw : IntKind.u64.wrap (IntKind.u64.wrap (z - c) - b) = 18446744073709551615 := by rw [sub_wrap, e2]; rfl
        have hD2 : 1 ≤ D := by
          rcases (by omega : D = 0 ∨ 1 ≤ D) with rfl | h1
          · have := dv_nonneg hwin; omega
          · exact h1
        have HE := Lib.hid (And.intro e1 e3)
        clear e1 e2 e3 hb0 hb1
        have hs2 := (hset.out 4294967295).of_eq (l' := lo ++ ((([] : List Int) ++ (out ++ [4294967295]).drop 0) ++ hi)) (by rw [List.drop_of_length_le (by omega), List.append_nil]; simp)
        have hs2 := Lib.hid hs2
        have hgr2 := grownBy_trans hgr (grownBy_setCell wr g (j + v.length) (.int .u32 4294967295))
        go_wp2
        generalize wr.setCell ⟨g, j + v.length, none⟩ (.int .u32 4294967295) = ws at *
        go_loopw [8, 74] (fun c k wr => ∃ (out2 : List Int) (cc : Int) (kk : Nat), U32s wr B (.slice (some ⟨g, 0, none⟩) L cap) (lo ++ ((out2 ++ (out ++ [4294967295]).drop kk) ++ hi)) ∧ SI out v kk out2 cc ∧ kk ≤ v.length ∧ c = .int .u64 cc ∧ k = .int .i64 kk ∧ w.grownBy wr (some g)) (fun _ k _ => v.length - (intOf k).toNat)
        case atStart => exact ⟨[], 0, 0, hs2.out, SI.start out v, by omega, rfl, rfl, hgr2⟩
        case round =>
          obtain ⟨out2, cc, kk, ho, hsi, hkl, rfl, rfl, hgr⟩ := hrel
          have hol2 := hsi.2.1
          have hc0 := hsi.2.2.1
          have hc1 := hsi.2.2.2.1
          by_cases hlt : kk < v.length
          · have hlw2 : kk < (out ++ [(4294967295 : Int)]).length := by simp; omega
            obtain ⟨c1, c2⟩ := ho.at (j + kk) (by simp; omega)
            rw [get_win hlo hol2 hlw2, List.getElem_append_left (by omega : kk < out.length)] at c1
            obtain ⟨g', hg1', hg2', rfl, hc1'⟩ := Hcell'.out kk hlt
            have hc2' : wr.cell? ⟨g', kk, none⟩ = some (.int .u32 v[kk]) := hgr.cell hc1' (fun e => hne e.symm)
            have hz := hdg.get kk (by omega)
            have hy := hv.get kk hlt
            have hnx := hsi.succ hdg hv (by omega)
            rw [gd_lt hlt] at hnx
            have hset := fun z nq => ((ho.drewN nq).set (j + kk) z).of_eq (set_win hlo hol2 hlw2 z)
            generalize v[kk] = y at c1 hc2' hy hnx
            generalize out[kk] = z at c1 hz hnx
            rw [show z + cc + y = z + y + cc by omega] at hnx
            have hnx := Lib.hid hnx
            have hset := Lib.hid hset
            clear hc1'
            go_wp2
            go_quiet (fail)
            go_wp2
            go_roundw
            case rel => exact ⟨_, _, kk + 1, hset.out _ _, hnx.out, by omega, rfl, by go_num, grownBy_trans (grownBy_drewN hgr _) (grownBy_setCell _ g (j + kk) _)⟩
            case measure => simp [intOf]; omega
          · obtain rfl : kk = v.length := by omega
            have hlw2 : v.length < (out ++ [(4294967295 : Int)]).length := by simp; omega
            obtain ⟨c1, c2⟩ := ho.at (j + v.length) (by simp; omega)
            have hl2 : (out ++ [(4294967295 : Int)])[v.length] = 4294967295 := by rw [List.getElem_append_right (by omega)]; simp
            rw [get_win hlo hol2 hlw2, hl2] at c1
            have hset := Lib.hid ((ho.set (j + v.length) 0).of_eq (set_win hlo hol2 hlw2 0))
            have e4 : dv win < D * dv v := HE.out.1
            have e5 : (D - 1) * dv v = D * dv v - dv v := by grind
            have hlo' := HLO.out.1
            obtain ⟨rfl, hb2⟩ := SI.back (T := dv win - D * dv v) hsi hol rfl HE.out.2 (by omega) hv
            have hk := Lib.hid (TK.ok2 hsi.1 hol2 hD2 hD1 hb2 e4)
            clear e4 e5 hlo' hb2 hc0 hc1 hl2
            go_wp2
            go_ret
            exact ⟨⟨_, _, rfl, hk.out, hset.out.of_eq (by rw [List.drop_of_length_le (by simp; omega), List.append_nil])⟩, grownBy_trans hgr (grownBy_setCell _ g (j + v.length) _)⟩
end Go.Proofs.YtfbjboehniakcaaGreatDoor
