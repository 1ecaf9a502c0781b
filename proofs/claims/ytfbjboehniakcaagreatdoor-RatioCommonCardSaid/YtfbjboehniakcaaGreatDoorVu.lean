/- Walks of package nat: Parse. -/
import Derived.Test.YtfbjboehniakcaaGreatDoorVt
namespace Go.Proofs.YtfbjboehniakcaaGreatDoor
open Go.RowKit W
open Pl (bval enc bv nb u8 u8_toNat nb_size_le bv_nb extract_list ext_of_data nparse dval alld isD group_step alld_drop alld_take dval_lt dval_snoc alld_snoc)
/-- what Parse returns of a text -/
def pS (s : ByteArray) : ByteArray := match nparse s.data.toList with | some n => nb n | none => ⟨#[]⟩
def pB (s : ByteArray) : Bool := (nparse s.data.toList).isSome
theorem pbad {s : ByteArray} (h : nparse s.data.toList = none) : (Ending.returned (.tuple #[.string ⟨#[]⟩, .bool false])) = .returned (.tuple #[.string (pS s), .bool (pB s)]) := by
  unfold pS pB; rw [h]; rfl
theorem pgood {s : ByteArray} {n : Nat} (h : nparse s.data.toList = some n) : (Ending.returned (.tuple #[.string (nb n), .bool true])) = .returned (.tuple #[.string (pS s), .bool (pB s)]) := by
  unfold pS pB; rw [h]; rfl
theorem ext_ext2 (s : ByteArray) (k j : Nat) : (s.extract k s.size).extract j (s.extract k s.size).size = s.extract (k + j) s.size := by
  apply ext_of_data
  rw [extract_list, extract_list, extract_list, List.drop_drop]
theorem list_size (s : ByteArray) : s.data.toList.length = s.size := by rw [Array.length_toList]; rfl
theorem list_get (s : ByteArray) (k : Nat) (hk : k < s.size) : s.data.toList[k]'(by rw [list_size]; exact hk) = s[k] := by
  rw [Array.getElem_toList]
  try rfl
theorem ext_get2 (s : ByteArray) (k j : Nat) (hk : k + j < s.size) (h : j < (s.extract k s.size).size) : (s.extract k s.size)[j] = s[k + j] := by
  have e2 : (s.extract k s.size).data.toList[j]? = some s[k + j] := by
    rw [extract_list, List.getElem?_drop, List.getElem?_eq_getElem (by rw [list_size]; exact hk), list_get s _ hk]
  rw [Array.getElem?_toList, Array.getElem?_eq_getElem (xs := (s.extract k s.size).data) (show j < (s.extract k s.size).data.size from h)] at e2
  exact Option.some.inj e2
theorem list_take_succ (s : ByteArray) (k : Nat) (hk : k < s.size) : s.data.toList.take (k + 1) = s.data.toList.take k ++ [s[k]] := by
  rw [List.take_add_one, List.getElem?_eq_getElem (by rw [list_size]; exact hk), list_get s k hk]; rfl
theorem list_group_succ (s : ByteArray) (k j : Nat) (hk : k + j < s.size) : (s.data.toList.drop k).take (j + 1) = (s.data.toList.drop k).take j ++ [s[k + j]] := by
  rw [List.take_add_one, List.getElem?_drop, List.getElem?_eq_getElem (by rw [list_size]; exact hk), list_get s _ hk]; rfl
theorem head_get {s : ByteArray} (h : 0 < s.size) : s.data.toList.head? = some s[0] := by
  rw [List.head?_eq_getElem?, List.getElem?_eq_getElem (by rw [list_size]; omega), list_get s 0 (by omega)]
theorem nparse_head {s : ByteArray} (h : 1 < s.size) (h0 : s[0].toNat = 48) : nparse s.data.toList = none := by
  have e : s.data.toList.head? = some 48 := by rw [head_get (by omega), show s[0] = 48 from UInt8.toNat_inj.1 h0]
  exact if_pos (.inr ⟨by rw [list_size]; exact h, e⟩)
theorem nparse_bad {s : ByteArray} {k : Nat} (hk : k < s.size) (h : isD s[k] = false) : nparse s.data.toList = none := by
  unfold nparse
  split
  · rfl
  · rw [if_neg]
    intro ha
    simp only [alld, List.all_eq_true] at ha
    have := ha s[k] (by rw [← list_get s k hk]; exact List.getElem_mem _)
    rw [h] at this; cases this
theorem nparse_ok {s : ByteArray} (h0 : 0 < s.size) (h1 : 1 < s.size → s[0].toNat ≠ 48) (h : alld s.data.toList = true) : nparse s.data.toList = some (dval s.data.toList) := by
  unfold nparse
  rw [if_neg, if_pos h]
  rintro (he | ⟨he, hh⟩)
  · have := list_size s; rw [he] at this; simp at this; omega
  · rw [list_size] at he
    rw [head_get (by omega)] at hh
    exact h1 he (by rw [Option.some.inj hh]; rfl)
theorem alld_get {s : ByteArray} (h : alld s.data.toList = true) {k : Nat} (hk : k < s.size) : 48 ≤ s[k].toNat ∧ s[k].toNat ≤ 57 := by
  simp only [alld, List.all_eq_true] at h
  have := h s[k] (by rw [← list_get s k hk]; exact List.getElem_mem _)
  simpa [isD] using this
theorem dval_group {s : ByteArray} (h : alld s.data.toList = true) (k j : Nat) : dval ((s.data.toList.drop k).take j) < 10 ^ j :=
  Nat.lt_of_lt_of_le (dval_lt (alld_drop h k j)) (Nat.pow_le_pow_right (by decide) (by rw [List.length_take]; omega))
theorem dval_len (s : ByteArray) (h : alld s.data.toList = true) (k : Nat) : (digs (dval (s.data.toList.take k))).length ≤ s.size := by
  refine digs_length_le.2 (Nat.lt_of_lt_of_le (dval_lt (alld_take h k)) ?_)
  refine Nat.le_trans (Nat.pow_le_pow_left (show 10 ≤ 4294967296 by decide) _) (Nat.pow_le_pow_right (by decide) ?_)
  rw [List.length_take, list_size]; omega
set_option maxRecDepth 100000 in
set_option maxHeartbeats 4000000 in
theorem nparse_any (s : ByteArray) (w : World) (hs : s.size ≤ 1073741824) :
    Calls Tryz.prog 51 #[.string s] w fun e w' => e = .returned (.tuple #[.string (pS s), .bool (pB s)]) ∧ Below w.heap.size w w' := by
  go_enter Tryz.func51, Tryz.ntmps51
  by_cases h0 : s.size = 0
  · have hne : s.toList = [] := toList_nil.2 h0
    go_wp2
    go_ret2
    exact ⟨pbad (by unfold nparse; rw [if_pos (.inl (by rw [← List.length_eq_zero_iff, list_size]; exact h0))]), Below.refl _ _⟩
  have hne : ¬ s.toList = [] := fun e => h0 (toList_nil.1 e)
  have hpos : 0 < s.size := by omega
  have hem : s.toList.isEmpty = false := by simpa using hne
  by_cases h1 : 1 < s.size ∧ s[0].toNat = 48
  · obtain ⟨h1, h2⟩ := h1
    go_wp2
    go_ret2
    exact ⟨pbad (nparse_head h1 h2), Below.refl _ _⟩
  have H1 : 1 < s.size → s[0].toNat ≠ 48 := fun a b => h1 ⟨a, b⟩
  have HH := Lib.hid H1
  rcases Nat.lt_or_ge 1 s.size with h2 | h2
  all_goals
    have h3 : 1 < s.size → ((s[0].toNat : Int) == 48) = false := fun h => by have := HH.out h; simp; omega
    try have h4 := h3 h2
    clear h1 H1 h3
    go_wp2
    go_loop [24] (fun k => ∃ kk : Nat, kk ≤ s.size ∧ k = .int .i64 kk ∧ alld (s.data.toList.take kk) = true) (fun k => s.size - (intOf k).toNat)
    case atStart => exact ⟨0, by omega, rfl, rfl⟩
    case round =>
      obtain ⟨kk, hkl, rfl, hal⟩ := hrel
      have HA := Lib.hid hal
      clear hal
      by_cases hlt : kk < s.size
      · by_cases hd : isD s[kk] = true
        · have hd2 : 48 ≤ s[kk].toNat ∧ s[kk].toNat ≤ 57 := by simpa [isD] using hd
          obtain ⟨d1, d2⟩ := hd2
          have hnx := Lib.hid (show alld (s.data.toList.take (kk + 1)) = true by rw [list_take_succ s kk hlt, alld_snoc, HA.out, hd]; rfl)
          clear hd
          go_wp2
          go_round
          case rel => exact ⟨kk + 1, by omega, val_int (by omega), hnx.out⟩
          case measure => simp [intOf]; omega
        · have hbad := Lib.hid (nparse_bad hlt (by simpa using hd))
          have hd2 : s[kk].toNat < 48 ∨ 57 < s[kk].toNat := by
            rcases Nat.lt_or_ge s[kk].toNat 48 with h | h
            · exact .inl h
            · refine .inr (Nat.lt_of_not_le fun h' => hd ?_); simp [isD, h, h']
          clear hd
          rcases hd2 with hd2 | hd2
          · go_wp2
            go_ret2
            exact ⟨pbad hbad.out, Below.refl _ _⟩
          · have hd3 : 48 ≤ s[kk].toNat := by omega
            go_wp2
            go_ret2
            exact ⟨pbad hbad.out, Below.refl _ _⟩
      · obtain rfl : kk = s.size := by omega
        have hall : alld s.data.toList = true := by have := HA.out; rwa [← list_size s, List.take_length] at this
        have HG := Lib.hid (nparse_ok hpos HH.out hall)
        have HL := Lib.hid hall
        clear hall
        go_wp2
        go_loopw [0, 5] (fun t x wr => ∃ (k : Nat) (tt : ByteArray), k ≤ s.size ∧ tt = s.extract k s.size ∧ t = .string tt ∧ U32s wr w.heap.size x (digs (dval (s.data.toList.take k))) ∧ Below w.heap.size w wr) (fun t _ _ => strV t)
        case atStart => exact ⟨0, s, by omega, by apply ext_of_data; rw [extract_list]; rfl, rfl, by simpa [dval, digs_zero] using U32s.nil w w.heap.size, Below.refl _ _⟩
        case round =>
          obtain ⟨k, t, hk, ht, rfl, hx, hbel⟩ := hrel
          have HT := Lib.hid ht
          have hsz : k + t.size = s.size := by rw [ht, ext_size]; omega
          clear ht
          have HX := Lib.hid hx
          clear hx
          by_cases hlt : k < s.size
          · have ht0 : ¬ t.toList = [] := fun e => by have := toList_nil.1 e; omega
            have htm : t.toList.isEmpty = false := by simpa using ht0
            obtain ⟨j0, hj0, hj1, hj2⟩ : ∃ j0 : Nat, (min (t.size : Int) 9 = j0) ∧ j0 ≤ t.size ∧ 0 < j0 ∧ j0 ≤ 9 := ⟨min t.size 9, by omega, by omega, by omega, by omega⟩
            obtain ⟨hj2, hj3⟩ := hj2
            go_wp2
            go_loop [7, 8, 44] (fun f d j => ∃ jj : Nat, jj ≤ j0 ∧ f = .int .u32 ((10 ^ jj : Nat) : Int) ∧ d = .int .u32 ((dval ((s.data.toList.drop k).take jj) : Nat) : Int) ∧ j = .int .i64 jj) (fun _ _ j => j0 - (intOf j).toNat)
            case atStart => exact ⟨0, by omega, rfl, rfl, rfl⟩
            case round =>
              obtain ⟨jj, hjl, rfl, rfl, rfl⟩ := hrel
              have hDF := dval_group HL.out k jj
              have hF9 : 10 ^ jj ≤ 10 ^ 9 := Nat.pow_le_pow_right (by decide) (by omega)
              by_cases hjt : jj < j0
              · have hF8 : 10 ^ jj ≤ 10 ^ 8 := Nat.pow_le_pow_right (by decide) (by omega)
                have hkj : k + jj < s.size := by omega
                have hjt2 : jj < t.size := by omega
                have hb : t[jj].toNat = s[k + jj].toNat := by
                  have e := HT.out
                  subst e
                  rw [ext_get2 s k jj hkj]
                have hdg := alld_get HL.out hkj
                rw [← hb] at hdg
                have hnx : dval ((s.data.toList.drop k).take (jj + 1)) = dval ((s.data.toList.drop k).take jj) * 10 + (t[jj].toNat - 48) := by rw [list_group_succ s k jj hkj, dval_snoc, hb]
                have HN := Lib.hid hnx
                clear hnx hb
                obtain ⟨F, hF⟩ : ∃ F : Nat, F = 10 ^ jj := ⟨_, rfl⟩
                have HF := Lib.hid hF
                rw [← hF] at hDF hF8 hF9 ⊢
                clear hF
                obtain ⟨D, hD⟩ : ∃ D : Nat, D = dval ((s.data.toList.drop k).take jj) := ⟨_, rfl⟩
                have HD := Lib.hid hD
                rw [← hD] at hDF ⊢
                clear hD
                obtain ⟨d0, d1⟩ := hdg
                have E1 := Lib.hid (show (F : Int) * 10 = ((10 ^ (jj + 1) : Nat) : Int) by rw [Nat.pow_succ, ← HF.out]; omega)
                have E2 := Lib.hid (show (D : Int) * 10 + ((t[jj].toNat : Int) - 48) = ((dval ((s.data.toList.drop k).take (jj + 1)) : Nat) : Int) by rw [HN.out, ← HD.out]; omega)
                go_wp2
                go_round
                case rel => exact ⟨jj + 1, hjt, val_int E1.out, val_int E2.out, rfl⟩
                case measure => simp [intOf]; omega
              · obtain rfl : jj = j0 := by omega
                have hgs := Lib.hid (group_step (l := s.data.toList) (k := k) (j := jj) (by rw [list_size]; omega))
                have hnl := dval_len s HL.out k
                obtain ⟨F, hF⟩ : ∃ F : Nat, F = 10 ^ jj := ⟨_, rfl⟩
                have HF := Lib.hid hF
                rw [← hF] at hDF hF9 ⊢
                clear hF
                obtain ⟨D, hD⟩ : ∃ D : Nat, D = dval ((s.data.toList.drop k).take jj) := ⟨_, rfl⟩
                have HD := Lib.hid hD
                rw [← hD] at hDF ⊢
                clear hD
                have E3 := Lib.hid (show digs (dv (digs (dval (s.data.toList.take k))) * (F : Int) + (D : Int)).toNat = digs (dval (s.data.toList.take (k + jj))) by rw [hgs.out, dv_digs, ← HF.out, ← HD.out, ← Int.natCast_mul, ← Int.natCast_add, Int.toNat_natCast])
                have f1 : (F : Int) < 4294967296 := by omega
                have f2 : (D : Int) < 4294967296 := by omega
                have f3 : (0 : Int) ≤ F := by omega
                have f4 : (0 : Int) ≤ D := by omega
                clear hDF hF9
                go_wp2_with fail
                refine (nenlarge_any _ _ _ (F : Int) (D : Int) _ (digs_dig _) HX.out f3 f1 f4 f2 (by omega) hbel.size).mono ?_
                rintro e w4 ⟨⟨v4, rfl, h4⟩, hb4⟩
                go_wp2
                go_roundw
                case rel => exact ⟨k + jj, _, by omega, by rw [HT.out]; exact ext_ext2 s k jj, rfl, h4.of_eq E3.out, hbel.trans hb4⟩
                case measure => simp [strV]; omega
          · have ht0 : t.toList = [] := toList_nil.2 (by omega)
            have htm : t.toList.isEmpty = true := by simpa using ht0
            have hk2 : k = s.size := by omega
            have hfull : s.data.toList.take k = s.data.toList := by rw [hk2, ← list_size s, List.take_length]
            have HF := Lib.hid hfull
            clear hfull
            have hx2 := HX.out
            rw [HF.out] at hx2
            go_wp2_with fail
            refine (nnumber_any _ _ _ _ (digs_dig _) hx2 ?_).mono ?_
            · have := dval_len s HL.out s.size
              rw [← list_size s, List.take_length, list_size] at this
              omega
            rintro e w4 ⟨rfl, hb4⟩
            go_wp2_with fail
            go_ret2
            exact ⟨by rw [dv_digs, Int.toNat_natCast]; exact pgood HG.out, hbel.trans (hb4.mono hbel.size)⟩
end Go.Proofs.YtfbjboehniakcaaGreatDoor
