/- Walks of package nat: strip, number, limbs. -/
import Derived.Test.YtfbjboehniakcaaGreatDoorU
import Derived.Test.YtfbjboehniakcaaGreatDoorX
import Derived.Lib.EndianBits
namespace Go.Proofs.YtfbjboehniakcaaGreatDoor
open Go.RowKit W
open Pl (bval enc bv nb bval_append bval_cons bval_nil bval_snoc u8 u8_toNat tk tk_zero tk_size tk_succ tk_lt tk_pos nb_size_le bv_nb bv_lt nb_bv_size nb_size_zero Zeros cmpN cmpN_lt cmpN_gt cmpN_eq nb_less nb_eq nb_inj nb_toList nb_size strip0 ext_of_data extract_list nb_size_lt)

def strV : Value → Nat | .string s => s.size | _ => 0
theorem ext_size (s : ByteArray) (k : Nat) : (s.extract k s.size).size = s.size - k := by simp
theorem ext_ext (s : ByteArray) (k : Nat) : (s.extract k s.size).extract 1 (s.extract k s.size).size = s.extract (k + 1) s.size := by
  apply ext_of_data
  rw [extract_list, extract_list, extract_list, List.drop_drop]
theorem toList_nil {t : ByteArray} : t.toList = [] ↔ t.size = 0 := by
  rw [Go.ByteArray.toList_eq, ← List.length_eq_zero_iff, Array.length_toList]; rfl
theorem ext_get (s : ByteArray) (k : Nat) (hk : k < s.size) (h : 0 < (s.extract k s.size).size) : (s.extract k s.size)[0] = s[k] := by
  have e : (s.extract k s.size).data.toList = s[k] :: s.data.toList.drop (k + 1) := by rw [extract_list, Pl.drop_cons s k hk]
  have e2 : (s.extract k s.size).data.toList[0]? = some s[k] := by rw [e]; rfl
  rw [Array.getElem?_toList, Array.getElem?_eq_getElem (xs := (s.extract k s.size).data) (show 0 < (s.extract k s.size).data.size from h)] at e2
  exact Option.some.inj e2
set_option maxHeartbeats 400000 in
theorem strip_any (s : ByteArray) (w : World) (_ : s.size ≤ maxLen) :
    Calls Tryz.prog 101 #[.string s] w fun e w' => e = .returned (.string (nb (bv s))) ∧ w = w' := by
  go_enter Tryz.func101, Tryz.ntmps101
  go_wp2
  go_loop [0] (fun v => ∃ (k : Nat) (t : ByteArray), k ≤ s.size ∧ Zeros s k ∧ t = s.extract k s.size ∧ v = .string t) strV
  case atStart => exact ⟨0, s, Nat.zero_le _, Zeros.zero s, by apply ext_of_data; rw [extract_list]; rfl, rfl⟩
  case round =>
    obtain ⟨k, t, hk, hz, ht, rfl⟩ := hrel
    have HT := Lib.hid ht
    have hsz : t.size = s.size - k := by rw [ht]; exact ext_size s k
    clear ht
    by_cases hlt : k < s.size
    · have h0 : 0 < t.size := by omega
      have hne : ¬ t.toList = [] := fun e => by have := toList_nil.1 e; omega
      have hem : t.toList.isEmpty = false := by simpa using hne
      have hg : ((t[0].toNat : Int) == 0) = ((s[k].toNat : Int) == 0) := by
        have e := HT.out
        subst e
        rw [ext_get s k hlt h0]
      have HG := Lib.hid hg
      clear hg
      go_wp2
      · go_round
        case rel => exact ⟨k + 1, _, by omega, hz.succ hlt (by rw [← HG.out]; assumption), by rw [HT.out, ← hsz, HT.out]; exact ext_ext s k, rfl⟩
        case measure => simp [strV]; omega
      · go_ret
        exact ⟨ret_str (by rw [HT.out]; exact hz.stop hlt (by rw [← HG.out]; assumption)), rfl⟩
    · have hne : t.toList = [] := toList_nil.2 (by omega)
      go_wp2
      go_ret
      exact ⟨ret_str (by rw [HT.out]; exact hz.full hlt), rfl⟩
theorem u8_mod (x : Int) : u8 (x % 256) = u8 x := by unfold u8; rw [Int.emod_emod_of_dvd x (Int.dvd_refl 256)]
/-- 'b = append(b, x1, x2, x3, x4)' on bytes -/
theorem app4 {w : World} {ops : Array Oper} {rest : List Oper} {o : Oper} {a : Act} {Q : Exit → Act → World → Prop} {s x : Operand} {v : Value} {l : List UInt8} {x1 x2 x3 x4 : Int}
    (hgd : o.guard = none)
    (ho : o.op = .call { callee := .builtin .append, args := #[s, x], argTypes := #[33, 33] })
    (hs : a.eval s = v) (hx : a.eval x = .slice (some ⟨w.heap.size, 0, none⟩) 4 4) (B : Nat) (hown : Bys w B v l)
    (h1 : 0 ≤ x1 ∧ x1 < 256) (h2 : 0 ≤ x2 ∧ x2 < 256) (h3 : 0 ≤ x3 ∧ x3 < 256) (h4 : 0 ≤ x4 ∧ x4 < 256)
    (hlen : l.length < 8589934592) (hB : B ≤ w.heap.size)
    (h : ∀ v' w', Bys w' B v' (l ++ [u8 x1, u8 x2, u8 x3, u8 x4]) → w.grownBy w' v.ownBlock → wpList Tryz.prog ops Q rest (a.put o.dst v') w') :
    wpList Tryz.prog ops Q (o :: rest) a (w.alloc (.cells #[.int .u8 x1, .int .u8 x2, .int .u8 x3, .int .u8 x4] 5)) := by
  obtain ⟨i0, hi, hz0, hz1, hz2⟩ := info_parts info_u8
  have e : ∀ x : Int, 0 ≤ x ∧ x < 256 → ((u8 x).toNat : Int) = x := fun x hx => by rw [u8_toNat]; omega
  have hb := heap_alloc_new w (.cells #[.int .u8 x1, .int .u8 x2, .int .u8 x3, .int .u8 x4] 5)
  refine wpList_append_own _ hgd s x 33 ho B 5 i0 (.int .u8 0) 1 1 Tryz.underlying33 hi hz0 hz1 hz2 rfl (by decide) v _ _ hs (World.ownsRow.alloc hown _) ⟨w.heap.size, 0, none⟩ 4 4 [.int .u8 x1, .int .u8 x2, .int .u8 x3, .int .u8 x4] hx rfl (World.news_of_block hb) ?_ (by unfold maxLen; omega) (by omega) (by simp; omega) ?_
  · intro u hu; simp at hu; rcases hu with rfl | rfl | rfl | rfl <;> rfl
  · intro v' w' g1 g2 _
    refine h v' w' ?_ (grownBy_alloc_trans g2)
    unfold Bys
    rw [List.length_append, List.map_append]
    simp only [List.map_cons, List.map_nil, e _ h1, e _ h2, e _ h3, e _ h4]
    exact g1
set_option maxRecDepth 100000 in
set_option maxHeartbeats 1000000 in
theorem nnumber_any (l : List Int) (v : Value) (B : Nat) (w : World) (hd : Dig l) (h : U32s w B v l) (hlen : l.length ≤ 1073741824) :
    Calls Tryz.prog 83 #[v] w fun e w' => e = .returned (.string (nb (dv l).toNat)) ∧ Below w.heap.size w w' := by
  obtain ⟨a, cap, rfl, hc, hm, hcell⟩ := h.open
  unfold maxLen at hm
  have Hcell := Lib.hid hcell
  clear hcell
  have hmk := brun_mk0 (4 * (l.length : Int)) (4 * l.length) (by simp) (by omega)
  have Hmade := Lib.hid (Bys.made0 w (4 * l.length) (by omega))
  go_enter Tryz.func83, Tryz.ntmps83
  go_wp2_with fail
  clear hmk
  generalize hbn : 4 * l.length = bn at *
  have hbw : Below w.heap.size w (w.alloc (.cells (bzrow bn) 5)) := (Below.refl _ _).alloc (Nat.le_refl _) _
  have HBN := Lib.hid hbn
  clear hbn
  go_loopw [3, 4, 5] (fun v en _ wr => ∃ (bs : List UInt8) (m : Nat), Bys wr w.heap.size v bs ∧ m ≤ l.length ∧ (bval bs : Int) = dv (l.drop m) ∧ bs.length = 4 * (l.length - m) ∧ en = .int .i64 ((m : Int) - 1) ∧ Below w.heap.size w wr) (fun _ en _ _ => (intOf en + 1).toNat)
  case atStart => exact ⟨[], l.length, Hmade.out, by omega, by simp [bval, dv], by simp, rfl, hbw⟩
  case round =>
    obtain ⟨bs, m, hb, hml, hval, hbl, rfl, hbel⟩ := hrel
    have Hval := Lib.hid hval
    have Hbl := Lib.hid hbl
    clear hval hbl
    cases m with
    | zero =>
      have hcv := hb.conv
      have hsz : (⟨bs.toArray⟩ : ByteArray).size ≤ maxLen := by have := Hbl.out; simp [ByteArray.size, maxLen]; omega
      have hv : bv ⟨bs.toArray⟩ = (dv l).toNat := by
        have := Hval.out
        simp only [List.drop_zero] at this
        simp only [bv]; omega
      have HV := Lib.hid hv
      clear hv
      go_wp2_with (go_at_call 101; refine (strip_any _ _ hsz).mono ?_; rintro e w' ⟨rfl, rfl⟩)
      go_ret
      exact ⟨ret_str (by rw [HV.out]), hbel⟩
    | succ m =>
      obtain ⟨g, hg1, hg2, rfl, hc1⟩ := Hcell.out m (by omega)
      have hc2 : wr.cell? ⟨g, m, none⟩ = some (.int .u32 l[m]) := by rw [hbel.cell (p := ⟨g, m, none⟩) hg2]; exact hc1
      have hdm := hd.get m (by omega)
      have em : ((m + 1 : Nat) : Int) - 1 = m := by omega
      rw [em]
      clear em
      have h0 : (0 : Int) ≤ m := by omega
      have h1 : (m : Int) < l.length := by omega
      generalize hz : l[m] = z at hc2 hdm
      have HZ := Lib.hid hz
      clear hz
      clear hc1
      go_wp2_with (at_builtin; refine app4 (by rfl) (by rfl) (by rfl) (by rfl) w.heap.size hb (by omega) (by omega) (by omega) (by omega) (by have := Hbl.out; omega) hbel.size ?_; intro v1 w1 hb1 hg1)
      go_roundw
      case rel => exact ⟨_, m, hb1, by omega, by rw [u8_mod, u8_mod, u8_mod]; exact number_step (by omega) HZ.out hdm.1 hdm.2 Hval.out, by have := Hbl.out; simp; omega, rfl, hbel.grown hg1 hbel.size hb.own⟩
      case measure => first | (simp [intOf]; done) | (simp [intOf]; omega)
theorem or_byte (d b : Nat) (hd : d < 16777216) (hb : b < 256) : bits BinOp.or IntKind.u32 ((d : Int) * 256) (b : Int) = (d : Int) * 256 + b :=
  bits_join .u32 32 (by decide) wraps_u32 8 _ _ (by omega) (by omega) (by omega) (by omega) (by omega) (by omega)

set_option maxRecDepth 100000 in
set_option maxHeartbeats 1000000 in
theorem limbs_any (s : ByteArray) (w : World) (hs : s.size ≤ 4294967296) :
    Calls Tryz.prog 73 #[.string s] w fun e w' => RetU32 w.heap.size (digs (bv s)) e w' ∧ Below w.heap.size w w' := by
  have hmk := urun_mk0 ((s.size : Int) / 4 + 1) (s.size / 4 + 1) (by omega) (by omega)
  have Hmade := Lib.hid (U32s.made0 w (s.size / 4 + 1) (by omega))
  go_enter Tryz.func73, Tryz.ntmps73
  go_wp2_with fail
  clear hmk
  generalize hbn : s.size / 4 + 1 = bn at *
  have hbw : Below w.heap.size w (w.alloc (.cells (uzrow bn) 84)) := (Below.refl _ _).alloc (Nat.le_refl _) _
  clear hbn
  go_loopw [3, 4] (fun v en wr => ∃ (l : List Int) (m : Int), U32s wr w.heap.size v l ∧ LI s l m.toNat ∧ m ≤ s.size ∧ 4 * l.length + m ≤ s.size + 3 ∧ en = .int .i64 m ∧ -4 < m ∧ Below w.heap.size w wr) (fun _ en _ => (intOf en).toNat)
  case atStart => exact ⟨[], s.size, Hmade.out, LI.start s, by omega, by simp; omega, rfl, by omega, hbw⟩
  case round =>
    obtain ⟨l, m, hl, hli, hms, hll, rfl, hm3, hbel⟩ := hrel
    have Hli := Lib.hid hli
    clear hli
    by_cases hpos : 0 < m
    · obtain ⟨m, rfl⟩ := Int.eq_ofNat_of_zero_le (Int.le_of_lt hpos)
      obtain ⟨s0, hs0⟩ : ∃ s0 : Nat, s0 = m - 4 := ⟨_, rfl⟩
      have hsa : s0 ≤ m := by omega
      have hsb : m ≤ s0 + 4 := by omega
      have hmx : (m : Int) - 4 = s0 ∨ ((0 : Int) = s0 ∧ m < 4) := by omega
      have Hs0 := Lib.hid hs0
      clear hs0
      rcases Nat.lt_or_ge m 4 with h3 | h3
      all_goals
        have Hmx := Lib.hid hmx
        clear hmx
        go_wp2
        go_loop [5, 6] (fun d k => ∃ kk dd : Nat, s0 ≤ kk ∧ kk ≤ m ∧ Mid s s0 kk dd ∧ d = .int .u32 dd ∧ k = .int .i64 kk) (fun _ k => m - (intOf k).toNat)
        case atStart => exact ⟨s0, 0, by omega, by omega, Mid.start _ _, rfl, val_int (by have := Hmx.out; omega)⟩
        case round =>
          obtain ⟨kk, dd, h1, h2, hM, rfl, rfl⟩ := hrel
          by_cases hlt : kk < m
          · have hd := hM.lt (by omega)
            have hk' : kk < s.size := by omega
            have hb := s[kk].toNat_lt
            go_wp2
            go_round
            case rel => exact ⟨kk + 1, _, by omega, by omega, hM.succ h1 hk', val_int (by rw [or_byte dd s[kk].toNat hd hb]; push_cast; rfl), by go_num⟩
            case measure => simp [intOf]; omega
          · obtain rfl : kk = m := by omega
            have hd := hM.lt' (by omega)
            go_wp2_with (at_builtin; refine app_u32 (by rfl) (by rfl) (by rfl) (by rfl) w.heap.size hl (by omega) hbel.size ?_; intro v1 w1 hl1 hg1)
            have hb1 := hbel.grown hg1 hbel.size hl.own
            go_wp2
            go_roundw
            case rel => exact ⟨l ++ [(dd : Int)], _, hl1, by have := LI.succ (by simpa using Hli.out) hM Hs0.out (by omega); rw [show ((kk : Int) - 4).toNat = s0 from by have := Hs0.out; omega]; exact this, by omega, by simp; omega, rfl, by omega, hb1⟩
            case measure => simp [intOf]; omega
    · obtain ⟨hd1, hd2⟩ := LI.done (show LI s l 0 by have := Hli.out; rwa [show m.toNat = 0 by omega] at this)
      have Hd2 := Lib.hid hd2
      clear hd2
      go_wp2_with (go_at_call 92; refine (utrim_any _ _ _ _ hd1 hl).mono ?_; rintro e w' ⟨⟨v2, rfl, hv2⟩, rfl⟩)
      go_ret
      exact ⟨⟨_, rfl, hv2.of_eq (by rw [Hd2.out]; rfl)⟩, hbel⟩
end Go.Proofs.YtfbjboehniakcaaGreatDoor
