/- Walks of package nat: Text. -/
import Derived.Test.YtfbjboehniakcaaGreatDoorV9
import Derived.Test.YtfbjboehniakcaaGreatDoorVf
import Derived.Test.YtfbjboehniakcaaGreatDoorZu
namespace Go.Proofs.YtfbjboehniakcaaGreatDoor
open Go.RowKit W
open Go.Lib (IsBuilderF BuilderAtF byteCells strCells decDigits)
open Pl (bval enc bv nb dec decz decz_zero ggs ggs_zero ggs_nil ggs_step ggs_ne ggs_eq ggs_get ggs_div ggs_drop text_first text_next repeat_zero bv_lt dec_eq decz_len_bv decz_len_le decDigits_len)
theorem builder_below {T e : TypeId} {B b : Nat} {p : Value} {bs : List Value} {w w' : World} (h : BuilderAtF T e B b p bs w) (hb : Below w.heap.size w w') : BuilderAtF T e B b p bs w' := by
  have hlt := h.lt
  obtain ⟨hB, v, hbk, hown, hne⟩ := h
  refine ⟨hB, v, by rw [hb.block b hlt]; exact hbk, ⟨hown.1, ?_⟩, hne⟩
  rcases hown.2 with h2 | ⟨g, cap, cur, fz, hv, hg, hh, r⟩
  · exact .inl h2
  · exact .inr ⟨g, cap, cur, fz, hv, hg, by rw [hb.block g (Array.getElem?_eq_some_iff.1 hh).1]; exact hh, r⟩
theorem isBuilder_below {T e : TypeId} {B b : Nat} {bs : List Value} {w w' : World} (h : IsBuilderF T e B b bs w) (hb : Below w.heap.size w w') : IsBuilderF T e B b bs w' :=
  h.elim (fun x => .inl (builder_below x hb)) (fun x => .inr (builder_below x hb))
theorem ggs_len {n k : Nat} (h : n < 256 ^ k) : (ggs n).length ≤ k := by
  have h1 : n / 1000000000 ^ k = 0 := Nat.div_eq_of_lt (Nat.lt_of_lt_of_le h (Nat.pow_le_pow_left (by decide) k))
  have := ggs_drop n k
  rw [h1, ggs_zero] at this
  exact List.drop_eq_nil_iff.1 this
theorem sc_list (l : List UInt8) : strCells ⟨l.toArray⟩ = byteCells l := by simp [strCells, byteCells]
theorem bc_append (l l' : List UInt8) : byteCells (l ++ l') = byteCells l ++ byteCells l' := by simp [byteCells]
theorem builder_new (w : World) (T e : TypeId) : IsBuilderF T e w.heap.size w.heap.size [] (w.alloc (.cells #[.pointer none, .slice none 0 0] T)) :=
  IsBuilderF.of (Go.Lib.fresh_isBuilder T e w)
theorem dec_pos {n : Nat} (h : n ≠ 0) : dec n = decz n := by unfold dec; rw [if_neg h]
set_option maxRecDepth 100000 in
set_option maxHeartbeats 4000000 in
theorem ntext_any (s : ByteArray) (w : World) (hs : s.size ≤ 1073741824) (hG : GT w) :
    Calls Tryz.prog 45 #[.string s] w fun e w' => e = .returned (.string ⟨(dec (bv s)).toArray⟩) ∧ Below w.heap.size w w' := by
  have l1 := digs_len_bv s
  have l2 : (ggs (bv s)).length ≤ s.size := ggs_len (bv_lt s)
  have l3 := decz_len_bv s
  have Hn10 := Lib.hid (Nat.lt_of_lt_of_le (bv_lt s) (Pl.pow10_256 s.size))
  have hlim := Lib.hid (limbs_any s w (by omega))
  generalize bv s = n at *
  go_enter Tryz.func45, Tryz.ntmps45
  go_wp2_with fail
  refine hlim.out.mono ?_
  rintro e w1 ⟨⟨v1, rfl, hv1⟩, hb1⟩
  go_wp2_with fail
  go_loopw [3, 4] (fun x g wr => ∃ (m : Nat) (gs : List Int), m ≤ n ∧ U32s wr w.heap.size x (digs m) ∧ U32s wr w.heap.size g gs ∧ ggs n = gs ++ ggs m ∧ Below w.heap.size w wr) (fun x _ wr => u32V wr x)
  case atStart => exact ⟨n, [], by omega, hv1, U32s.nil _ _, rfl, hb1⟩
  case round =>
    obtain ⟨m, gs, hmn, hx, hg, hgg, hbel⟩ := hrel
    have HGG := Lib.hid hgg
    have hgl : gs.length ≤ s.size := by have := congrArg List.length hgg; rw [List.length_append] at this; omega
    clear hgg
    have hmx := u32V_digs hx
    have hlm := digs_len_mono hmn
    have hdx := digs_dig m
    obtain ⟨a, cap, rfl, hc, hm, hcell⟩ := hx.open
    clear hcell hc hm
    rcases Nat.eq_zero_or_pos m with h0 | h0
    · have hl := digs_zero_len h0
      have hge : ggs n = gs := by rw [HGG.out, h0, ggs_zero, List.append_nil]
      have HGE := Lib.hid hge
      clear hge hmx h0
      obtain ⟨a', cap', rfl, hc', hm', hcell'⟩ := hg.open
      unfold maxLen at hm'
      rcases Nat.eq_zero_or_pos n with hn0 | hn0
      · have hgn : gs.length = 0 := by rw [← HGE.out, hn0, ggs_zero]; rfl
        have HN := Lib.hid hn0
        clear hn0 hcell'
        go_wp2_with fail
        go_ret
        exact ⟨ret_str (by rw [HN.out]; rfl), hbel⟩
      · have hgn : 0 < gs.length := by rw [← HGE.out]; exact List.length_pos_iff.2 (fun e => by have := ggs_nil.1 e; omega)
        have HC := Lib.hid hcell'
        clear hcell'
        have HI := Lib.hid (builder_new wr 89 5)
        have hwb : Below wr.heap.size wr (wr.alloc (.cells #[.pointer none, .slice none 0 0] 89)) := (Below.refl _ _).alloc (Nat.le_refl _) _
        have Hlen := Lib.hid (fun k => decz_len_le (n := n / 1000000000 ^ k) (Nat.lt_of_le_of_lt (Nat.div_le_self _ _) Hn10.out))
        have HN := Lib.hid (show n ≠ 0 by omega)
        have hbs := hbel.size
        have HP := Lib.hid (show decz (n / 1000000000 ^ gs.length) = [] by rw [← HGE.out, ggs_eq (Nat.le_refl _), decz_zero])
        have Hget := Lib.hid (fun (i : Nat) (h : i < gs.length) => show gs[i] = ((n / 1000000000 ^ i % 1000000000 : Nat) : Int) from by
          have h' : i < (ggs n).length := by rw [HGE.out]; exact h
          have e := ggs_get h'
          simpa only [HGE.out] using e)
        have Hne := Lib.hid (fun (i : Nat) (h : i < gs.length) => ggs_ne (n := n) (i := i) (by rw [HGE.out]; exact h))
        clear hn0
        go_wp2
        rw [show ((gs.length : Int) == 0) = false from by simp only [beq_eq_false_iff_ne, ne_eq]; omega]
        clear hl
        generalize hb : wr.heap.size = b at *
        have Hb := Lib.hid hb
        clear hb
        obtain ⟨wo, rfl⟩ : ∃ wo : World, wo = wr := ⟨_, rfl⟩
        go_loopw [7] (fun i wc => ∃ ii : Nat, ii ≤ gs.length ∧ i = .int .i64 ((ii : Int) - 1) ∧ IsBuilderF 89 5 b b (byteCells (decz (n / 1000000000 ^ ii))) wc ∧ Below b wo wc ∧ b ≤ wc.heap.size) (fun i _ => (intOf i + 1).toNat)
        case atStart => exact ⟨gs.length, Nat.le_refl _, rfl, by rw [HP.out]; exact HI.out, hwb, Nat.le_trans (Nat.le_of_eq Hb.out.symm) hwb.size⟩
        case round =>
          obtain ⟨ii, hii, rfl, hB, hbc, hbs2⟩ := hrel
          have hbc0 := hbel.trans (hbc.mono hbs)
          have HB := Lib.hid hB
          clear hB
          cases ii with
          | zero =>
            go_wp2_with fail
            refine (Tryz.Builder_String_any_f b b _ _ HB.out hbs2).mono ?_
            rintro e w9 ⟨rfl, h9, hb9⟩
            go_wp2_with fail
            go_ret
            exact ⟨ret_str (by rw [dec_pos HN.out]), hbc0.trans (hb9.mono hbs)⟩
          | succ i =>
            obtain ⟨g, hg1, hg2, rfl, hc3⟩ := HC.out i (by omega)
            have hc4 : wr.cell? ⟨g, i, none⟩ = some (.int .u32 gs[i]) := by rw [hbc.cell (p := ⟨g, i, none⟩) (by have := Hb.out; omega)]; exact hc3
            clear hc3
            rw [Hget.out i (by omega)] at hc4
            have hq := Hne.out i (by omega)
            have hqd := ggs_div n i
            have hlq := Hlen.out i
            have hlq1 := Hlen.out (i + 1)
            have hlast := Lib.hid (fun h : gs.length = i + 1 => ggs_eq (n := n) (i := i + 1) (by rw [HGE.out, h]; exact Nat.le_refl _))
            have hmore := Lib.hid (fun h : i + 1 < gs.length => Hne.out (i + 1) h)
            have HQD := Lib.hid hqd
            generalize n / 1000000000 ^ (i + 1) = q' at *
            generalize hqe : n / 1000000000 ^ i = q at *
            have HQE := Lib.hid hqe
            clear hqd hqe
            obtain ⟨u, hu⟩ : ∃ u : Nat, u = q % 1000000000 := ⟨_, rfl⟩
            have hu1 : u < 1000000000 := by rw [hu]; exact Nat.mod_lt _ (by decide)
            have HU := Lib.hid hu
            rw [← hu] at hc4
            have HQ := Lib.hid hq
            have Hlq := Lib.hid hlq
            have Hlq1 := Lib.hid hlq1
            clear hu hq hlq hlq1
            have hG2 := hG.below hbc0
            have hu2 := decDigits_len (u := u) (k := 8) (by omega)
            go_wp2_with fail
            refine (fmt_any u _ (by omega) hG2).mono ?_
            rintro e w5 ⟨rfl, hb5⟩
            have h5 := isBuilder_below HB.out hb5
            have hbc5 := hbc.trans (hb5.mono hbs2)
            have hs5 : b ≤ w5.heap.size := Nat.le_trans hbs2 hb5.size
            obtain ⟨S, hS⟩ : ∃ S : ByteArray, S = ⟨(decDigits u).toArray⟩ := ⟨_, rfl⟩
            rw [← hS]
            have hSz : S.size = (decDigits u).length := by rw [hS]; simp [ByteArray.size]
            have HSz := Lib.hid hSz
            have HS := Lib.hid hS
            have hS9 : S.size ≤ 9 := by omega
            clear hS hSz hu2
            rcases Nat.lt_or_ge (i + 1) gs.length with hlt | hge
            · obtain ⟨c, hc9⟩ : ∃ c : Nat, (9 : Int) - (S.size : Int) = c := ⟨9 - S.size, by omega⟩
              have hc0 : c ≤ 9 := by omega
              have hc1 := Lib.hid (show c = 9 - (decDigits u).length by have := HSz.out; omega)
              have i1 : (i : Int) < (gs.length : Int) - 1 := by omega
              go_wp2_with fail
              refine (Tryz.strings_Repeat ⟨#[48]⟩ c _ (by omega) (by show 1 * c ≤ _; omega)).mono ?_
              rintro e w6 ⟨rfl, hb6⟩
              have h6 := isBuilder_below h5 hb6
              have hs6 : b ≤ w6.heap.size := Nat.le_trans hs5 hb6.size
              obtain ⟨R, hR⟩ : ∃ R : ByteArray, R = ⟨(Lib.repeatL [48] c).toArray⟩ := ⟨_, rfl⟩
              have hRs : R.size = c := by rw [hR, repeat_zero]; simp [ByteArray.size]
              have HR := Lib.hid hR
              rw [show (⟨#[48]⟩ : ByteArray).data.toList = [48] from rfl, ← hR]
              clear hR
              have hL7 : (byteCells (decz q')).length + R.size ≤ 140737488355328 := by rw [Lib.byteCells_length]; have := Hlq1.out; omega
              go_wp2_with fail
              refine (bwrite_any b b _ R _ h6 hL7 hs6).mono ?_
              rintro e w7 ⟨rfl, h7, hb7, -⟩
              have hs7 : b ≤ w7.heap.size := Nat.le_trans hs6 hb7.size
              have hL8 : (byteCells (decz q') ++ strCells R).length + S.size ≤ 140737488355328 := by rw [List.length_append, Lib.byteCells_length, Lib.strCells_length]; have := Hlq1.out; omega
              go_wp2_with fail
              refine (bwrite_any b b _ S _ (.inr h7) hL8 hs7).mono ?_
              rintro e w8 ⟨rfl, h8, hb8, -⟩
              have hs8 : b ≤ w8.heap.size := Nat.le_trans hs7 hb8.size
              have HT := Lib.hid (show byteCells (decz q') ++ strCells R ++ strCells S = byteCells (decz q) by
                rw [text_next (q := q) (by rw [← HQD.out]; exact hmore.out hlt), ← HQD.out, ← HU.out, HR.out, HS.out, sc_list, sc_list, repeat_zero, hc1.out, bc_append, bc_append, List.append_assoc])
              rw [HT.out] at h8
              have hbc8 := ((hbc5.trans (hb6.mono hs5)).trans hb7).trans hb8
              go_wp2
              go_roundw
              case rel => exact ⟨i, by omega, rfl, by rw [HQE.out]; exact .inr h8, hbc8, hs8⟩
              case measure => simp [intOf]
            · have hge2 : gs.length = i + 1 := by omega
              have i1 : ¬ (i : Int) < (gs.length : Int) - 1 := by omega
              have hq0 := hlast.out hge2
              have HQ0 := Lib.hid hq0
              have HT := Lib.hid (show byteCells (decz q') ++ strCells S = byteCells (decz q) by
                rw [text_first (q := q) HQ.out (by rw [← HQD.out]; exact HQ0.out), HQ0.out, decz_zero, ← HU.out, HS.out, sc_list]; rfl)
              clear hq0 hge2
              have hL7 : (byteCells (decz q')).length + S.size ≤ 140737488355328 := by rw [Lib.byteCells_length]; have := Hlq1.out; omega
              go_wp2_with fail
              refine (bwrite_any b b _ S _ h5 hL7 hs5).mono ?_
              rintro e w8 ⟨rfl, h8, hb8, -⟩
              have hs8 : b ≤ w8.heap.size := Nat.le_trans hs5 hb8.size
              rw [HT.out] at h8
              have hbc8 := hbc5.trans hb8
              go_wp2
              go_roundw
              case rel => exact ⟨i, by omega, rfl, by rw [HQE.out]; exact .inr h8, hbc8, hs8⟩
              case measure => simp [intOf]
    · have hp : 0 < (digs m).length := List.length_pos_iff.2 (fun e => by have := digs_eq_nil.1 e; omega)
      have Hlt := Lib.hid (show m / 1000000000 < m from Nat.div_lt_self h0 (by decide))
      have HE := Lib.hid (dv_digs m)
      have HST := Lib.hid (ggs_step HGG.out (by omega))
      have HM := Lib.hid hmx
      have hml : m / 1000000000 ≤ n := by omega
      clear hmx
      go_wp2_with fail
      refine (nshort_any _ _ 1000000000 _ _ hdx hx (by decide) (by decide) (by omega)).mono ?_
      rintro e w3 ⟨⟨v3, rfl, h3⟩, hb3⟩
      rw [HE.out, Int.toNat_natCast] at h3 ⊢
      have hbel3 := hbel.trans (hb3.mono hbel.size)
      have hg3 := hg.below hb3
      have hne3 : v3.ownBlock = none ∨ v3.ownBlock ≠ u4.ownBlock := by
        cases hv : v3.ownBlock with
        | none => exact .inl rfl
        | some k => exact .inr (fun e => by have := h3.own k hv; have := hg.lt k e.symm; omega)
      have HN3 := Lib.hid hne3
      clear hne3
      have h3' := h3.low hbel.size
      clear h3
      go_wp2_with (at_builtin; refine app_u32 (by rfl) (by rfl) (by rfl) (by rfl) w.heap.size hg3 (by omega) hbel3.size ?_; intro v4 w4 hg4 hgr4)
      have hbel4 := hbel3.grown hgr4 hbel3.size hg3.own
      have h4 := h3'.kept hgr4 HN3.out
      have hm4 := Lib.hid (u32V_digs h4)
      go_wp2
      go_roundw
      case rel => exact ⟨m / 1000000000, _, hml, h4, hg4, HST.out, hbel4⟩
      case measure => rw [HM.out, hm4.out]; exact Hlt.out
end Go.Proofs.YtfbjboehniakcaaGreatDoor
