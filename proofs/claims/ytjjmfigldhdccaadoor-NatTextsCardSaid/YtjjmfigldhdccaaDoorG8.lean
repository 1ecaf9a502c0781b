/- The walk of NatTexts. -/
import Derived.Test.YtjjmfigldhdccaaDoorG7
import Derived.Lib.ConvBytes
import Derived.Lib.AtoiErrMem
namespace Go.Proofs.YtjjmfigldhdccaaDoor
open Go.RowKit W
open Pl (bval enc bv nb bv_nb nb_size_le nb_size_zero nb_size_mono nb_bv_size bv_lt cmpN tk tk_zero tk_succ tk_pos dec nparse dval alld decDigits_pos alld_dec dval_dec dec_eq)
theorem head_dec (u : Nat) (h : 1 < (Go.Lib.decDigits u).length) : (Go.Lib.decDigits u).head? ≠ some 48 := by
  induction u using Nat.strongRecOn with
  | _ u ih =>
    rw [Go.Lib.decDigits] at h ⊢
    split at h
    · simp at h
    · next h10 =>
      rw [dif_neg h10]
      have hp := decDigits_pos (u / 10)
      have hap : ∀ (l m : List UInt8), 0 < l.length → (l ++ m).head? = l.head? := fun l m h => by
        cases l with
        | nil => simp at h
        | cons c t => rfl
      rw [hap _ _ hp]
      rcases Nat.lt_or_ge 1 (Go.Lib.decDigits (u / 10)).length with h1 | h1
      · exact ih (u / 10) (by omega) h1
      · have hlt : u / 10 < 10 := by
          apply Classical.byContradiction
          intro hn
          rw [Go.Lib.decDigits, dif_neg hn, List.length_append] at h1
          have := decDigits_pos (u / 10 / 10)
          rw [List.length_singleton] at h1; omega
        rw [Go.Lib.decDigits, dif_pos hlt]
        simp only [List.head?_cons, ne_eq, Option.some.injEq]
        intro e
        have := congrArg UInt8.toNat e
        simp at this
        omega
theorem nparse_dec (u : Nat) : nparse (dec u) = some u := by
  have hp := decDigits_pos u
  rw [dec_eq]
  unfold nparse
  rw [if_neg, if_pos (alld_dec u), dval_dec]
  rintro (h | ⟨h1, h2⟩)
  · rw [h] at hp; simp at hp
  · exact head_dec u h1 h2
theorem pS_dec (u : Nat) : pS ⟨(dec u).toArray⟩ = nb u := by
  unfold pS
  rw [show (⟨(dec u).toArray⟩ : ByteArray).data.toList = dec u from rfl, nparse_dec]
theorem pB_dec (u : Nat) : pB ⟨(dec u).toArray⟩ = true := by
  unfold pB
  rw [show (⟨(dec u).toArray⟩ : ByteArray).data.toList = dec u from rfl, nparse_dec]; rfl
theorem dect_pos (u : Nat) : 0 < (⟨(dec u).toArray⟩ : ByteArray).size := by
  rw [dec_eq]; exact decDigits_pos u
theorem text_size {A : ByteArray} {k : Nat} (h : A.size ≤ k) : (⟨(dec (bv A)).toArray⟩ : ByteArray).size ≤ 3 * k + 1 := by
  show (dec (bv A)).length ≤ _
  unfold dec
  split
  · simp
  · have := Pl.decz_len_bv A; omega
/-- a block of bytes -/
def BytesAt (w : World) (g : Nat) (ss : List UInt8) : Prop := g < w.heap.size ∧ ∀ j (h : j < ss.length), w.cell? ⟨g, j, none⟩ = some (.int .u8 (ss[j].toNat : Int)) ∧ w.frozen? ⟨g, j, none⟩ = false
theorem BytesAt.new (w : World) (e : TypeId) (S : ByteArray) : BytesAt (Go.Lib.bytesWorld w e S) w.heap.size S.data.toList := by
  have hsz := Go.Lib.bytesWorld_size w e S
  refine ⟨by omega, fun j h => ⟨?_, ?_⟩⟩
  · rw [Go.Lib.bytesWorld_cell w e S j (by rw [← list_size S]; exact h)]
    rw [List.getD_eq_getElem?_getD, List.getElem?_eq_getElem h]; rfl
  · have h2 := Go.Lib.bytesWorld_at_new w e S
    have h3 : j < (Go.Lib.bytesCells w e S).size := by
      have : S.data.toList.length = S.data.size := by simp
      simp only [Go.Lib.bytesCells, Array.size_append, Array.size_map]; omega
    simp only [World.frozen?, h2]
    simp; omega
theorem BytesAt.drew {w : World} {g : Nat} {ss : List UInt8} (h : BytesAt w g ss) : BytesAt w.drew g ss := h
theorem BytesAt.put {w : World} {g : Nat} {ss : List UInt8} (h : BytesAt w g ss) {k : Nat} (hk : k < ss.length) (b : UInt8) : BytesAt (w.setCell ⟨g, k, none⟩ (.int .u8 (b.toNat : Int))) g (ss.set k b) := by
  refine ⟨by simpa using h.1, fun j hj => ⟨?_, by rw [World.frozen?_setCell]; exact (h.2 j (by simpa using hj)).2⟩⟩
  have hj2 : j < ss.length := by simpa using hj
  by_cases e : k = j
  · subst e
    rw [List.getElem_set_self]
    exact World.cell?_setCell_same _ _ _ (h.2 k hk).1
  · rw [List.getElem_set_ne e, World.cell?_setCell_other (h := fun hh => e (by injection hh))]
    exact (h.2 j hj2).1
theorem BytesAt.below {w w' : World} {g : Nat} {ss : List UInt8} (h : BytesAt w g ss) (hb : Below w.heap.size w w') : BytesAt w' g ss :=
  ⟨Nat.lt_of_lt_of_le h.1 hb.size, fun j hj => ⟨(hb.cell (p := ⟨g, j, none⟩) h.1).trans (h.2 j hj).1, (hb.frozen (p := ⟨g, j, none⟩) h.1).trans (h.2 j hj).2⟩⟩
theorem BytesAt.alloc {w : World} {g : Nat} {ss : List UInt8} (h : BytesAt w g ss) (o : Obj) : BytesAt (w.alloc o) g ss := h.below ((Below.refl _ _).alloc (Nat.le_refl _) _)
theorem BytesAt.conv {w : World} {g cap : Nat} {ss : List UInt8} (h : BytesAt w g ss) (dst : TypeId) (hd : Tryd.prog.underlying dst = some .string) :
    (convert 22 dst (.slice (some ⟨g, 0, none⟩) ss.length cap)).run Tryd.prog w = .ok (.string ⟨ss.toArray⟩) w := by
  refine run_convert_bytes_back w 22 dst 5 ⟨g, 0, none⟩ cap ss Tryd.underlying22 Tryd.underlying5 hd ?_
  intro j hj
  have e : (⟨g, 0, none⟩ : Addr).add j = ⟨g, j, none⟩ := by unfold Addr.add; split <;> simp_all
  rw [e]; exact (h.2 j hj).1
theorem BytesAt.cvS {w : World} {g cap n : Nat} {ss : List UInt8} {T : ByteArray} (h : BytesAt w g ss) (hn : ss.length = n) (hT : T = ⟨ss.toArray⟩) : ∀ dst, Tryd.prog.underlying dst = some .string →
    (convert 22 dst (.slice (some ⟨g, 0, none⟩) n cap)).run Tryd.prog w = .ok (.string T) w := fun dst hd => by rw [← hn, hT]; exact h.conv dst hd
set_option maxRecDepth 100000 in
set_option maxHeartbeats 8000000 in
theorem texts_walk (v0 : Value) (x : List UInt8) (raw : ByteArray) (e0 e1 : Int) (w : World) (hx : BysR w v0 x) (a0 : 0 ≤ e0) (a1 : e0 < 256) (b0 : 0 ≤ e1) (b1 : e1 < 256) (hG : GT w) :
    Calls Tryd.prog 7 #[v0, .string raw, .agg #[.int .u8 e0, .int .u8 e1]] w fun e w' => e = .returned (.bool true) ∧ Below w.heap.size w w' := by
  have hacc0 : Below w.heap.size w w := Below.refl _ _
  go_enter Tryd.func7, Tryd.ntmps7
  obtain ⟨n0, rfl⟩ : ∃ n : Nat, e0 = n := ⟨e0.toNat, by omega⟩
  obtain ⟨u1, rfl⟩ : ∃ u : UInt8, e1 = (u.toNat : Int) := ⟨Pl.u8 e1, by rw [Pl.u8_toNat]; omega⟩
  have bE : Rw (w.alloc (.cells #[.int .u8 n0, .int .u8 u1.toNat] 39)) w.heap.size [.int .u8 n0, .int .u8 u1.toNat] := Rw.new w _ rfl [.int .u8 n0, .int .u8 u1.toNat] 39
  have hacc := hacc0.alloc (Nat.le_refl _) (.cells #[.int .u8 n0, .int .u8 u1.toNat] 39)
  go_upto_region 1 with fail
  generalize hgE : w.heap.size = gE at bE
  generalize w.alloc (.cells #[.int .u8 n0, .int .u8 u1.toNat] 39) = WE at *
  clear hgE
  go_wp2_with fail
  with_reducible refine (sanity_any _ (hG.below hacc)).mono ?_
  rintro e wZ ⟨rfl, hbX⟩
  have hacc := hacc.trans (hbX.mono hacc.size)
  have bE := bE.below hbX
  clear hbX
  go_wp2_with fail
  with_reducible refine (made_any v0 x _ (hx.below hacc)).mono ?_
  rintro e w' ⟨rfl, rfl⟩
  have hA := cutS_size x 40
  generalize cutS x 40 = A at *
  have tS := text_size hA
  have TP := Lib.hid (pS_dec (bv A))
  have TB := Lib.hid (pB_dec (bv A))
  have tpos := dect_pos (bv A)
  go_wp2_with fail
  with_reducible refine (ntext_any A _ (by omega) (hG.below hacc)).mono ?_
  rintro e wZ ⟨rfl, hbX⟩
  have hacc := hacc.trans (hbX.mono hacc.size)
  have bE := bE.below hbX
  clear hbX
  have hT := Lib.hid (fun W => text_any A W (by omega))
  have hC := Lib.hid (fun W => canon_any A W (by unfold maxLen; omega))
  generalize (⟨(dec (bv A)).toArray⟩ : ByteArray) = S at *
  go_wp2_with fail
  with_reducible refine (nparse_any S _ (by omega)).mono ?_
  rw [TP.out, TB.out]
  rintro e wZ ⟨rfl, hbX⟩
  have hacc := hacc.trans (hbX.mono hacc.size)
  have bE := bE.below hbX
  clear hbX
  go_wp2_with fail
  with_reducible refine (hT.out _).mono ?_
  rintro e wZ ⟨rfl, hbX⟩
  have hacc := hacc.trans (hbX.mono hacc.size)
  have bE := bE.below hbX
  clear hbX
  go_wp2_with fail
  with_reducible refine (hC.out _).mono ?_
  rintro e w' ⟨rfl, rfl⟩
  have hz : ((S.size : Int) == 0) = false := by simp only [beq_eq_false_iff_ne, ne_eq]; omega
  have hcv := Go.Lib.run_convert_string_bytes (P := Tryd.prog) wZ 9 22 5 S Tryd.underlying9 Tryd.underlying22 Tryd.underlying5
  go_upto_region 8 with fail
  have bB : BytesAt (Go.Lib.bytesWorld wZ 5 S) wZ.heap.size S.data.toList := BytesAt.new wZ _ S
  have lE := bE.lt
  have kB := hacc.size
  have bE := bE.below (Go.Lib.bytesWorld_below wZ 5 S)
  have hacc := hacc.trans ((Go.Lib.bytesWorld_below wZ 5 S).mono hacc.size)
  have ne : gE ≠ wZ.heap.size := by omega
  generalize grownCap wZ S.size 0 5 = cap at *
  clear hcv
  generalize wZ.heap.size = gB at *
  generalize Go.Lib.bytesWorld wZ 5 S = WB at *
  clear lE
  have hSl := list_size S
  obtain ⟨k, hk⟩ : ∃ k, k = n0 % S.size := ⟨_, rfl⟩
  have hkl : k < S.size := by rw [hk]; exact Nat.mod_lt _ tpos
  have hkm : Int.tmod (n0 : Int) (S.size : Int) = (k : Int) := by rw [Int.tmod_eq_emod_of_nonneg (by omega), hk]; rfl
  have hw0 : IntKind.i64.wrap (n0 : Int) = n0 := by rw [IntKind.wrap_i64]; omega
  obtain ⟨cB, fB⟩ := bB.2 k (by omega)
  generalize hu : (S.data.toList[k]'(by omega)).toNat = u at cB
  clear hk hu
  have p0 := bE.at 0 rfl
  have p1 := bE.at 1 rfl
  have hS0 : ¬ S.size = 0 := by omega
  have hwk : IntKind.i64.wrap (k : Int) = k := by rw [IntKind.wrap_i64]; omega
  have hk0 : (0 : Int) ≤ (k : Int) := by omega
  have hk1 : (k : Int) < (S.size : Int) := by omega
  go_region_held3 (fun w' => w'.cell? ⟨gE, 0, none⟩ = some (.int .u8 n0) ∧ w'.cell? ⟨gE, 1, none⟩ = some (.int .u8 u1.toNat)) (first | exact ⟨p0, p1⟩ | exact ⟨((bE.other (p := ⟨gB, k, none⟩) (Ne.symm ne) _).drew).at 0 rfl, ((bE.other (p := ⟨gB, k, none⟩) (Ne.symm ne) _).drew).at 1 rfl⟩ | go_keep) (fail)
  have bB := (bB.put (k := k) (by omega) u1).drew
  have hacc := (hacc.setCell kB (p := ⟨gB, k, none⟩) (.int .u8 u1.toNat)).drew
  generalize (WB.setCell ⟨gB, k, none⟩ (.int .u8 u1.toNat)).drew = WS at *
  obtain ⟨T, hT⟩ : ∃ T : ByteArray, T = ⟨(S.data.toList.set k u1).toArray⟩ := ⟨_, rfl⟩
  have hTs : T.size = S.size := by rw [hT]; show ((S.data.toList.set k u1).toArray).size = _; simp [hSl]
  have hL : (S.data.toList.set k u1).length = S.size := by simp [hSl]
  generalize S.data.toList.set k u1 = L at *
  clear p0 p1 bE cB fB hkm hw0 hwk hk0 hk1 hS0 hkl
  obtain ⟨r, hr, hrl, hr1⟩ : ∃ r : Nat, min (raw.size : Int) 100 = r ∧ r ≤ raw.size ∧ r ≤ 100 := ⟨min raw.size 100, by omega, by omega, by omega⟩
  go_upto_region 9 with fail
  go_cut [75, 76, 77] (fun s75 s76 s77 wx => ∃ gL, s75 = .slice (some ⟨gL, 0, none⟩) 6 6 ∧ s76 = .int .i64 6 ∧ s77 = .int .i64 0 ∧ SomeStrs wx gL 6 200 ∧ Below w.heap.size w wx)
  case first =>
    have cv := bB.cvS (cap := cap) hL hT
    have HT2 := Lib.hid hT
    clear hT
    have hr0 : (0 : Int) ≤ (r : Int) := by omega
    have hr2 : (r : Int) ≤ (raw.size : Int) := by omega
    have hs1 : (1 : Int) ≤ (S.size : Int) := by omega
    have e48 : (⟨#[48]⟩ : ByteArray).size = 1 := rfl
    have e32 : (⟨#[32]⟩ : ByteArray).size = 1 := rfl
    have q1 : (9223372036854775807 < (⟨#[48]⟩ : ByteArray).size + S.size) = False := eq_false (by omega)
    have q2 : (9223372036854775807 < S.size + (⟨#[48]⟩ : ByteArray).size) = False := eq_false (by omega)
    have q3 : (9223372036854775807 < S.size + (⟨#[32]⟩ : ByteArray).size) = False := eq_false (by omega)
    have q4 : (9223372036854775807 < 1 + S.size) = False := eq_false (by omega)
    have q5 : (9223372036854775807 < S.size + 1) = False := eq_false (by omega)
    have q6 : (9223372036854775806 < S.size) = False := eq_false (by omega)
    clear e48 e32
    go_region_held3 (fun w' => ∀ dst, Tryd.prog.underlying dst = some .string → (convert 22 dst (.slice (some ⟨gB, 0, none⟩) S.size cap)).run Tryd.prog w' = .ok (.string T) w') (first | exact cv | exact BytesAt.cvS bB.drew hL HT2.out | exact BytesAt.cvS (bB.alloc _) hL HT2.out | exact BytesAt.cvS (bB.alloc _).drew hL HT2.out) (fail)
    go_wp2_with fail
    go_meet
    exact ⟨_, rfl, rfl, rfl, (SomeStrs.newL WS _ rfl [raw.extract 0 r, T, (⟨#[48]⟩ : ByteArray) ++ S, S ++ (⟨#[48]⟩ : ByteArray), S.extract 1 S.size, S ++ (⟨#[32]⟩ : ByteArray)] 200 (by
      simp only [List.forall_mem_cons, ByteArray.size_append, ByteArray.size_extract]
      have e1 : (⟨#[48]⟩ : ByteArray).size = 1 := rfl
      have e2 : (⟨#[32]⟩ : ByteArray).size = 1 := rfl
      exact ⟨by omega, by omega, by omega, by omega, by omega, by omega, by simp⟩) 9).drew, (hacc.alloc hacc.size _).drew⟩
  case rest =>
    obtain ⟨gL, rfl, rfl, rfl, bL, hacc⟩ := hcut
    go_wp2_with fail
    go_loopw [77] (fun i wr => ∃ k : Nat, k ≤ 6 ∧ i = .int .i64 k ∧ SomeStrs wr gL 6 200 ∧ Below w.heap.size w wr) (fun i _ => 6 - (intOf i).toNat)
    case atStart => exact ⟨0, by omega, rfl, bL, hacc⟩
    case round =>
      clear bL hacc
      obtain ⟨k, hk, rfl, bL, hacc⟩ := hrel
      by_cases hlt : k < 6
      · have hk0 : (0 : Int) ≤ (k : Int) := by omega
        have hk4 : (k : Int) < 6 := by omega
        obtain ⟨s1, z1, h1⟩ := bL.2 k (by omega)
        go_wp2_with fail
        with_reducible refine (nparse_any s1 _ (by omega)).mono ?_
        rintro e wZ ⟨rfl, hbX⟩
        have hacc := hacc.trans (hbX.mono hacc.size)
        have bL := bL.below hbX
        clear hbX
        clear h1
        go_wp2_with fail
        with_reducible refine (rparse_any s1 _ (by omega)).mono ?_
        rintro e wZ ⟨rfl, hbX⟩
        have hacc := hacc.trans (hbX.mono hacc.size)
        have bL := bL.below hbX
        clear hbX
        go_wp2_with fail
        go_roundw
        case rel => exact ⟨k + 1, by omega, by go_num, bL, hacc⟩
        case measure => simp [intOf]; omega
      · have hk4 : ¬ (k : Int) < 6 := by omega
        go_wp2_with fail
        go_ret
        exact ⟨rfl, hacc⟩
end Go.Proofs.YtjjmfigldhdccaaDoor
