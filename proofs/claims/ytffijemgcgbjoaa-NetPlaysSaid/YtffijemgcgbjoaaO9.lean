/- NetParts. -/
import Derived.Test.YtffijemgcgbjoaaNj
namespace Go.Proofs.Ytffijemgcgbjoaa
open Go.RowKit Nt

/-- v is a slice of pairs of bytes that reads as ps -/
def PairR (w : World) (v : Value) (ps : List (Int × Int)) : Prop := ∃ a cap, v = .slice a ps.length cap ∧ ps.length ≤ cap ∧ cap ≤ 9223372036854775807 ∧ (∀ x ∈ ps, (0 ≤ x.1 ∧ x.1 ≤ 255) ∧ (0 ≤ x.2 ∧ x.2 ≤ 255)) ∧ (0 < ps.length → ∃ b off, a = some ⟨b, off, none⟩ ∧ b < w.heap.size ∧ ∀ i, i < ps.length → w.cell? ⟨b, off + i * 2, none⟩ = some (.int .u8 (ps.getD i (0, 0)).1) ∧ w.cell? ⟨b, off + i * 2 + 1, none⟩ = some (.int .u8 (ps.getD i (0, 0)).2))
def prs (zs : List Int) : List Int := (zs.take 8).map fun z => z.tmod 3
theorem prs_len (zs : List Int) : (prs zs).length = min 8 zs.length := by simp [prs]
theorem prs_snoc (zs : List Int) (k : Nat) (h1 : k < zs.length) (h2 : k < 8) : (prs zs).take (k + 1) = (prs zs).take k ++ [(zs.getD k 0).tmod 3] := by
  rw [List.take_succ_eq_append_getElem (by rw [prs_len]; omega)]
  simp [prs, h1]
theorem prs_small (zs : List Int) : ∀ z ∈ prs zs, -3 < z ∧ z < 3 := by
  intro z hz
  simp only [prs, List.mem_map] at hz
  obtain ⟨u, _, rfl⟩ := hz
  have h1 := Int.tmod_lt_of_pos u (show (0 : Int) < 3 by decide)
  have h2 := Int.lt_tmod_of_pos u (show (0 : Int) < 3 by decide)
  omega
def grp (gl : List Int) (j : Int) : Int := if 0 ≤ j ∧ j < 8 then gl.getD j.toNat 0 else 0
def pS (gl : List Int) (k : Nat) : NS := ⟨8, [], grp gl, k, []⟩
theorem pS_part (gl : List Int) : (NS.new 8 []).part gl = pS gl 0 := rfl
theorem pS_trb (gl : List Int) (k : Nat) : (pS gl k).trb = ⟨false, 1, 1⟩ := rfl
theorem pS_goes (gl : List Int) (k : Nat) (f o : Nat) (t : ByteArray) : (pS gl k).goes ⟨f, o, t⟩ = (decide (o < 8) && (decide (8 ≤ f) || gl.getD f 0 == gl.getD o 0)) := by
  unfold NS.goes NS.node
  rw [pS_trb]
  have h1 : nodeB (pS gl k).nodes o = decide (o < 8) := by
    by_cases h : o < 8
    · rw [show nodeB (pS gl k).nodes o = true from nodeB_true.2 (show (0 : Int) ≤ o ∧ (o : Int) < 8 by omega), decide_eq_true h]
    · rw [show nodeB (pS gl k).nodes o = false from nodeB_false.2 (show ¬ ((0 : Int) ≤ o ∧ (o : Int) < 8) by omega), decide_eq_false h]
  have h2 : nodeB (pS gl k).nodes f = !decide (8 ≤ f) := by
    by_cases h : 8 ≤ f
    · rw [show nodeB (pS gl k).nodes f = false from nodeB_false.2 (show ¬ ((0 : Int) ≤ f ∧ (f : Int) < 8) by omega), decide_eq_true h]; rfl
    · rw [show nodeB (pS gl k).nodes f = true from nodeB_true.2 (show (0 : Int) ≤ f ∧ (f : Int) < 8 by omega), decide_eq_false h]; rfl
  simp only [h1, h2]
  by_cases ho : o < 8
  · by_cases hf : 8 ≤ f
    · simp [ho, hf]
    · have e1 : (pS gl k).gr f = gl.getD f 0 := by show grp gl f = _; unfold grp; rw [if_pos (by omega)]; simp
      have e2 : (pS gl k).gr o = gl.getD o 0 := by show grp gl o = _; unfold grp; rw [if_pos (by omega)]; simp
      rw [e1, e2]
      simp [ho, hf]
  · simp [ho]
theorem pS_yes (gl : List Int) (k : Nat) (m : Msg) (h : (pS gl k).goes m = true) : ((pS gl k).send k m).L = [⟨(k : Int) + 1, k, m.fr, m.to, m.text⟩] ∧ ((pS gl k).send k m).next = pS gl (k + 1) := by
  have e : (pS gl k).send k m = { pS gl k with sent := k + 1, L := [⟨(k : Int) + 1, k, m.fr, m.to, m.text⟩] } := by
    unfold NS.send
    rw [if_pos h, pS_trb]
    have : insUpto k 1 (pS gl k).sent m (pS gl k).L (num 1) = [⟨(k : Int) + 1, k, m.fr, m.to, m.text⟩] := by
      show ins (cop k 1 k m 0) [] = _
      simp [ins, cop]
      decide
    rw [this]
    rfl
  rw [e]
  exact ⟨rfl, rfl⟩
theorem pS_no (gl : List Int) (k : Nat) (m : Msg) (h : (pS gl k).goes m = false) : (pS gl k).send k m = pS gl (k + 1) := by
  unfold NS.send
  rw [if_neg (by simp [h])]
  rfl
/-- 'append(x, y...)' on ints, y a slice that is only read -/
theorem app_intsR {w : World} {ops : Array Oper} {rest : List Oper} {o : Oper} {a : Act} {Q : Exit → Act → World → Prop} {s x : Operand} {v : Value} {l l2 : List Int} {ad : Option Addr} {cap : Nat}
    (hgd : o.guard = none)
    (ho : o.op = .call { callee := .builtin .append, args := #[s, x], argTypes := #[32, 32] })
    (hs : a.eval s = v) (hx : a.eval x = .slice ad l2.length cap) (B : Nat) (hown : Ints w B v l) (h2 : IntsR w (.slice ad l2.length cap) l2) (hnil : ad = none → cap = 0)
    (hlen : l.length + l2.length < 1000000000) (hB : B ≤ w.heap.size)
    (h : ∀ v' w', Ints w' B v' (l ++ l2) → w.grownBy w' v.ownBlock → wpList Try.prog ops Q rest (a.put o.dst v') w') : wpList Try.prog ops Q (o :: rest) a w := by
  obtain ⟨i0, hi, hz0, hz1, hz2⟩ := info_parts info_int
  obtain ⟨a', cap', e, _, hc⟩ := h2
  simp only [Value.slice.injEq, true_and] at e
  obtain ⟨rfl, rfl⟩ := e
  cases ad with
  | none =>
    have : l2 = [] := by
      cases l2 with
      | nil => rfl
      | cons z r => obtain ⟨b, off, e, _⟩ := hc (by simp); cases e
    subst this
    rw [hnil rfl] at hx
    refine wpList_append_own_none hgd s x 32 ho B 3 i0 1 Try.underlying32 hi v _ _ hs hown hx ?_
    exact h v w (by simpa using hown) ⟨rfl, rfl, rfl, Nat.le_refl _, fun _ _ _ => rfl⟩
  | some ad =>
    refine wpList_append_own w hgd s x 32 ho B 3 i0 (.int .i64 0) 1 8 Try.underlying32 hi hz0 hz1 hz2 rfl (by decide) v _ _ hs hown ad l2.length cap (l2.map (Value.int .i64)) hx (by simp) ?_ ?_ (by unfold maxLen; omega) (by omega) hB ?_
    · intro j u hu
      have hj : j < l2.length := by simpa using (List.getElem?_eq_some_iff.1 hu).1
      obtain ⟨b, off, e, _, hcell⟩ := hc (by omega)
      cases e
      rw [plain_add, hcell j hj]
      simpa [hj] using hu
    · intro u hu; simp at hu; obtain ⟨z, _, rfl⟩ := hu; rfl
    · intro v' w' h1 h3 _
      refine h v' w' ?_ h3
      unfold Ints
      rw [List.length_append, List.map_append]
      exact h1
set_option maxRecDepth 100000 in
set_option maxHeartbeats 8000000 in
theorem parts_short (v : Value) (zs : List Int) (u : Value) (ps : List (Int × Int)) (W : World) (hv : IntsK .i8 W v zs) (hu : PairR W u ps) (hcase : zs.length ≤ 8) :
    Calls Try.prog 10 #[v, u] W fun e w' => e = .returned (.bool true) ∧ Below W.heap.size W w' := by
  obtain ⟨va, vcap, rfl, hvl, hvm, hvw, hvc⟩ := hv
  obtain ⟨ua, ucap, rfl, hul, hum, huw, huc⟩ := hu
  have HV := Lib.hid hvc
  have HU := Lib.hid huc
  have HB := Lib.hid (show ∀ i, -128 ≤ zs.getD i 0 ∧ zs.getD i 0 ≤ 127 from fun i => by
    rw [List.getD_eq_getElem?_getD]
    cases hc : zs[i]? with
    | none => simp
    | some z => exact bounds_i8 (hvw z (List.mem_of_getElem? hc)))
  have HP := Lib.hid (show ∀ i, (0 ≤ (ps.getD i (0, 0)).1 ∧ (ps.getD i (0, 0)).1 ≤ 255) ∧ (0 ≤ (ps.getD i (0, 0)).2 ∧ (ps.getD i (0, 0)).2 ≤ 255) from fun i => by
    rw [List.getD_eq_getElem?_getD]
    cases hc : ps[i]? with
    | none => simp
    | some z => exact huw z (List.mem_of_getElem? hc))
  have HlP := Lib.hid (show (prs zs).length ≤ 8 by rw [prs_len]; omega)
  have HsP := Lib.hid (show ∀ z ∈ prs zs, -9223372036854775808 ≤ z ∧ z ≤ 9223372036854775807 from fun z hz => by have := prs_small zs z hz; omega)
  clear hvc huc hvw huw
  go_enter Try.func10, Try.ntmps10
  go_wp2_with (go_at_call 11; ((with_reducible refine (sanity_any _).mono ?_); rintro e w1 ⟨rfl, hb1⟩))
  go_loopw [6, 7] (fun g i wr => ∃ k : Nat, k ≤ zs.length ∧ k ≤ 8 ∧ i = .int .i64 k ∧ Ints wr W.heap.size g ((prs zs).take k) ∧ Below W.heap.size W wr) (fun _ i _ => 8 - (intOf i).toNat)
  case atStart => exact ⟨0, by omega, by omega, rfl, Ints.nil _ _, hb1⟩
  case round =>
    obtain ⟨k, hk, hk2, rfl, hi, hb⟩ := hrel
    clear hb1
    by_cases hlt : k < zs.length ∧ k < 8
    · obtain ⟨h1, h2⟩ := hlt
      obtain ⟨b, off, rfl, hbW, hcW⟩ := HV.out (by omega)
      have c0 := (hb.cell (p := ⟨b, _, none⟩) hbW).trans (hcW k h1)
      clear hcW
      have HS := Lib.hid (prs_snoc zs k h1 h2)
      have hlen : ((prs zs).take k).length ≤ 8 := by simp; omega
      have hzk := HB.out k
      generalize (prs zs).take k = pre at hi HS hlen
      generalize zs.getD k 0 = z at c0 HS hzk
      have i0 : (0 : Int) ≤ (k : Int) := by omega
      have i1 : (k : Int) < (zs.length : Int) := by omega
      go_wp2_with (at_builtin; refine app_ints (by rfl) (by rfl) (by rfl) (by rfl) W.heap.size 0 (hi.alloc _) (Ints.one wr 0 _ (Nat.zero_le _)) (by simp; omega) (by have := hb.size; simp; omega) ?_; intro v3 w3 hv3 hg3)
      have hw3 : wrap64 (z.tmod 3) = z.tmod 3 := IntWalk.wrap64_in _ (by have := Int.tmod_lt_of_pos z (show (0 : Int) < 3 by decide); have := Int.lt_tmod_of_pos z (show (0 : Int) < 3 by decide); omega)
      rw [hw3] at hv3
      have hb3 := (((hb.alloc hb.size _)).grown hg3 (by have := hb.size; simp; omega) (fun k hk => (hi.lt hk).1))
      go_roundw
      case rel => exact ⟨k + 1, by omega, by omega, by go_num, by rw [HS.out]; exact hv3, hb3⟩
      case measure => simp [intOf]; omega
    · have he : (prs zs).take k = prs zs := List.take_of_length_le (by rw [prs_len]; omega)
      rw [he] at hi
      have HE := Lib.hid (show zs.length ≤ 8 ∧ k = zs.length ∨ 8 < zs.length ∧ k = 8 by omega)
      clear he
      obtain ⟨ga, gcap, rfl, hgl, hgm, hgad⟩ := hi.len
      have hnil : ga = none → gcap = 0 := fun e => by
        subst e
        rcases hi.2 with ⟨e, _⟩ | ⟨g, cap, cur, e, _⟩
        · simp at e; exact e.2
        · cases e
      have hpos : 0 < (prs zs).length → ga ≠ none := fun h e => by
        subst e
        rcases hi.2 with ⟨_, hn⟩ | ⟨g, cap, cur, e, _⟩
        · omega
        · cases e
      obtain ⟨N, hN⟩ : ∃ N : Nat, N = (prs zs).length := ⟨_, rfl⟩
      have HN := Lib.hid hN
      have HNil := Lib.hid hnil
      have HPos := Lib.hid hpos
      have HAd := Lib.hid hgad
      have hN8 : N ≤ 8 := by have := HlP.out; omega
      have hNc : N ≤ gcap := by omega
      unfold maxLen at hgm
      generalize prs zs = gl at *
      have hTn := Tbs.nil wr 0
      subst hN
      clear hnil hpos hgad
      have hc8 : ¬ k < zs.length := by omega
      clear hlt
      go_wp2_with (first
        | (go_at_call 13; ((with_reducible refine (new_any _ 0 8 _ _ hTn (by simp) (by decide)).mono ?_); intro e w2 hret; obtain ⟨p, rfl, hN2⟩ := lawN_of_new hb hret hi.rows; have hIR := intsR_rows hN2 (fun r hr => hr) HAd.out HPos.out (by omega)))
        | (go_at_call 17; ((with_reducible refine (part_law _ gl hN2 hIR (fun g hg => .inr ⟨gl.map (Value.int .i64), by simp only [rowsI, hg]; simp⟩) HsP.out).mono ?_); rintro e w3 ⟨rfl, hN3⟩; have hIR3 := intsR_rows hN3 (fun r hr => hr) HAd.out HPos.out (by omega); have hIR4 := hIR3.below ((Below.refl w3.heap.size w3).alloc (Nat.le_refl _) (.cells #[] 3))))
        | (at_builtin; refine app_intsR (by rfl) (by rfl) (by rfl) (by rfl) w3.heap.size (Ints.empty w3 w3.heap.size (Nat.le_refl _)) hIR4 HNil.out (by simp; omega) (by simp) ?_; intro v4 w4 hv4 hg4; rw [List.nil_append] at hv4))
      have hb4 := ((Below.refl w3.heap.size w3).alloc (Nat.le_refl _) _).grown hg4 (by simp) (fun k hk => by simp [Value.ownBlock] at hk; omega)
      have hN4 : LawN W w4 p (pS gl 0) (rowsI v4 gl ++ rowsI (.slice ga gl.length gcap) gl) := hN3.add hb4 (fun r hr => ⟨hv4.rows r hr, by
        simp only [rowsI, List.mem_map, Option.mem_toList] at hr
        obtain ⟨g, hg, rfl⟩ := hr
        exact (hv4.lt hg).1⟩)
      obtain ⟨oa, ocap, rfl, hol, hom, hoad⟩ := hv4.len
      unfold maxLen at hom
      have hopos : 0 < gl.length → ∃ g, oa = some ⟨g, 0, none⟩ := fun h => by
        rcases hv4.2 with ⟨_, hn⟩ | ⟨g, cap, cur, e, _⟩
        · omega
        · simp at e; exact ⟨g, e.1⟩
      have hone : ∀ g, oa = some ⟨g, 0, none⟩ → w3.heap.size ≤ g := fun g e => by subst e; exact (hv4.lt rfl).1
      have hgB : ∀ g, ga = some ⟨g, 0, none⟩ → W.heap.size ≤ g ∧ g < w3.heap.size := fun g e => by
        subst e
        refine ⟨(hi.lt rfl).1, ?_⟩
        exact (hN3.row (g := g) (vs := gl.map (Value.int .i64)) (by simp [rowsI, Value.ownBlock])).lt
      have HO := Lib.hid hopos
      have HO2 := Lib.hid hone
      have HG := Lib.hid hgB
      obtain ⟨n, hn⟩ : ∃ n : Nat, n = gl.length := ⟨_, rfl⟩
      have HNn := Lib.hid hn
      have hn8 : n ≤ 8 := by omega
      rw [← hn]
      clear hopos hone hgB hIR hIR3 hIR4 hv4 hg4 hN2 hN3 hret hoad hn hi
      go_loopw [10] (fun i wr => ∃ (k : Nat) (gl' : List Int), k ≤ n ∧ i = .int .i64 k ∧ gl'.length = n ∧ LawN W wr p (pS gl 0) (rowsI (.slice ga n gcap) gl' ++ rowsI (.slice oa n ocap) gl)) (fun i _ => n - (intOf i).toNat)
      case atStart => exact ⟨0, gl, Nat.zero_le _, rfl, HNn.out.symm, by rw [HNn.out]; exact hN4.drop (fun r hr => by simp only [List.mem_append] at hr ⊢; exact hr.symm)⟩
      case round =>
        obtain ⟨j, gl', hj, rfl, hgl', hl⟩ := hrel
        clear hN4
        have HL' := Lib.hid hgl'
        clear hgl'
        by_cases hlt2 : j < n
        · obtain ⟨ad, hga⟩ : ∃ ad, ga = some ad := by
            cases ga with
            | none => exact absurd rfl (HPos.out (by rw [← HNn.out]; omega))
            | some ad => exact ⟨ad, rfl⟩
          obtain ⟨g, rfl⟩ := HAd.out ad hga
          subst hga
          obtain ⟨hgW, hg3⟩ := HG.out g rfl
          have hl2 : LawN W wr p (pS gl 0) ((g, gl'.map (Value.int .i64)) :: rowsI (.slice oa n ocap) gl) := hl
          have hput := hl2.put j (.int .i64 5) (by simp; rw [HL'.out]; exact hlt2) hgW (fun r hr => by
            simp only [rowsI, List.mem_map, Option.mem_toList] at hr
            obtain ⟨g', hg', rfl⟩ := hr
            cases oa with
            | none => simp [Value.ownBlock] at hg'
            | some ad' =>
              obtain ⟨g2, e2⟩ := HO.out (by rw [← HNn.out]; omega)
              cases e2
              simp [Value.ownBlock] at hg'
              have := HO2.out g2 rfl
              simp only; omega)
          have hrow := hl2.row (.head _)
          have hji : (gl'.map (Value.int .i64))[j]? = some (.int .i64 (gl'.getD j 0)) := by
            have : j < gl'.length := by rw [HL'.out]; exact hlt2
            simp [this]
          have c0 := hrow.at j hji
          have f0 := hrow.fr j hji
          have HPt := Lib.hid hput
          clear hput hl hji hrow
          have k0 : (0 : Int) ≤ (j : Int) := by omega
          have k1 : (j : Int) < (n : Int) := by omega
          go_wp2_with fail
          go_roundw
          case rel => exact ⟨j + 1, gl'.set j 5, by omega, by go_num, by rw [List.length_set]; exact HL'.out, by have := HPt.out; rw [← List.map_set] at this; exact this⟩
          case measure => simp [intOf]; omega
        · have hl0 : LawN W wr p (pS gl 0) (rowsI (.slice oa n ocap) gl) := hl.drop (fun r hr => List.mem_append_right _ hr)
          obtain ⟨wo, hwo⟩ : ∃ wo : World, wo = wr := ⟨_, rfl⟩
          subst hwo
          clear hl
          go_wp2_with fail
          go_loopw [11, 12, 13, 14, 15, 16, 17, 18] (fun i _ _ _ _ _ _ _ wr => ∃ k : Nat, k ≤ ps.length ∧ k ≤ 20 ∧ i = .int .i64 k ∧ LawN W wr p (pS gl k) (rowsI (.slice oa n ocap) gl)) (fun i _ _ _ _ _ _ _ _ => 20 - (intOf i).toNat)
          case atStart => exact ⟨0, by omega, by omega, rfl, hl0⟩
          case round =>
            obtain ⟨m, hm, hm20, rfl, hl⟩ := hrel
            clear hl0
            by_cases hlt3 : m < ps.length ∧ m < 20
            · obtain ⟨h1, h2⟩ := hlt3
              obtain ⟨b, off, rfl, hbW, hcW⟩ := HU.out (by omega)
              have c0 := (hl.bel.cell (p := ⟨b, _, none⟩) hbW).trans (hcW m h1).1
              have c1 := (hl.bel.cell (p := ⟨b, _, none⟩) hbW).trans (hcW m h1).2
              clear hcW
              have hpm := HP.out m
              generalize (ps.getD m (0, 0)).1 = x at c0 hpm
              generalize (ps.getD m (0, 0)).2 = y at c1 hpm
              obtain ⟨⟨x0, x1⟩, ⟨y0, y1⟩⟩ := hpm
              obtain ⟨f, hf⟩ : ∃ f : Nat, (f : Int) = x % 10 := ⟨(x % 10).toNat, by omega⟩
              obtain ⟨o, ho⟩ : ∃ o : Nat, (o : Int) = y % 10 := ⟨(y % 10).toNat, by omega⟩
              have hf10 : f < 10 := by omega
              have ho10 : o < 10 := by omega
              have sx : x.tmod 10 = (f : Int) := by rw [Int.tmod_eq_emod_of_nonneg x0]; exact hf.symm
              have sy : y.tmod 10 = (o : Int) := by rw [Int.tmod_eq_emod_of_nonneg y0]; exact ho.symm
              have s1 : IntKind.u8.wrap (f : Int) = f := by unfold IntKind.wrap; simp [IntKind.signed, IntKind.bits]; omega
              have s2 : IntKind.u8.wrap (o : Int) = o := by unfold IntKind.wrap; simp [IntKind.signed, IntKind.bits]; omega
              have s3 : IntKind.i64.wrap (f : Int) = f := IntWalk.i64_in _ (by omega)
              have s4 : IntKind.i64.wrap (o : Int) = o := IntWalk.i64_in _ (by omega)
              clear hf ho
              have k0 : (0 : Int) ≤ (m : Int) := by omega
              have k1 : (m : Int) < (ps.length : Int) := by omega
              go_wp2_with fail
              go_quiet (fail)
              clear s1 s2 s3 s4 sx sy
              have hl1 := hl.below (below_drewN (Below.refl _ _) nq)
              generalize wr.drewN nq = wq at hl1 ⊢
              clear hl c0 c1
              go_upto_if 82 with fail
              go_cut [14] (fun s wx => s = .int .i64 (gl.getD f 0) ∧ LawN W wx p (pS gl m) (rowsI (.slice oa n ocap) gl))
              case first =>
                by_cases hfn : f < n
                · obtain ⟨go, hgo⟩ := HO.out (by rw [← HNn.out]; omega)
                  subst hgo
                  have hgi : (gl.map (Value.int .i64))[f]? = some (.int .i64 (gl.getD f 0)) := by
                    have h9 : f < gl.length := by rw [← HNn.out]; exact hfn
                    simp [h9]
                  have e0 := (hl1.row (g := go) (vs := gl.map (Value.int .i64)) (by simp [rowsI, Value.ownBlock])).at f hgi
                  clear hgi
                  have q0 : (0 : Int) ≤ (f : Int) := by omega
                  have q1 : (f : Int) < (n : Int) := by omega
                  go_wp2_with fail
                  go_meet
                  case rel => exact ⟨rfl, hl1⟩
                · have hz0 : gl.getD f 0 = 0 := by rw [List.getD_eq_getElem?_getD, List.getElem?_eq_none (by rw [← HNn.out]; omega)]; rfl
                  have HZ0 := Lib.hid hz0
                  clear hz0
                  have q1 : decide (f < n) = false := by simp; omega
                  go_wp2_with fail
                  go_meet
                  case rel => exact ⟨by rw [HZ0.out], hl1⟩
              case rest =>
              obtain ⟨rfl, hl2⟩ := hcut
              clear hl1
              have hl1 := hl2
              clear hl2
              go_upto_if 90 with fail
              go_cut [15] (fun s wx => s = .int .i64 (gl.getD o 0) ∧ LawN W wx p (pS gl m) (rowsI (.slice oa n ocap) gl))
              case first =>
                by_cases hfn : o < n
                · obtain ⟨go, hgo⟩ := HO.out (by rw [← HNn.out]; omega)
                  subst hgo
                  have hgi : (gl.map (Value.int .i64))[o]? = some (.int .i64 (gl.getD o 0)) := by
                    have h9 : o < gl.length := by rw [← HNn.out]; exact hfn
                    simp [h9]
                  have e0 := (hl1.row (g := go) (vs := gl.map (Value.int .i64)) (by simp [rowsI, Value.ownBlock])).at o hgi
                  clear hgi
                  have q0 : (0 : Int) ≤ (o : Int) := by omega
                  have q1 : (o : Int) < (n : Int) := by omega
                  go_wp2_with fail
                  go_meet
                  case rel => exact ⟨rfl, hl1⟩
                · have hz0 : gl.getD o 0 = 0 := by rw [List.getD_eq_getElem?_getD, List.getElem?_eq_none (by rw [← HNn.out]; omega)]; rfl
                  have HZ0 := Lib.hid hz0
                  clear hz0
                  have q1 : decide (o < n) = false := by simp; omega
                  go_wp2_with fail
                  go_meet
                  case rel => exact ⟨by rw [HZ0.out], hl1⟩
              case rest =>
              obtain ⟨rfl, hl2⟩ := hcut
              clear hl1
              have hl1 := hl2
              clear hl2
              have HSn := Lib.hid (show (pS gl m).sent ≤ 9000 from (by omega : m ≤ 9000))
              have HGo := Lib.hid (show -1000000000000 ≤ (m : Int) ∧ (m : Int) ≤ 1000000000000 ∧ (pS gl m).trb.delay ≤ 1000000000000 from ⟨by omega, by omega, by rw [pS_trb]; decide⟩)
              have hgo := pS_goes gl m f o ⟨#[]⟩
              have HS2 := Lib.hid (show ((pS gl m).send m ⟨f, o, ⟨#[]⟩⟩).sent ≤ 10000 from (by omega : m + 1 ≤ 10000))
              generalize gl.getD f 0 = A at hgo ⊢
              generalize gl.getD o 0 = B at hgo ⊢
              by_cases ho8 : o < 8
              · have o8 : decide ((o : Int) < 8) = true := by simp; omega
                by_cases hf8 : 8 ≤ f
                · rw [decide_eq_true ho8, decide_eq_true hf8] at hgo
                  have f8 : decide ((8 : Int) ≤ (f : Int)) = true := by simp; omega
                  simp only [Bool.true_or, Bool.and_true] at hgo
                  obtain ⟨hy1, hy2⟩ := pS_yes gl m ⟨f, o, ⟨#[]⟩⟩ hgo
                  have HY := Lib.hid hy1
                  have HY2 := Lib.hid hy2
                  clear hy1 hy2 hgo
                  go_wp2_with (first
                    | (go_at_call 15; ((with_reducible refine (send_law _ _ _ _ hl1 HSn.out (fun _ => HGo.out)).mono ?_); rintro e w6 ⟨rfl, hA⟩))
                    | (go_at_call 19; ((with_reducible refine (next_law _ _ hA HY.out HS2.out).mono ?_); rintro e w7 ⟨rfl, hB⟩; have hB2 := hB.alloc (.cells #[.int .i64 f, .int .i64 o, .string ⟨#[]⟩] 31))))
                  go_roundw
                  case rel => exact ⟨m + 1, by omega, by omega, by go_num, by rw [← HY2.out]; exact hB2⟩
                  case measure => simp [intOf]; omega
                · have f8 : decide ((8 : Int) ≤ (f : Int)) = false := by simp; omega
                  rw [decide_eq_true ho8, decide_eq_false hf8] at hgo
                  by_cases hab : A = B
                  · have ab : (A == B) = true := by simp [hab]
                    rw [ab] at hgo
                    simp only [Bool.false_or, Bool.and_true] at hgo
                    clear hab
                    obtain ⟨hy1, hy2⟩ := pS_yes gl m ⟨f, o, ⟨#[]⟩⟩ hgo
                    have HY := Lib.hid hy1
                    have HY2 := Lib.hid hy2
                    clear hy1 hy2 hgo
                    go_wp2_with (first
                      | (go_at_call 15; ((with_reducible refine (send_law _ _ _ _ hl1 HSn.out (fun _ => HGo.out)).mono ?_); rintro e w6 ⟨rfl, hA⟩))
                      | (go_at_call 19; ((with_reducible refine (next_law _ _ hA HY.out HS2.out).mono ?_); rintro e w7 ⟨rfl, hB⟩; have hB2 := hB.alloc (.cells #[.int .i64 f, .int .i64 o, .string ⟨#[]⟩] 31))))
                    go_roundw
                    case rel => exact ⟨m + 1, by omega, by omega, by go_num, by rw [← HY2.out]; exact hB2⟩
                    case measure => simp [intOf]; omega
                  · have ab : (A == B) = false := by simp [hab]
                    rw [ab] at hgo
                    simp only [Bool.false_or, Bool.and_false] at hgo
                    clear hab
                    have hy2 := pS_no gl m ⟨f, o, ⟨#[]⟩⟩ hgo
                    have HY := Lib.hid (show ((pS gl m).send m ⟨f, o, ⟨#[]⟩⟩).L = [] by rw [hy2]; rfl)
                    have HY2 := Lib.hid hy2
                    clear hy2 hgo
                    go_wp2_with (first
                      | (go_at_call 15; ((with_reducible refine (send_law _ _ _ _ hl1 HSn.out (fun _ => HGo.out)).mono ?_); rintro e w6 ⟨rfl, hA⟩))
                      | (go_at_call 19; ((with_reducible refine (next_law0 hA HY.out).mono ?_); rintro e w7 ⟨rfl, hB⟩; have hB2 := hB.alloc (.cells #[.int .i64 0, .int .i64 0, .string ⟨#[]⟩] 31))))
                    go_roundw
                    case rel => exact ⟨m + 1, by omega, by omega, by go_num, by rw [← HY2.out]; exact hB2⟩
                    case measure => simp [intOf]; omega
              · have o8 : decide ((o : Int) < 8) = false := by simp; omega
                rw [decide_eq_false ho8] at hgo
                simp only [Bool.false_and] at hgo
                have hy2 := pS_no gl m ⟨f, o, ⟨#[]⟩⟩ hgo
                have HY := Lib.hid (show ((pS gl m).send m ⟨f, o, ⟨#[]⟩⟩).L = [] by rw [hy2]; rfl)
                have HY2 := Lib.hid hy2
                clear hy2 hgo
                go_wp2_with (first
                  | (go_at_call 15; ((with_reducible refine (send_law _ _ _ _ hl1 HSn.out (fun _ => HGo.out)).mono ?_); rintro e w6 ⟨rfl, hA⟩))
                  | (go_at_call 19; ((with_reducible refine (next_law0 hA HY.out).mono ?_); rintro e w7 ⟨rfl, hB⟩; have hB2 := hB.alloc (.cells #[.int .i64 0, .int .i64 0, .string ⟨#[]⟩] 31))))
                go_roundw
                case rel => exact ⟨m + 1, by omega, by omega, by go_num, by rw [← HY2.out]; exact hB2⟩
                case measure => simp [intOf]; omega
            · have hAll := hl
              have HF := Lib.hid (show ((((pS gl m).part []).send 0 ⟨0, 7, ⟨#[]⟩⟩).L.length : Int) = 1 by rfl)
              have HSn := Lib.hid (show ((pS gl m).part []).sent ≤ 9000 from (by omega : m ≤ 9000))
              have HGo := Lib.hid (show (-1000000000000 : Int) ≤ 0 ∧ (0 : Int) ≤ 1000000000000 ∧ ((pS gl m).part []).trb.delay ≤ 1000000000000 from ⟨by decide, by decide, by show (1 : Int) ≤ _; decide⟩)
              have hIn := intsR_nil wr
              by_cases hm2 : m < ps.length
              · have hm3 : ¬ m < 20 := by omega
                clear hlt3
                go_wp2_with (first
                  | (go_at_call 17; ((with_reducible refine (part_law _ [] hl hIn (fun g hg => by (simp [Value.ownBlock] at hg)) (by simp)).mono ?_); rintro e w6 ⟨rfl, hA⟩))
                  | (go_at_call 15; ((with_reducible refine (send_law 0 0 7 _ hA HSn.out (fun _ => HGo.out)).mono ?_); rintro e w7 ⟨rfl, hB⟩))
                  | (go_at_call 21; ((with_reducible refine (waiting_is 1 hB HF.out).mono ?_); rintro e w' ⟨rfl, rfl⟩)))
                go_ret
                exact ⟨rfl, hB.bel⟩
              · clear hlt3
                go_wp2_with (first
                  | (go_at_call 17; ((with_reducible refine (part_law _ [] hl hIn (fun g hg => by (simp [Value.ownBlock] at hg)) (by simp)).mono ?_); rintro e w6 ⟨rfl, hA⟩))
                  | (go_at_call 15; ((with_reducible refine (send_law 0 0 7 _ hA HSn.out (fun _ => HGo.out)).mono ?_); rintro e w7 ⟨rfl, hB⟩))
                  | (go_at_call 21; ((with_reducible refine (waiting_is 1 hB HF.out).mono ?_); rintro e w' ⟨rfl, rfl⟩)))
                go_ret
                exact ⟨rfl, hB.bel⟩
end Go.Proofs.Ytffijemgcgbjoaa
