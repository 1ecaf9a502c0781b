/- The net and the reference's net side by side, as the law sees them. -/
import Derived.Test.YtffijemgcgbjoaaMb
import Derived.Test.YtffijemgcgbjoaaMc
namespace Go.Proofs.Ytffijemgcgbjoaa
open Go.RowKit Nt Go.Maps

set_option maxRecDepth 100000 in
set_option maxHeartbeats 4000000 in
theorem part_any0 (p : Nat) (S : List Nat) (s : NS) (v : Value) (zs : List Int) (w : World) (h : NetAt w p S s) (hv : IntsR w v zs) (hd : 0 < zs.length → ∀ g, v.ownBlock = some g → g ∉ S) (hw : ∀ z ∈ zs, -9223372036854775808 ≤ z ∧ z ≤ 9223372036854775807) :
    Calls Try.prog 17 #[.pointer (some ⟨p, 0, none⟩), v] w fun e w' => e = .returned (.tuple #[]) ∧ ∃ S', NetAt w' p S' (s.part zs) ∧ Mv S S' w w' := by
  obtain ⟨A, Q, sv, gv, cv, rfl, hc, hg, hn, hsl⟩ := h
  obtain ⟨a, cap, rfl, hlen, hcell⟩ := hv
  have hlp : p < w.heap.size := hc.lt p (by simp)
  have hpne : ¬ p = w.heap.size := by omega
  have hmm := @run_makeMap Try.prog
  have c2 := hc.c2
  have f2 := hc.f2
  have hrow0 := (hc.row.put 2 (.map (some w.heap.size)) (by simp)).alloc (.map #[] 0)
  have hm0 : ((w.setCell ⟨p, 2, none⟩ (.map (some w.heap.size))).alloc (.map #[] 0)).ownsMap Try.prog 3 (plainElem (H := Unit) Try.prog 3) w.heap.size 0 (.map []) := by simpa using World.ownsMap_made (w.setCell ⟨p, 2, none⟩ (.map (some w.heap.size))) Try.prog 3 (plainElem (H := Unit) Try.prog 3)
  have ho0 : Only [p] w ((w.setCell ⟨p, 2, none⟩ (.map (some w.heap.size))).alloc (.map #[] 0)) := ((Only.refl _ _).setCell (by simp) _).trans (Only.of_below ((Below.refl _ _).alloc (Nat.le_refl _) _))
  go_enter Try.func17, Try.ntmps17
  go_wp2_with fail
  go_loopw [4, 5, 14] (fun _ _ i wr => ∃ (k : Nat) (D : DataW Unit), k ≤ zs.length ∧ i = .int .i64 k ∧ Row wr p [.int .i64 s.nodes, sv, .map (some w.heap.size), cv, .int .i64 s.sent] ∧ wr.ownsMap Try.prog 3 (plainElem Try.prog 3) w.heap.size k D ∧ Holds D (grk s.nodes zs k) ∧ Only [p] w wr) (fun _ _ i _ => zs.length - (intOf i).toNat)
  case atStart => exact ⟨0, _, Nat.zero_le _, rfl, hrow0, hm0, by rw [part_nil_holds]; exact holds_nil, ho0⟩
  case round =>
    obtain ⟨k, D, hk, rfl, hr, hm, hh, ho⟩ := hrel
    clear hm0 ho0 hrow0
    by_cases hlt : k < zs.length
    · obtain ⟨b, off, rfl, hb, hcl⟩ := hcell (by omega)
      have hce : wr.cell? ⟨b, off + k, none⟩ = some (.int .i64 (zs.getD k 0)) := cell_only (hcl k hlt) ho hb (fun hm => hd (by omega) b rfl (by simp at hm; simp [hm]))
      have hwz := hw (zs.getD k 0) (by rw [List.getD_eq_getElem?_getD, List.getElem?_eq_getElem hlt]; simp)
      generalize hz : zs.getD k 0 = z at hce hwz
      have HZ := Lib.hid hz
      have HH := Lib.hid hh
      clear hz hh hcl hcell hw
      have r0 := hr.at 0 rfl
      have r2 := hr.at 2 rfl
      by_cases hkn : (k : Int) < s.nodes
      · have HB := Lib.hid (nodeB_true.2 ⟨by omega, hkn⟩ : nodeB s.nodes k = true)
        go_wp2_with (first | (go_at_call 24; refine (node_any p s.nodes k _ r0).mono ?_; rw [HB.out]; rintro e w' ⟨rfl, rfl⟩) | (at_mapUpdate; refine wpList_mapUpdate_own _ rfl _ _ _ 52 rfl 3 3 int_law Try.underlying52 _ w.heap.size k _ rfl hm (by unfold maxLen; omega) _ _ _ rfl rfl (keyOf_int_mk Try.underlying3 (WalkArith.wf_i64 (by omega))) _ [] (plainElem_int Try.underlying3 (WalkArith.wf_i64 (by omega))) ?_; intro w1 hm1 hg1))
        have ho1 : Only [w.heap.size] wr w1 := only_grown hg1 (fun k hk => by simp at hk; simp [hk])
        go_roundw
        case rel => exact ⟨k + 1, _, by omega, by go_num, hr.only ho1 (by simp; omega), hm1, by rw [← HZ.out]; exact HH.out.put hm.isMap hkn, ho.trans_new ho1 (fun k hk => .inr (by simp at hk; omega))⟩
        case measure => simp [intOf]; omega
      · have HB := Lib.hid (nodeB_false.2 (by omega) : nodeB s.nodes k = false)
        go_wp2_with (go_at_call 24; refine (node_any p s.nodes k _ r0).mono ?_; rw [HB.out]; rintro e w' ⟨rfl, rfl⟩)
        go_roundw
        case rel => exact ⟨k + 1, _, by omega, by go_num, hr, hm.mono (by omega), by rw [grk_skip _ _ _ (by omega)]; exact HH.out, ho⟩
        case measure => simp [intOf]; omega
    · go_wp2_with fail
      go_end0
      obtain rfl : k = zs.length := by omega
      have hf := part_end hc rfl hr hm hh ho
      refine ⟨rfl, _, ⟨_, _, _, _, _, rfl, hf, hg.part zs, hn, hsl⟩, ho.mono (by simp), fun k hk => ?_⟩
      simp only [List.mem_cons, List.cons_append] at hk ⊢
      rcases hk with hk | hk | hk
      · exact .inl (.inl hk)
      · exact .inr (by omega)
      · exact .inl (.inr hk)
/-- both nets, and rows of the law's own beside them -/
def LawP (W w : World) (p : Nat) (s : NS) (q : Nat) (r : RS) (R : List (Nat × List Value)) : Prop := ∃ S T, NetAt w p S s ∧ RefAt w q T r ∧ (∀ k, k ∈ S → W.heap.size ≤ k) ∧ (∀ k, k ∈ T → W.heap.size ≤ k) ∧ (∀ k, k ∈ S → k ∉ T) ∧ Below W.heap.size W w ∧ ∀ x, x ∈ R → Row w x.1 x.2 ∧ x.1 ∉ S ∧ x.1 ∉ T
section
variable {W w w' : World} {p q : Nat} {s s' : NS} {r r' : RS} {R : List (Nat × List Value)}
theorem LawP.bel (h : LawP W w p s q r R) : Below W.heap.size W w := by obtain ⟨_, _, _, _, _, _, _, h, _⟩ := h; exact h
theorem LawP.row (h : LawP W w p s q r R) {g : Nat} {vs : List Value} (hr : (g, vs) ∈ R) : Row w g vs := by obtain ⟨_, _, _, _, _, _, _, _, h⟩ := h; exact (h _ hr).1
theorem LawP.drop {R' : List (Nat × List Value)} (h : LawP W w p s q r R) (hr : ∀ x, x ∈ R' → x ∈ R) : LawP W w p s q r R' := by
  obtain ⟨S, T, h1, h2, h3, h4, h5, h6, h7⟩ := h
  exact ⟨S, T, h1, h2, h3, h4, h5, h6, fun x hx => h7 x (hr x hx)⟩
theorem LawP.below (h : LawP W w p s q r R) (hb : Below w.heap.size w w') : LawP W w' p s q r R := by
  obtain ⟨S, T, h1, h2, h3, h4, h5, h6, h7⟩ := h
  exact ⟨S, T, h1.below hb, h2.below hb, h3, h4, h5, h6.trans (hb.mono h6.size), fun x hx => ⟨(h7 x hx).1.below hb, (h7 x hx).2⟩⟩
theorem LawP.good (h : LawP W w p s q r R) : Nt.Good s := by
  obtain ⟨S, T, ⟨A, Q, sv, gv, cv, rfl, hc, hg, _⟩, _⟩ := h
  exact hg
/-- a new row -/
theorem LawP.new (h : LawP W w p s q r R) (g : Nat) (hg : g = w.heap.size) (vs : List Value) (ty : TypeId) : LawP W (w.alloc (.cells vs.toArray ty)) p s q r ((g, vs) :: R) := by
  have hb : Below w.heap.size w (w.alloc (.cells vs.toArray ty)) := (Below.refl _ _).alloc (Nat.le_refl _) _
  obtain ⟨S, T, h1, h2, h3, h4, h5, h6, h7⟩ := h
  refine ⟨S, T, h1.below hb, h2.below hb, h3, h4, h5, h6.trans (hb.mono h6.size), fun x hx => ?_⟩
  rcases List.mem_cons.1 hx with rfl | hx
  · exact ⟨Row.new w g hg vs ty, fun hm => by have := h1.lt _ hm; simp only at this; omega, fun hm => by have := h2.lt _ hm; simp only at this; omega⟩
  · exact ⟨(h7 x hx).1.below hb, (h7 x hx).2⟩
/-- behind a call that turns the net -/
theorem LawP.moved {S S' T : List Nat} (_h1 : NetAt w p S s) (h2 : RefAt w q T r) (h3 : ∀ k, k ∈ S → W.heap.size ≤ k) (h4 : ∀ k, k ∈ T → W.heap.size ≤ k) (h5 : ∀ k, k ∈ S → k ∉ T) (h6 : Below W.heap.size W w) (h7 : ∀ x, x ∈ R → Row w x.1 x.2 ∧ x.1 ∉ S ∧ x.1 ∉ T) (h' : NetAt w' p S' s') (hm : Mv S S' w w') : LawP W w' p s' q r R := by
  obtain ⟨a, b⟩ := hm.own h3 h6 h6.size
  refine ⟨S', T, h', h2.only hm.only (fun k hk hs => h5 k hs hk), a, h4, fun k hk hT => ?_, b, fun x hx => ⟨((h7 x hx).1.mv hm (h7 x hx).2.1).1, ((h7 x hx).1.mv hm (h7 x hx).2.1).2, (h7 x hx).2.2⟩⟩
  rcases hm.new k hk with hk | hk
  · exact h5 k hk hT
  · have := h2.lt k hT; omega
/-- behind a call that turns the reference's net -/
theorem LawP.rmoved {S T T' : List Nat} (h1 : NetAt w p S s) (_h2 : RefAt w q T r) (h3 : ∀ k, k ∈ S → W.heap.size ≤ k) (h4 : ∀ k, k ∈ T → W.heap.size ≤ k) (h5 : ∀ k, k ∈ S → k ∉ T) (h6 : Below W.heap.size W w) (h7 : ∀ x, x ∈ R → Row w x.1 x.2 ∧ x.1 ∉ S ∧ x.1 ∉ T) (h' : RefAt w' q T' r') (hm : Mv T T' w w') : LawP W w' p s q r' R := by
  obtain ⟨a, b⟩ := hm.own h4 h6 h6.size
  refine ⟨S, T', h1.only hm.only (fun k hk hs => h5 k hk hs), h', h3, a, fun k hk hT => ?_, b, fun x hx => ⟨((h7 x hx).1.mv hm (h7 x hx).2.2).1, (h7 x hx).2.1, ((h7 x hx).1.mv hm (h7 x hx).2.2).2⟩⟩
  rcases hm.new k hT with hT | hT
  · exact h5 k hk hT
  · have := h1.lt k hk; omega
theorem lawP_of_new {e : Ending} (h0 : LawN W w p s R) (h : RetRef r w e w') : ∃ q, e = .returned (.pointer (some ⟨q, 0, none⟩)) ∧ LawP W w' p s q r R := by
  obtain ⟨q, T, he, h1, h2, h3⟩ := h
  obtain ⟨S, k1, k2, k3, k4⟩ := h0
  refine ⟨q, he, S, T, k1.below h3, h1, k2, fun k hk => Nat.le_trans k3.size (h2 k hk), fun k hk hT => ?_, k3.trans (h3.mono k3.size), fun x hx => ⟨(k4 x hx).1.below h3, (k4 x hx).2, fun hm => ?_⟩⟩
  · have := k1.lt k hk; have := h2 k hT; omega
  · have := h2 _ hm; have := (k4 x hx).1.lt; omega
end
section
variable {W w : World} {p q : Nat} {s : NS} {r : RS} {R : List (Nat × List Value)}
theorem send_p (now f o : Int) (tx : ByteArray) (h : LawP W w p s q r R) (hs : s.sent ≤ 9000) (hn : s.goes ⟨f, o, tx⟩ = true → -1000000000000 ≤ now ∧ now ≤ 1000000000000 ∧ s.trb.delay ≤ 1000000000000) :
    Calls Try.prog 15 #[.pointer (some ⟨p, 0, none⟩), .int .i64 now, .agg #[.int .i64 f, .int .i64 o, .string tx]] w fun e w' => e = .returned (.tuple #[]) ∧ LawP W w' p (s.send now ⟨f, o, tx⟩) q r R := by
  obtain ⟨S, T, h1, h2, h3, h4, h5, h6, h7⟩ := h
  exact (send_any p S s now ⟨f, o, tx⟩ w h1 hs hn).mono fun _ _ ⟨he, S', h', hm⟩ => ⟨he, LawP.moved h1 h2 h3 h4 h5 h6 h7 h' hm⟩
theorem rsend_p (now f o : Int) (tx : ByteArray) (h : LawP W w p s q r R) (hs : r.sent ≤ 9000) (hn : r.goes ⟨f, o, tx⟩ = true → -1000000000000 ≤ now ∧ now ≤ 1000000000000 ∧ r.trb.delay ≤ 1000000000000) :
    Calls Try.prog 16 #[.pointer (some ⟨q, 0, none⟩), .int .i64 now, .agg #[.int .i64 f, .int .i64 o, .string tx]] w fun e w' => e = .returned (.tuple #[]) ∧ LawP W w' p s q (r.send now ⟨f, o, tx⟩) R := by
  obtain ⟨S, T, h1, h2, h3, h4, h5, h6, h7⟩ := h
  exact (rsend_any q T r now ⟨f, o, tx⟩ w h2 hs hn).mono fun _ _ ⟨he, S', h', hm⟩ => ⟨he, LawP.rmoved h1 h2 h3 h4 h5 h6 h7 h' hm⟩
theorem next_p0 (h : LawP W w p s q r R) (hL : s.L = []) :
    Calls Try.prog 19 #[.pointer (some ⟨p, 0, none⟩)] w fun e w' => e = .returned (.tuple #[.agg #[.int .i64 0, .int .i64 0, .string ⟨#[]⟩], .int .i64 0, .bool false]) ∧ LawP W w' p s q r R := by
  have h' := h
  obtain ⟨S, T, h1, h2, h3, h4, h5, h6, h7⟩ := h
  exact (next_none p S s w h1 hL).mono fun _ _ ⟨he, hb⟩ => ⟨he, h'.below hb⟩
theorem rnext_p0 (h : LawP W w p s q r R) (hL : r.L = []) :
    Calls Try.prog 20 #[.pointer (some ⟨q, 0, none⟩)] w fun e w' => e = .returned (.tuple #[.agg #[.int .i64 0, .int .i64 0, .string ⟨#[]⟩], .int .i64 0, .bool false]) ∧ LawP W w' p s q r R := by
  have h' := h
  obtain ⟨S, T, h1, h2, h3, h4, h5, h6, h7⟩ := h
  exact (rnext_none q T r w h2 hL).mono fun _ _ ⟨he, hb⟩ => ⟨he, h'.below hb⟩
theorem next_p (x : Wt) (L' : List Wt) (h : LawP W w p s q r R) (hL : s.L = x :: L') (hs : s.sent ≤ 10000) :
    Calls Try.prog 19 #[.pointer (some ⟨p, 0, none⟩)] w fun e w' => e = .returned (.tuple #[.agg #[.int .i64 x.fr, .int .i64 x.to, .string x.text], .int .i64 x.time, .bool true]) ∧ LawP W w' p s.next q r R := by
  obtain ⟨S, T, h1, h2, h3, h4, h5, h6, h7⟩ := h
  exact (next_some p S s x L' w h1 hL hs).mono fun _ _ ⟨he, h', hm⟩ => ⟨he, LawP.moved h1 h2 h3 h4 h5 h6 h7 h' hm⟩
theorem rnext_p (x : Wt) (h : LawP W w p s q r R) (hL : 0 < r.L.length) (hx : at' r.L r.bst = x) (hs : r.sent ≤ 10000) :
    Calls Try.prog 20 #[.pointer (some ⟨q, 0, none⟩)] w fun e w' => e = .returned (.tuple #[.agg #[.int .i64 x.fr, .int .i64 x.to, .string x.text], .int .i64 x.time, .bool true]) ∧ LawP W w' p s q r.next R := by
  subst hx
  obtain ⟨S, T, h1, h2, h3, h4, h5, h6, h7⟩ := h
  exact (rnext_some q T r w h2 hL hs).mono fun _ _ ⟨he, T', h', hm⟩ => ⟨he, LawP.rmoved h1 h2 h3 h4 h5 h6 h7 h' hm⟩
theorem waiting_p (n : Int) (h : LawP W w p s q r R) (hn : (s.L.length : Int) = n) :
    Calls Try.prog 21 #[.pointer (some ⟨p, 0, none⟩)] w fun e w' => e = .returned (.int .i64 n) ∧ w = w' := by
  subst hn
  obtain ⟨S, T, h1, _⟩ := h
  exact waiting_any p S s w h1
theorem rwaiting_p (n : Int) (h : LawP W w p s q r R) (hn : (r.L.length : Int) = n) :
    Calls Try.prog 22 #[.pointer (some ⟨q, 0, none⟩)] w fun e w' => e = .returned (.int .i64 n) ∧ w = w' := by
  subst hn
  obtain ⟨S, T, h1, h2, _⟩ := h
  exact rwaiting_any q T r w h2
theorem intsR_W {v : Value} {zs : List Int} (h : LawP W w p s q r R) (hv : IntsR W v zs) : IntsR w v zs := hv.only (Only.of_below (S := []) h.bel) (by simp)
theorem part_p (v : Value) (zs : List Int) (h : LawP W w p s q r R) (hv : IntsR W v zs) (hw : ∀ z ∈ zs, -9223372036854775808 ≤ z ∧ z ≤ 9223372036854775807) :
    Calls Try.prog 17 #[.pointer (some ⟨p, 0, none⟩), v] w fun e w' => e = .returned (.tuple #[]) ∧ LawP W w' p (s.part zs) q r R := by
  have hv' := intsR_W h hv
  obtain ⟨S, T, h1, h2, h3, h4, h5, h6, h7⟩ := h
  refine (part_any0 p S s v zs w h1 hv' (fun h0 g hg hm => ?_) hw).mono fun _ _ ⟨he, S', h', hm⟩ => ⟨he, LawP.moved h1 h2 h3 h4 h5 h6 h7 h' hm⟩
  obtain ⟨a, cap, rfl, _, hc⟩ := hv
  obtain ⟨b, off, rfl, hb, _⟩ := hc h0
  obtain rfl : b = g := by simpa [Value.ownBlock] using hg
  have := h3 b hm; omega
theorem rpart_p (v : Value) (zs : List Int) (h : LawP W w p s q r R) (hv : IntsR W v zs) (hnil : v = .slice none 0 0 ∨ v.ownBlock ≠ none) (hl : zs.length * 8 ≤ 140737488355328) :
    Calls Try.prog 18 #[.pointer (some ⟨q, 0, none⟩), v] w fun e w' => e = .returned (.tuple #[]) ∧ LawP W w' p s q (r.part zs) R := by
  have hv' := intsR_W h hv
  obtain ⟨S, T, h1, h2, h3, h4, h5, h6, h7⟩ := h
  exact (rpart_any q T r v zs w h2 hv' hnil hl).mono fun _ _ ⟨he, S', h', hm⟩ => ⟨he, LawP.rmoved h1 h2 h3 h4 h5 h6 h7 h' hm⟩
end
end Go.Proofs.Ytffijemgcgbjoaa
