/- The net's methods as a law sees them: all that is changed is the law's own. -/
import Derived.Test.YtffijemgcgbjoaaNe
namespace Go.Proofs.Ytffijemgcgbjoaa
open Go.RowKit Nt

/-- a net of the law's own at p, and rows of the law's own beside it -/
def LawN (W w : World) (p : Nat) (s : NS) (R : List (Nat × List Value)) : Prop := ∃ S, NetAt w p S s ∧ (∀ k, k ∈ S → W.heap.size ≤ k) ∧ Below W.heap.size W w ∧ ∀ r, r ∈ R → Row w r.1 r.2 ∧ r.1 ∉ S
/-- two nets -/
def LawM (W w : World) (p : Nat) (s : NS) (q : Nat) (t : NS) (R : List (Nat × List Value)) : Prop := ∃ S T, NetAt w p S s ∧ NetAt w q T t ∧ (∀ k, k ∈ S → W.heap.size ≤ k) ∧ (∀ k, k ∈ T → W.heap.size ≤ k) ∧ (∀ k, k ∈ S → k ∉ T) ∧ Below W.heap.size W w ∧ ∀ r, r ∈ R → Row w r.1 r.2 ∧ r.1 ∉ S ∧ r.1 ∉ T
section
variable {W w w' : World} {p q : Nat} {s t s' : NS} {R : List (Nat × List Value)}
theorem LawN.bel (h : LawN W w p s R) : Below W.heap.size W w := by obtain ⟨_, _, _, h, _⟩ := h; exact h
theorem LawM.bel (h : LawM W w p s q t R) : Below W.heap.size W w := by obtain ⟨_, _, _, _, _, _, _, h, _⟩ := h; exact h
theorem LawN.row (h : LawN W w p s R) {g : Nat} {vs : List Value} (hr : (g, vs) ∈ R) : Row w g vs := by obtain ⟨_, _, _, _, h⟩ := h; exact (h _ hr).1
theorem LawM.row (h : LawM W w p s q t R) {g : Nat} {vs : List Value} (hr : (g, vs) ∈ R) : Row w g vs := by obtain ⟨_, _, _, _, _, _, _, _, h⟩ := h; exact (h _ hr).1
theorem LawN.drop {R' : List (Nat × List Value)} (h : LawN W w p s R) (hr : ∀ r, r ∈ R' → r ∈ R) : LawN W w p s R' := by
  obtain ⟨S, h1, h2, h3, h4⟩ := h
  exact ⟨S, h1, h2, h3, fun r hr' => h4 r (hr r hr')⟩
theorem LawM.drop {R' : List (Nat × List Value)} (h : LawM W w p s q t R) (hr : ∀ r, r ∈ R' → r ∈ R) : LawM W w p s q t R' := by
  obtain ⟨S, T, h1, h2, h3, h4, h5, h6, h7⟩ := h
  exact ⟨S, T, h1, h2, h3, h4, h5, h6, fun r hr' => h7 r (hr r hr')⟩
theorem LawN.below (h : LawN W w p s R) (hb : Below w.heap.size w w') : LawN W w' p s R := by
  obtain ⟨S, h1, h2, h3, h4⟩ := h
  exact ⟨S, h1.below hb, h2, h3.trans (hb.mono h3.size), fun r hr => ⟨(h4 r hr).1.below hb, (h4 r hr).2⟩⟩
theorem LawM.below (h : LawM W w p s q t R) (hb : Below w.heap.size w w') : LawM W w' p s q t R := by
  obtain ⟨S, T, h1, h2, h3, h4, h5, h6, h7⟩ := h
  exact ⟨S, T, h1.below hb, h2.below hb, h3, h4, h5, h6.trans (hb.mono h6.size), fun r hr => ⟨(h7 r hr).1.below hb, (h7 r hr).2⟩⟩
theorem LawN.alloc (h : LawN W w p s R) (o : Obj) : LawN W (w.alloc o) p s R := h.below ((Below.refl _ _).alloc (Nat.le_refl _) _)
theorem LawM.alloc (h : LawM W w p s q t R) (o : Obj) : LawM W (w.alloc o) p s q t R := h.below ((Below.refl _ _).alloc (Nat.le_refl _) _)
theorem LawN.drew (h : LawN W w p s R) : LawN W w.drew p s R := h.below (Below.refl _ _).drew
theorem LawM.drew (h : LawM W w p s q t R) : LawM W w.drew p s q t R := h.below (Below.refl _ _).drew
/-- a new row -/
theorem LawN.new (h : LawN W w p s R) (g : Nat) (hg : g = w.heap.size) (vs : List Value) (ty : TypeId) : LawN W (w.alloc (.cells vs.toArray ty)) p s ((g, vs) :: R) := by
  have hb : Below w.heap.size w (w.alloc (.cells vs.toArray ty)) := (Below.refl _ _).alloc (Nat.le_refl _) _
  obtain ⟨S, h1, h2, h3, h4⟩ := h
  refine ⟨S, h1.below hb, h2, h3.trans (hb.mono h3.size), fun r hr => ?_⟩
  rcases List.mem_cons.1 hr with rfl | hr
  · exact ⟨Row.new w g hg vs ty, fun hm => by have := h1.lt _ hm; simp only at this; omega⟩
  · exact ⟨(h4 r hr).1.below hb, (h4 r hr).2⟩
theorem LawM.new (h : LawM W w p s q t R) (g : Nat) (hg : g = w.heap.size) (vs : List Value) (ty : TypeId) : LawM W (w.alloc (.cells vs.toArray ty)) p s q t ((g, vs) :: R) := by
  have hb : Below w.heap.size w (w.alloc (.cells vs.toArray ty)) := (Below.refl _ _).alloc (Nat.le_refl _) _
  obtain ⟨S, T, h1, h2, h3, h4, h5, h6, h7⟩ := h
  refine ⟨S, T, h1.below hb, h2.below hb, h3, h4, h5, h6.trans (hb.mono h6.size), fun r hr => ?_⟩
  rcases List.mem_cons.1 hr with rfl | hr
  · exact ⟨Row.new w g hg vs ty, fun hm => by have := h1.lt _ hm; simp only at this; omega, fun hm => by have := h2.lt _ hm; simp only at this; omega⟩
  · exact ⟨(h7 r hr).1.below hb, (h7 r hr).2⟩
theorem LawM.symm (h : LawM W w p s q t R) : LawM W w q t p s R := by
  obtain ⟨S, T, h1, h2, h3, h4, h5, h6, h7⟩ := h
  exact ⟨T, S, h2, h1, h4, h3, fun k hk hs => h5 k hs hk, h6, fun r hr => ⟨(h7 r hr).1, (h7 r hr).2.2, (h7 r hr).2.1⟩⟩
/-- behind a call that turns the net at p -/
theorem LawN.moved {S S' : List Nat} (_h1 : NetAt w p S s) (h2 : ∀ k, k ∈ S → W.heap.size ≤ k) (h3 : Below W.heap.size W w) (h4 : ∀ r, r ∈ R → Row w r.1 r.2 ∧ r.1 ∉ S) (h' : NetAt w' p S' s') (hm : Mv S S' w w') : LawN W w' p s' R := by
  obtain ⟨a, b⟩ := hm.own h2 h3 h3.size
  exact ⟨S', h', a, b, fun r hr => (h4 r hr).1.mv hm (h4 r hr).2⟩
theorem LawM.moved {S S' T : List Nat} (_h1 : NetAt w p S s) (h2 : NetAt w q T t) (h3 : ∀ k, k ∈ S → W.heap.size ≤ k) (h4 : ∀ k, k ∈ T → W.heap.size ≤ k) (h5 : ∀ k, k ∈ S → k ∉ T) (h6 : Below W.heap.size W w) (h7 : ∀ r, r ∈ R → Row w r.1 r.2 ∧ r.1 ∉ S ∧ r.1 ∉ T) (h' : NetAt w' p S' s') (hm : Mv S S' w w') : LawM W w' p s' q t R := by
  obtain ⟨a, b⟩ := hm.own h3 h6 h6.size
  refine ⟨S', T, h', h2.only hm.only (fun k hk hs => h5 k hs hk), a, h4, fun k hk hT => ?_, b, fun r hr => ⟨((h7 r hr).1.mv hm (h7 r hr).2.1).1, ((h7 r hr).1.mv hm (h7 r hr).2.1).2, (h7 r hr).2.2⟩⟩
  rcases hm.new k hk with hk | hk
  · exact h5 k hk hT
  · have := h2.lt k hT; omega
/-- a new net -/
theorem lawN_of_new {e : Ending} (hb : Below W.heap.size W w) (h : RetNet s w e w') (hR : ∀ r, r ∈ R → Row w r.1 r.2) : ∃ p, e = .returned (.pointer (some ⟨p, 0, none⟩)) ∧ LawN W w' p s R := by
  obtain ⟨p, S, he, h1, h2, h3⟩ := h
  refine ⟨p, he, S, h1, fun k hk => Nat.le_trans hb.size (h2 k hk), hb.trans (h3.mono hb.size), fun r hr => ⟨(hR r hr).below h3, fun hm => ?_⟩⟩
  have := h2 _ hm; have := (hR r hr).lt; omega
theorem lawM_of_new {e : Ending} (h0 : LawN W w p s R) (h : RetNet t w e w') : ∃ q, e = .returned (.pointer (some ⟨q, 0, none⟩)) ∧ LawM W w' p s q t R := by
  obtain ⟨q, T, he, h1, h2, h3⟩ := h
  obtain ⟨S, k1, k2, k3, k4⟩ := h0
  refine ⟨q, he, S, T, k1.below h3, h1, k2, fun k hk => Nat.le_trans k3.size (h2 k hk), fun k hk hT => ?_, k3.trans (h3.mono k3.size), fun r hr => ⟨(k4 r hr).1.below h3, (k4 r hr).2, fun hm => ?_⟩⟩
  · have := k1.lt k hk; have := h2 k hT; omega
  · have := h2 _ hm; have := (k4 r hr).1.lt; omega
end
section
variable {W w : World} {p q : Nat} {s t : NS} {R : List (Nat × List Value)}
theorem send_law (now f o : Int) (tx : ByteArray) (h : LawN W w p s R) (hs : s.sent ≤ 9000) (hn : s.goes ⟨f, o, tx⟩ = true → -1000000000000 ≤ now ∧ now ≤ 1000000000000 ∧ s.trb.delay ≤ 1000000000000) :
    Calls Try.prog 15 #[.pointer (some ⟨p, 0, none⟩), .int .i64 now, .agg #[.int .i64 f, .int .i64 o, .string tx]] w fun e w' => e = .returned (.tuple #[]) ∧ LawN W w' p (s.send now ⟨f, o, tx⟩) R := by
  obtain ⟨S, h1, h2, h3, h4⟩ := h
  exact (send_any p S s now ⟨f, o, tx⟩ w h1 hs hn).mono fun _ _ ⟨he, S', h', hm⟩ => ⟨he, LawN.moved h1 h2 h3 h4 h' hm⟩
theorem send_law2 (now f o : Int) (tx : ByteArray) (h : LawM W w p s q t R) (hs : s.sent ≤ 9000) (hn : s.goes ⟨f, o, tx⟩ = true → -1000000000000 ≤ now ∧ now ≤ 1000000000000 ∧ s.trb.delay ≤ 1000000000000) :
    Calls Try.prog 15 #[.pointer (some ⟨p, 0, none⟩), .int .i64 now, .agg #[.int .i64 f, .int .i64 o, .string tx]] w fun e w' => e = .returned (.tuple #[]) ∧ LawM W w' p (s.send now ⟨f, o, tx⟩) q t R := by
  obtain ⟨S, T, h1, h2, h3, h4, h5, h6, h7⟩ := h
  exact (send_any p S s now ⟨f, o, tx⟩ w h1 hs hn).mono fun _ _ ⟨he, S', h', hm⟩ => ⟨he, LawM.moved h1 h2 h3 h4 h5 h6 h7 h' hm⟩
theorem next_law0 (h : LawN W w p s R) (hL : s.L = []) :
    Calls Try.prog 19 #[.pointer (some ⟨p, 0, none⟩)] w fun e w' => e = .returned (.tuple #[.agg #[.int .i64 0, .int .i64 0, .string ⟨#[]⟩], .int .i64 0, .bool false]) ∧ LawN W w' p s R := by
  have h' := h
  obtain ⟨S, h1, h2, h3, h4⟩ := h
  exact (next_none p S s w h1 hL).mono fun _ _ ⟨he, hb⟩ => ⟨he, h'.below hb⟩
theorem next_law20 (h : LawM W w p s q t R) (hL : s.L = []) :
    Calls Try.prog 19 #[.pointer (some ⟨p, 0, none⟩)] w fun e w' => e = .returned (.tuple #[.agg #[.int .i64 0, .int .i64 0, .string ⟨#[]⟩], .int .i64 0, .bool false]) ∧ LawM W w' p s q t R := by
  have h' := h
  obtain ⟨S, T, h1, h2, h3, h4, h5, h6, h7⟩ := h
  exact (next_none p S s w h1 hL).mono fun _ _ ⟨he, hb⟩ => ⟨he, h'.below hb⟩
theorem next_law (x : Wt) (L' : List Wt) (h : LawN W w p s R) (hL : s.L = x :: L') (hs : s.sent ≤ 10000) :
    Calls Try.prog 19 #[.pointer (some ⟨p, 0, none⟩)] w fun e w' => e = .returned (.tuple #[.agg #[.int .i64 x.fr, .int .i64 x.to, .string x.text], .int .i64 x.time, .bool true]) ∧ LawN W w' p s.next R := by
  obtain ⟨S, h1, h2, h3, h4⟩ := h
  exact (next_some p S s x L' w h1 hL hs).mono fun _ _ ⟨he, h', hm⟩ => ⟨he, LawN.moved h1 h2 h3 h4 h' hm⟩
theorem next_law2 (x : Wt) (L' : List Wt) (h : LawM W w p s q t R) (hL : s.L = x :: L') (hs : s.sent ≤ 10000) :
    Calls Try.prog 19 #[.pointer (some ⟨p, 0, none⟩)] w fun e w' => e = .returned (.tuple #[.agg #[.int .i64 x.fr, .int .i64 x.to, .string x.text], .int .i64 x.time, .bool true]) ∧ LawM W w' p s.next q t R := by
  obtain ⟨S, T, h1, h2, h3, h4, h5, h6, h7⟩ := h
  exact (next_some p S s x L' w h1 hL hs).mono fun _ _ ⟨he, h', hm⟩ => ⟨he, LawM.moved h1 h2 h3 h4 h5 h6 h7 h' hm⟩
theorem waiting_law (h : LawN W w p s R) :
    Calls Try.prog 21 #[.pointer (some ⟨p, 0, none⟩)] w fun e w' => e = .returned (.int .i64 s.L.length) ∧ w = w' := by
  obtain ⟨S, h1, _⟩ := h
  exact waiting_any p S s w h1
theorem waiting_law2 (h : LawM W w p s q t R) :
    Calls Try.prog 21 #[.pointer (some ⟨p, 0, none⟩)] w fun e w' => e = .returned (.int .i64 s.L.length) ∧ w = w' := by
  obtain ⟨S, T, h1, _⟩ := h
  exact waiting_any p S s w h1
theorem waiting_is (n : Int) (h : LawN W w p s R) (hn : (s.L.length : Int) = n) :
    Calls Try.prog 21 #[.pointer (some ⟨p, 0, none⟩)] w fun e w' => e = .returned (.int .i64 n) ∧ w = w' := by
  rw [← hn]; exact waiting_law h
/-- Part over a row of the law's own -/
theorem part_law (v : Value) (zs : List Int) (h : LawN W w p s R) (hv : IntsR w v zs) (hd : ∀ g, v.ownBlock = some g → g < W.heap.size ∨ ∃ vs, (g, vs) ∈ R) (hw : ∀ z ∈ zs, -9223372036854775808 ≤ z ∧ z ≤ 9223372036854775807) :
    Calls Try.prog 17 #[.pointer (some ⟨p, 0, none⟩), v] w fun e w' => e = .returned (.tuple #[]) ∧ LawN W w' p (s.part zs) R := by
  obtain ⟨S, h1, h2, h3, h4⟩ := h
  refine (part_any p S s v zs w h1 hv (fun g hg hm => ?_) hw).mono fun _ _ ⟨he, S', h', hm⟩ => ⟨he, LawN.moved h1 h2 h3 h4 h' hm⟩
  rcases hd g hg with h | ⟨vs, h⟩
  · have := h2 g hm; omega
  · exact (h4 _ h).2 hm
theorem part_law2 (v : Value) (zs : List Int) (h : LawM W w p s q t R) (hv : IntsR w v zs) (hd : ∀ g, v.ownBlock = some g → g < W.heap.size ∨ ∃ vs, (g, vs) ∈ R) (hw : ∀ z ∈ zs, -9223372036854775808 ≤ z ∧ z ≤ 9223372036854775807) :
    Calls Try.prog 17 #[.pointer (some ⟨p, 0, none⟩), v] w fun e w' => e = .returned (.tuple #[]) ∧ LawM W w' p (s.part zs) q t R := by
  obtain ⟨S, T, h1, h2, h3, h4, h5, h6, h7⟩ := h
  refine (part_any p S s v zs w h1 hv (fun g hg hm => ?_) hw).mono fun _ _ ⟨he, S', h', hm⟩ => ⟨he, LawM.moved h1 h2 h3 h4 h5 h6 h7 h' hm⟩
  rcases hd g hg with h | ⟨vs, h⟩
  · have := h3 g hm; omega
  · exact (h7 _ h).2.1 hm
end
/-- a row of ints as a slice -/
theorem intsR_row {w : World} {g : Nat} {zs : List Int} (cap : Nat) (h : Row w g (zs.map (Value.int .i64))) (hl : zs.length ≤ 1000000) : IntsR w (.slice (some ⟨g, 0, none⟩) zs.length cap) zs :=
  ⟨_, cap, rfl, by omega, fun _ => ⟨g, 0, rfl, h.lt, fun i hi => by rw [Nat.zero_add]; exact h.at i (by simp [hi])⟩⟩
theorem part_row {W w : World} {p : Nat} {s : NS} {R : List (Nat × List Value)} (g : Nat) (zs : List Int) (n cap : Nat) (h : LawN W w p s ((g, zs.map (Value.int .i64)) :: R)) (hn : n = zs.length) (hl : zs.length ≤ 1000000) (hw : ∀ z ∈ zs, -9223372036854775808 ≤ z ∧ z ≤ 9223372036854775807) :
    Calls Try.prog 17 #[.pointer (some ⟨p, 0, none⟩), .slice (some ⟨g, 0, none⟩) n cap] w fun e w' => e = .returned (.tuple #[]) ∧ LawN W w' p (s.part zs) ((g, zs.map (Value.int .i64)) :: R) := by
  subst hn
  exact part_law _ zs h (intsR_row cap (h.row (.head _)) hl) (fun g' hg => .inr ⟨_, by simp [Value.ownBlock] at hg; subst hg; exact .head _⟩) hw
theorem part_row2 {W w : World} {p q : Nat} {s t : NS} {R : List (Nat × List Value)} (g : Nat) (zs : List Int) (n cap : Nat) (h : LawM W w p s q t ((g, zs.map (Value.int .i64)) :: R)) (hn : n = zs.length) (hl : zs.length ≤ 1000000) (hw : ∀ z ∈ zs, -9223372036854775808 ≤ z ∧ z ≤ 9223372036854775807) :
    Calls Try.prog 17 #[.pointer (some ⟨p, 0, none⟩), .slice (some ⟨g, 0, none⟩) n cap] w fun e w' => e = .returned (.tuple #[]) ∧ LawM W w' p (s.part zs) q t ((g, zs.map (Value.int .i64)) :: R) := by
  subst hn
  exact part_law2 _ zs h (intsR_row cap (h.row (.head _)) hl) (fun g' hg => .inr ⟨_, by simp [Value.ownBlock] at hg; subst hg; exact .head _⟩) hw
theorem waiting_is2 {W w : World} {p q : Nat} {s t : NS} {R : List (Nat × List Value)} (n : Int) (h : LawM W w p s q t R) (hn : (s.L.length : Int) = n) :
    Calls Try.prog 21 #[.pointer (some ⟨p, 0, none⟩)] w fun e w' => e = .returned (.int .i64 n) ∧ w = w' := by
  rw [← hn]; exact waiting_law2 h
theorem goes_none {s : NS} {m : Msg} (h : s.nodes ≤ 0) : s.goes m = false := by
  have : nodeB s.nodes m.to = false := nodeB_false.2 (by omega)
  simp [NS.goes, NS.node, this]
theorem send_none {s : NS} {m : Msg} {now : Int} (h : s.nodes ≤ 0) : (s.send now m).L = s.L := by
  unfold NS.send; rw [if_neg (by simp [goes_none h])]
theorem intsR_nil (w : World) : IntsR w (.slice none 0 0) [] := ⟨_, 0, rfl, by simp, by simp⟩
end Go.Proofs.Ytffijemgcgbjoaa
