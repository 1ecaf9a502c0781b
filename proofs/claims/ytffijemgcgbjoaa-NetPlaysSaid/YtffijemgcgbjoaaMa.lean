/- The reference's net in memory; New, Waiting, group, Part. -/
import Derived.Test.YtffijemgcgbjoaaM0
import Derived.Test.YtffijemgcgbjoaaO9
namespace Go.Proofs.Ytffijemgcgbjoaa
open Go.RowKit Nt

def rcells (x : Wt) : List Value := [.int .i64 x.fr, .int .i64 x.to, .string x.text, .int .i64 x.time, .int .i64 x.number]
def rflat (l : List Wt) : List Value := l.flatMap rcells
theorem rflat_len (l : List Wt) : (rflat l).length = l.length * 5 := by
  induction l with
  | nil => rfl
  | cons x l ih => simp only [rflat, List.flatMap_cons, List.length_append] at *; rw [ih]; simp [rcells]; omega
theorem rflat_append (l m : List Wt) : rflat (l ++ m) = rflat l ++ rflat m := by simp [rflat]
theorem rflat_get (l : List Wt) (i j : Nat) (hi : i < l.length) (hj : j < 5) : (rflat l)[i * 5 + j]? = (rcells (at' l i))[j]? := by
  induction l generalizing i with
  | nil => simp at hi
  | cons x l ih =>
    simp only [rflat, List.flatMap_cons]
    cases i with
    | zero =>
      rw [List.getElem?_append_left (by simp [rcells]; omega)]
      simp [at']
    | succ i =>
      rw [List.getElem?_append_right (by simp [rcells]; omega)]
      have := ih i (by simpa using hi)
      simp only [rflat] at this
      rw [show (i + 1) * 5 + j - (rcells x).length = i * 5 + j by simp [rcells]; omega, this]
      simp [at']
theorem rflat_one (l : List Wt) : ∀ u ∈ rflat l, u.oneCell' = true := by
  intro u hu
  simp only [rflat, List.mem_flatMap] at hu
  obtain ⟨t, _, ht⟩ := hu
  simp [rcells] at ht
  rcases ht with rfl | rfl | rfl | rfl | rfl <;> rfl
/-- v is a slice of Copies that reads as l, in a block from B on -/
def Cps (w : World) (B : Nat) (v : Value) (l : List Wt) : Prop := w.ownsRow B 77 5 v l.length (rflat l)
section
variable {w w' : World} {B g : Nat} {v : Value} {l : List Wt}
theorem Cps.nil (w : World) (B : Nat) : Cps w B (.slice none 0 0) [] := World.ownsRow_nil _ _ _ _
theorem Cps.len (h : Cps w B v l) : ∃ a cap, v = .slice a l.length cap ∧ l.length ≤ cap ∧ cap ≤ maxLen := by
  rcases h.2 with ⟨rfl, hn⟩ | ⟨g, cap, cur, rfl, hb, hg, hnc, hcm, hcs, htake⟩
  · exact ⟨none, 0, by rw [hn], by omega, by simp [maxLen]⟩
  · exact ⟨_, cap, rfl, hnc, hcm⟩
theorem Cps.form (h : Cps w B v l) (hl : 0 < l.length) : ∃ g cap, v = .slice (some ⟨g, 0, none⟩) l.length cap ∧ B ≤ g ∧ g < w.heap.size ∧ l.length ≤ cap ∧ cap ≤ maxLen := by
  rcases h.2 with ⟨_, hn⟩ | ⟨g, cap, cur, rfl, hb, hg, hnc, hcm, hcs, htake⟩
  · omega
  · exact ⟨g, cap, rfl, hb, by have := (Array.getElem?_eq_some_iff.1 hg).1; exact this, hnc, hcm⟩
theorem Cps.at {n cap : Nat} (h : Cps w B (.slice (some ⟨g, 0, none⟩) n cap) l) (i j : Nat) (hi : i < l.length) (hj : j < 5) : w.cell? ⟨g, i * 5 + j, none⟩ = (rcells (at' l i))[j]? := by
  obtain ⟨a, c, e, _, _⟩ := h.len
  simp only [Value.slice.injEq] at e
  obtain ⟨_, rfl, _⟩ := e
  exact (World.ownsRow.cellAt h (i * 5 + j) (by omega)).trans (rflat_get l i j hi hj)
theorem Cps.only {S : List Nat} (h : Cps w B v l) (ho : Only S w w') (hd : ∀ g, v.ownBlock = some g → g ∉ S) : Cps w' B v l := row_only h ho hd
theorem Cps.lt (h : Cps w B v l) (hv : v.ownBlock = some g) : B ≤ g ∧ g < w.heap.size := World.ownsRow.lt h g hv
theorem Cps.alloc (h : Cps w B v l) (o : Obj) : Cps (w.alloc o) B v l := World.ownsRow.alloc h o
theorem Cps.low (h : Cps w B v l) : Cps w 0 v l := ⟨h.1, h.2.imp id (fun ⟨g, cap, cur, a, _, c⟩ => ⟨g, cap, cur, a, Nat.zero_le _, c⟩)⟩
end
theorem info_cp : (Try.prog.info? 77).map (fun i => (i.zero, i.size, i.bytes)) = some (some (.agg #[.int .i64 0, .int .i64 0, .string ⟨#[]⟩, .int .i64 0, .int .i64 0]), 5, 48) := by kernel_rfl
/-- the reference's net: its block q, the blocks A of the script and the groups, and the block Q of the copies -/
structure RefC (w : World) (q : Nat) (A Q : List Nat) (r : RS) (sv lv gv : Value) : Prop where
  row : Row w q [.int .i64 r.nodes, sv, lv, .int .i64 r.sent, gv]
  sc : Tbs w 0 sv r.script
  sA : ∀ g, sv.ownBlock = some g → g ∈ A
  ls : Cps w 0 lv r.L
  lQ : ∀ g, lv.ownBlock = some g → g ∈ Q
  gs : Ints w 0 gv r.groups
  gA : ∀ g, gv.ownBlock = some g → g ∈ A
  lt : ∀ k, k ∈ q :: (A ++ Q) → k < w.heap.size
  qA : q ∉ A
  qQ : q ∉ Q
  aq : ∀ k, k ∈ A → k ∉ Q
theorem RefC.only {S A Q : List Nat} {w w' : World} {q : Nat} {r : RS} {sv lv gv : Value} (h : RefC w q A Q r sv lv gv) (ho : Only S w w') (hd : ∀ k, k ∈ q :: (A ++ Q) → k ∉ S) : RefC w' q A Q r sv lv gv :=
  ⟨h.row.only ho (hd q (by simp)), h.sc.only ho (fun g hg => hd g (by simp [h.sA g hg])), h.sA, h.ls.only ho (fun g hg => hd g (by simp [h.lQ g hg])), h.lQ, h.gs.only ho (fun g hg => hd g (by simp [h.gA g hg])), h.gA, fun k hk => Nat.lt_of_lt_of_le (h.lt k hk) ho.size, h.qA, h.qQ, h.aq⟩
theorem RefC.below {A Q : List Nat} {w w' : World} {q : Nat} {r : RS} {sv lv gv : Value} (h : RefC w q A Q r sv lv gv) (ho : Below w.heap.size w w') : RefC w' q A Q r sv lv gv := h.only (Only.of_below (S := []) ho) (by simp)
def RefAt (w : World) (q : Nat) (S : List Nat) (r : RS) : Prop := ∃ A Q sv lv gv, S = q :: (A ++ Q) ∧ RefC w q A Q r sv lv gv ∧ r.script.length ≤ 1000 ∧ r.L.length ≤ 8 * r.sent
theorem RefAt.only {S T : List Nat} {w w' : World} {q : Nat} {r : RS} (h : RefAt w q S r) (ho : Only T w w') (hd : ∀ k, k ∈ S → k ∉ T) : RefAt w' q S r := by
  obtain ⟨A, Q, sv, lv, gv, rfl, hc, hl⟩ := h
  exact ⟨A, Q, sv, lv, gv, rfl, hc.only ho hd, hl⟩
theorem RefAt.below {S : List Nat} {w w' : World} {q : Nat} {r : RS} (h : RefAt w q S r) (ho : Below w.heap.size w w') : RefAt w' q S r := h.only (Only.of_below (S := []) ho) (by simp)
theorem RefAt.lt {S : List Nat} {w : World} {q : Nat} {r : RS} (h : RefAt w q S r) : ∀ k, k ∈ S → k < w.heap.size := by
  obtain ⟨A, Q, sv, lv, gv, rfl, hc, _⟩ := h
  exact hc.lt
/-- a new net of the reference's is returned -/
def RetRef (r : RS) (w : World) (e : Ending) (w' : World) : Prop := ∃ q S, e = .returned (.pointer (some ⟨q, 0, none⟩)) ∧ RefAt w' q S r ∧ (∀ k, k ∈ S → w.heap.size ≤ k) ∧ Below w.heap.size w w'
theorem RefC.made {w : World} {sv : Value} {l : List Trb} (n : Int) (h : Tbs w 0 sv l) : RefC (w.alloc (.cells #[.int .i64 n, sv, .slice none 0 0, .int .i64 0, .slice none 0 0] 67)) w.heap.size sv.ownBlock.toList [] (.new n l) sv (.slice none 0 0) (.slice none 0 0) := by
  have hr := Row.new w _ rfl [.int .i64 n, sv, .slice none 0 0, .int .i64 0, .slice none 0 0] 67
  refine ⟨hr, h.alloc _, fun g hg => by simp [hg], Cps.nil _ _, by simp [Value.ownBlock], Ints.nil _ _, by simp [Value.ownBlock], fun k hk => ?_, ?_, by simp, by simp⟩
  · simp at hk
    rcases hk with rfl | hk
    · simp
    · have := (h.lt hk).2; simp; omega
  · simp only [Option.mem_toList]
    intro e
    have := (h.lt e).2; omega
set_option maxHeartbeats 1000000 in
theorem rnew_any (v : Value) (B : Nat) (n : Int) (l : List Trb) (w : World) (h : Tbs w B v l) (hl : l.length ≤ 1000) :
    Calls Try.prog 14 #[.int .i64 n, v] w (RetRef (.new n l) w) := by
  obtain ⟨a0, cap0, rfl, _, _⟩ := h.len
  go_enter Try.func14, Try.ntmps14
  go_wp2_with (at_builtin; refine app_tbs (by rfl) (by rfl) (by rfl) (by rfl) w.heap.size B (Tbs.empty w w.heap.size (Nat.le_refl _)) (h.alloc _) (by simp; omega) (by simp) ?_; intro v3 w3 hv3 hg3; obtain ⟨a3, cap3, rfl, hcap3, hm3⟩ := hv3.len)
  go_ret
  have hb3 : Below w.heap.size w w3 := ((Below.refl _ _).alloc (Nat.le_refl _) _).grown hg3 (by simp) (fun k hk => by simp [Value.ownBlock] at hk; omega)
  rw [List.nil_append] at hv3
  have hc := RefC.made n (show Tbs w3 0 _ l from ⟨hv3.1, hv3.2.imp id (fun ⟨g, cap, cur, a, _, c⟩ => ⟨g, cap, cur, a, Nat.zero_le _, c⟩)⟩)
  refine ⟨_, _, rfl, ⟨_, _, _, _, _, rfl, hc, hl, by simp [RS.new]⟩, fun k hk => ?_, hb3.alloc hb3.size _⟩
  simp only [List.append_nil, List.mem_cons, Option.mem_toList] at hk
  rcases hk with rfl | hk
  · exact hb3.size
  · exact (hv3.lt hk).1
set_option maxHeartbeats 1000000 in
theorem rwaiting_any (q : Nat) (S : List Nat) (r : RS) (w : World) (h : RefAt w q S r) :
    Calls Try.prog 22 #[.pointer (some ⟨q, 0, none⟩)] w fun e w' => e = .returned (.int .i64 r.L.length) ∧ w = w' := by
  obtain ⟨A, Q, sv, lv, gv, rfl, hc, _⟩ := h
  have c2 := hc.row.at 2 rfl
  obtain ⟨a, cap, rfl, _, _⟩ := hc.ls.len
  go_enter Try.func22, Try.ntmps22
  go_wp2
  go_ret
  exact ⟨rfl, rfl⟩
theorem ints_at {w : World} {B g n cap : Nat} {l : List Int} (h : Ints w B (.slice (some ⟨g, 0, none⟩) n cap) l) (i : Nat) (hi : i < l.length) : w.cell? ⟨g, i, none⟩ = some (.int .i64 (l.getD i 0)) := by
  obtain ⟨a, c, e, _, _, _⟩ := h.len
  simp only [Value.slice.injEq] at e
  obtain ⟨_, rfl, _⟩ := e
  rw [World.ownsRow.cellAt h i (by omega)]; simp [hi]
set_option maxHeartbeats 1000000 in
theorem rgroup_any (q k : Nat) (gv : Value) (l : List Int) (w : World) (hc : w.cell? ⟨q, 4, none⟩ = some gv) (h : Ints w 0 gv l) :
    Calls Try.prog 26 #[.pointer (some ⟨q, 0, none⟩), .int .i64 (k : Int)] w fun e w' => e = .returned (.int .i64 (l.getD k 0)) ∧ w = w' := by
  by_cases hk : k < l.length
  · rcases h.2 with ⟨_, hn⟩ | ⟨g, cap, cur, rfl, _⟩
    · omega
    · have e0 := ints_at h k hk
      generalize l.getD k 0 = z at e0 ⊢
      have k0 : (0 : Int) ≤ (k : Int) := by omega
      have k1 : (k : Int) < (l.length : Int) := by omega
      go_enter Try.func26, Try.ntmps26
      go_wp2
      go_ret
      exact ⟨rfl, rfl⟩
  · obtain ⟨a, cap, rfl, _, _, _⟩ := h.len
    have hz : l.getD k 0 = 0 := by rw [List.getD_eq_getElem?_getD, List.getElem?_eq_none (by omega)]; rfl
    rw [hz]
    have k1 : ¬ (k : Int) < (l.length : Int) := by omega
    go_enter Try.func26, Try.ntmps26
    go_wp2
    go_ret
    exact ⟨rfl, rfl⟩
/-- 'append(x, y...)' on ints, y a slice that is only read, of any size that memory holds -/
theorem app_intsB {w : World} {ops : Array Oper} {rest : List Oper} {o : Oper} {a : Act} {Q : Exit → Act → World → Prop} {s x : Operand} {v : Value} {l l2 : List Int} {ad : Option Addr} {cap : Nat}
    (hgd : o.guard = none)
    (ho : o.op = .call { callee := .builtin .append, args := #[s, x], argTypes := #[32, 32] })
    (hs : a.eval s = v) (hx : a.eval x = .slice ad l2.length cap) (B : Nat) (hown : Ints w B v l) (h2 : IntsR w (.slice ad l2.length cap) l2) (hnil : ad = none → cap = 0)
    (hlen : (l.length + l2.length) * 8 ≤ 140737488355328) (hB : B ≤ w.heap.size)
    (h : ∀ v' w', Ints w' B v' (l ++ l2) → w.grownBy w' v.ownBlock → wpList Try.prog ops Q rest (a.put o.dst v') w') : wpList Try.prog ops Q (o :: rest) a w := by
  obtain ⟨i0, hi, hz0, hz1, hz2⟩ := info_parts info_int
  obtain ⟨a', cap', e, _, hc⟩ := h2
  simp only [Value.slice.injEq, true_and] at e
  obtain ⟨rfl, rfl⟩ := e
  cases ad with
  | none =>
    have : l2 = [] := by
      cases l2 with
      | nil => rfl
      | cons z r => obtain ⟨b, off, e, _⟩ := hc (by simp); cases e
    subst this
    rw [hnil rfl] at hx
    refine wpList_append_own_none hgd s x 32 ho B 3 i0 1 Try.underlying32 hi v _ _ hs hown hx ?_
    exact h v w (by simpa using hown) ⟨rfl, rfl, rfl, Nat.le_refl _, fun _ _ _ => rfl⟩
  | some ad =>
    refine wpList_append_own w hgd s x 32 ho B 3 i0 (.int .i64 0) 1 8 Try.underlying32 hi hz0 hz1 hz2 rfl (by decide) v _ _ hs hown ad l2.length cap (l2.map (Value.int .i64)) hx (by simp) ?_ ?_ (by unfold maxLen; omega) hlen hB ?_
    · intro j u hu
      have hj : j < l2.length := by simpa using (List.getElem?_eq_some_iff.1 hu).1
      obtain ⟨b, off, e, _, hcell⟩ := hc (by omega)
      cases e
      rw [plain_add, hcell j hj]
      simpa [hj] using hu
    · intro u hu; simp at hu; obtain ⟨z, _, rfl⟩ := hu; rfl
    · intro v' w' h1 h3 _
      refine h v' w' ?_ h3
      unfold Ints
      rw [List.length_append, List.map_append]
      exact h1
theorem Ints.low {w : World} {B : Nat} {v : Value} {l : List Int} (h : Ints w B v l) : Ints w 0 v l := ⟨h.1, h.2.imp id (fun ⟨g, cap, cur, a, _, c⟩ => ⟨g, cap, cur, a, Nat.zero_le _, c⟩)⟩
/-- the groups are put -/
theorem rpart_end {w w1 : World} {q : Nat} {A Q : List Nat} {r : RS} {sv lv gv gv1 : Value} {zs : List Int} (hc : RefC w q A Q r sv lv gv) (hb : Below w.heap.size w w1) (h1 : Ints w1 w.heap.size gv1 zs) :
    ∃ A', RefC (w1.setCell ⟨q, 4, none⟩ gv1) q A' Q (r.part zs) sv lv gv1 ∧ Mv (q :: (A ++ Q)) (q :: (A' ++ Q)) w (w1.setCell ⟨q, 4, none⟩ gv1) := by
  have hq : q < w.heap.size := hc.lt q (by simp)
  have hc1 := hc.below hb
  have ho : Only [q] w1 (w1.setCell ⟨q, 4, none⟩ gv1) := (Only.refl _ _).setCell (by simp) _
  have hn : ∀ g, gv1.ownBlock = some g → w.heap.size ≤ g ∧ g < w1.heap.size := fun g hg => h1.lt hg
  have ha : ∀ k, k ∈ A → k ∉ [q] := fun k hk => by simp only [List.mem_singleton]; rintro rfl; exact hc.qA hk
  have hqq : ∀ k, k ∈ Q → k ∉ [q] := fun k hk => by simp only [List.mem_singleton]; rintro rfl; exact hc.qQ hk
  refine ⟨gv1.ownBlock.toList ++ A, ⟨hc1.row.put 4 _ (by simp), hc1.sc.only ho (fun g hg => ha g (hc.sA g hg)), fun g hg => by simp [hc.sA g hg], hc1.ls.only ho (fun g hg => hqq g (hc.lQ g hg)), hc.lQ, h1.low.only ho (fun g hg => by have := hn g hg; simp; omega), fun g hg => by simp [hg], fun k hk => ?_, ?_, hc.qQ, fun k hk hk2 => ?_⟩, ⟨((Only.of_below (S := [q]) hb).trans ho).mono (by simp), fun k hk => ?_⟩⟩
  · simp only [List.mem_cons, List.mem_append, Option.mem_toList] at hk
    have hz := hb.size
    simp
    rcases hk with rfl | (hk | hk) | hk
    · omega
    · have := hn k hk; omega
    · have := hc.lt k (by simp [hk]); omega
    · have := hc.lt k (by simp [hk]); omega
  · simp only [List.mem_append, Option.mem_toList, not_or]
    exact ⟨fun e => by have := hn q e; omega, hc.qA⟩
  · simp only [List.mem_append, Option.mem_toList] at hk
    rcases hk with hk | hk
    · have := hn k hk; have := hc.lt k (by simp [hk2]); omega
    · exact hc.aq k hk hk2
  · simp only [List.mem_cons, List.mem_append, Option.mem_toList] at hk ⊢
    rcases hk with hk | (hk | hk) | hk
    · exact .inl (.inl hk)
    · exact .inr (hn k hk).1
    · exact .inl (.inr (.inl hk))
    · exact .inl (.inr (.inr hk))
/-- the reference's net at q becomes r -/
def RefPost (q : Nat) (S : List Nat) (r : RS) (w : World) (e : Ending) (w' : World) : Prop := e = .returned (.tuple #[]) ∧ ∃ S', RefAt w' q S' r ∧ Mv S S' w w'
set_option maxHeartbeats 1000000 in
theorem rpart_any (q : Nat) (S : List Nat) (r : RS) (v : Value) (zs : List Int) (w : World) (h : RefAt w q S r) (hv : IntsR w v zs) (hnil : v = .slice none 0 0 ∨ v.ownBlock ≠ none) (hl : zs.length * 8 ≤ 140737488355328) :
    Calls Try.prog 18 #[.pointer (some ⟨q, 0, none⟩), v] w (RefPost q S (r.part zs) w) := by
  obtain ⟨A, Q, sv, lv, gv, rfl, hc, hs, hf⟩ := h
  have hv' := hv
  obtain ⟨a, cap, rfl, _, _⟩ := hv
  have hq : q < w.heap.size := hc.lt q (by simp)
  have HN := Lib.hid (show a = none → cap = 0 from fun e => by
    subst e
    rcases hnil with h | h
    · simp at h; exact h.2
    · simp [Value.ownBlock] at h)
  have HL := Lib.hid hl
  clear hnil hl
  have hv2 := hv'.below ((Below.refl w.heap.size w).alloc (Nat.le_refl _) (.cells #[] 3))
  go_enter Try.func18, Try.ntmps18
  go_wp2_with (at_builtin; refine app_intsB (by rfl) (by rfl) (by rfl) (by rfl) w.heap.size (Ints.empty w w.heap.size (Nat.le_refl _)) hv2 HN.out (by have := HL.out; simp; omega) (by simp) ?_; intro v3 w3 hv3 hg3; rw [List.nil_append] at hv3; obtain ⟨a3, cap3, rfl, _, _, _⟩ := hv3.len; have hb3 : Below w.heap.size w w3 := ((Below.refl _ _).alloc (Nat.le_refl _) _).grown hg3 (by simp) (fun k hk => by simp [Value.ownBlock] at hk; omega); have c4 := (hc.below hb3).row.at 4 rfl; have f4 := (hc.below hb3).row.fr 4 rfl)
  go_end0
  obtain ⟨A', h1, h2⟩ := rpart_end hc hb3 hv3
  exact ⟨rfl, _, ⟨A', Q, _, _, _, rfl, h1, hs, hf⟩, h2⟩
end Go.Proofs.Ytffijemgcgbjoaa
