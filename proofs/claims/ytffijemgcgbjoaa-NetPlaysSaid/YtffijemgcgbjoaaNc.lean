/- Clone, New. -/
import Derived.Test.YtffijemgcgbjoaaNb
import Derived.Laws.OwnMore
import Derived.OwnWalk
import Derived.Laws.AppendOwnNone
namespace Go.Proofs.Ytffijemgcgbjoaa
open Go.RowKit Nt

theorem info_tb : (Try.prog.info? 44).map (fun i => (i.zero, i.size, i.bytes)) = some (some (.agg #[.bool false, .int .i64 0, .int .i64 0]), 3, 24) := by kernel_rfl
theorem tflat_append (l m : List Trb) : tflat (l ++ m) = tflat l ++ tflat m := by simp [tflat]
theorem tflat_one (l : List Trb) : ∀ u ∈ tflat l, u.oneCell' = true := by
  intro u hu
  simp only [tflat, List.mem_flatMap] at hu
  obtain ⟨t, _, ht⟩ := hu
  simp [tcells] at ht
  rcases ht with rfl | rfl | rfl <;> rfl
/-- 'append(x, y...)' on Troubles -/
theorem app_tbs {w : World} {ops : Array Oper} {rest : List Oper} {o : Oper} {a : Act} {Q : Exit → Act → World → Prop} {s x : Operand} {v v2 : Value} {l l2 : List Trb}
    (hgd : o.guard = none)
    (ho : o.op = .call { callee := .builtin .append, args := #[s, x], argTypes := #[22, 22] })
    (hs : a.eval s = v) (hx : a.eval x = v2) (B B2 : Nat) (hown : Tbs w B v l) (h2 : Tbs w B2 v2 l2)
    (hlen : l.length + l2.length < 1000000000) (hB : B ≤ w.heap.size)
    (h : ∀ v' w', Tbs w' B v' (l ++ l2) → w.grownBy w' v.ownBlock → wpList Try.prog ops Q rest (a.put o.dst v') w') : wpList Try.prog ops Q (o :: rest) a w := by
  obtain ⟨i0, hi, hz0, hz1, hz2⟩ := info_parts info_tb
  rcases h2.2 with ⟨rfl, hn⟩ | ⟨g, cap, cur, rfl, hb, hg, hnc, hcm, hcs, htake⟩
  · have : l2 = [] := List.eq_nil_of_length_eq_zero hn
    subst this
    refine wpList_append_own_none hgd s x 22 ho B 44 i0 3 Try.underlying22 hi v _ _ hs hown hx ?_
    exact h v w (by simpa using hown) ⟨rfl, rfl, rfl, Nat.le_refl _, fun _ _ _ => rfl⟩
  · refine wpList_append_own w hgd s x 22 ho B 44 i0 _ 3 24 Try.underlying22 hi hz0 hz1 hz2 rfl (by decide) v _ _ hs hown ⟨g, 0, none⟩ l2.length cap (tflat l2) hx (tflat_len _) (World.ownsRow.cells h2 (g := g) rfl) (tflat_one _) (by unfold maxLen; omega) (by omega) hB ?_
    intro v' w' h1 h3 _
    refine h v' w' ?_ h3
    unfold Tbs
    rw [List.length_append, tflat_append]
    exact h1
theorem eql_tb (a : Option Addr) (n c : Nat) (w : World) : (binOp .eql 22 (.slice a n c) (.slice none 0 0)).run Try.prog w = .ok (.bool a.isNone) w := Lib.run_eql_slice_nil w _ _ a n c 0 0 Try.underlying22
theorem Tbs.nil (w : World) (B : Nat) : Tbs w B (.slice none 0 0) [] := World.ownsRow_nil _ _ _ _
theorem Tbs.empty (w : World) (B : Nat) (hB : B ≤ w.heap.size) : Tbs (w.alloc (.cells #[] 44)) B (.slice (some ⟨w.heap.size, 0, none⟩) 0 0) [] := World.ownsRow_lit (e := 44) (size := 3) w #[] 0 hB (by simp [maxLen]) rfl
theorem Tbs.alloc {w : World} {B : Nat} {v : Value} {l : List Trb} (h : Tbs w B v l) (o : Obj) : Tbs (w.alloc o) B v l := World.ownsRow.alloc h o
theorem Tbs.of_eq {w : World} {B : Nat} {v : Value} {l m : List Trb} (h : Tbs w B v l) (e : l = m) : Tbs w B v m := e ▸ h
set_option maxHeartbeats 1000000 in
theorem clone_any (v : Value) (B : Nat) (l : List Trb) (w : World) (h : Tbs w B v l) (hl : l.length ≤ 100000) :
    Calls Try.prog 23 #[v] w fun e w' => ∃ v', e = .returned v' ∧ Tbs w' w.heap.size v' l ∧ Below w.heap.size w w' := by
  have he := fun n c => eql_tb none n c
  rcases h.2 with ⟨rfl, hn⟩ | ⟨g, cap, cur, rfl, hb, hg, hnc, hcm, hcs, htake⟩
  · have HL := Lib.hid (List.eq_nil_of_length_eq_zero hn)
    clear hn h
    go_enter Try.func23, Try.ntmps23
    go_wp2
    go_ret
    exact ⟨_, rfl, (Tbs.nil _ _).of_eq HL.out.symm, Below.refl _ _⟩
  · have he2 := fun n c => eql_tb (some ⟨g, 0, none⟩) n c
    clear hcs htake hg
    go_enter Try.func23, Try.ntmps23
    go_wp2_with (at_builtin; refine app_tbs (by rfl) (by rfl) (by rfl) (by rfl) w.heap.size B (Tbs.empty w w.heap.size (Nat.le_refl _)) (h.alloc _) (by simp; omega) (by simp) ?_; intro v3 w3 hv3 hg3)
    go_ret
    exact ⟨_, rfl, hv3, ((Below.refl _ _).alloc (Nat.le_refl _) _).grown hg3 (by simp) (fun k hk => by simp [Value.ownBlock] at hk; omega)⟩
theorem NetC.made {w : World} {sv : Value} {l : List Trb} (n : Int) (h : Tbs w 0 sv l) : NetC (w.alloc (.cells #[.int .i64 n, sv, .map none, .nilIface, .int .i64 0] 56)) w.heap.size sv.ownBlock.toList [] (.new n l) sv (.map none) .nilIface := by
  have hr := Row.new w _ rfl [.int .i64 n, sv, .map none, .nilIface, .int .i64 0] 56
  refine ⟨hr, h.alloc _, fun g hg => by simp [hg], .inl ⟨rfl, fun _ => rfl⟩, .inl ⟨rfl, rfl⟩, fun k hk => ?_, ?_, by simp, by simp⟩
  · simp at hk
    rcases hk with rfl | hk
    · simp
    · have := (h.lt hk).2; simp; omega
  · simp only [Option.mem_toList]
    intro e
    have := (h.lt e).2; omega
/-- a new net is returned -/
def RetNet (s : NS) (w : World) (e : Ending) (w' : World) : Prop := ∃ p S, e = .returned (.pointer (some ⟨p, 0, none⟩)) ∧ NetAt w' p S s ∧ (∀ k, k ∈ S → w.heap.size ≤ k) ∧ Below w.heap.size w w'
set_option maxHeartbeats 1000000 in
theorem new_any (v : Value) (B : Nat) (n : Int) (l : List Trb) (w : World) (h : Tbs w B v l) (hl : l.length ≤ 1000) (hn : n ≤ 1000) :
    Calls Try.prog 13 #[.int .i64 n, v] w (RetNet (.new n l) w) := by
  go_enter Try.func13, Try.ntmps13
  go_wp2_with (go_at_call 23; refine (clone_any v B l _ h (by omega)).mono ?_; rintro e w1 ⟨v1, rfl, h1, hb1⟩; obtain ⟨a1, cap1, rfl, hcap1, hm1⟩ := h1.len)
  go_ret
  have hc := NetC.made n (show Tbs w1 0 _ l from ⟨h1.1, h1.2.imp id (fun ⟨g, cap, cur, a, _, c⟩ => ⟨g, cap, cur, a, Nat.zero_le _, c⟩)⟩)
  refine ⟨_, _, rfl, ⟨_, _, _, _, _, rfl, hc, Good.new _ _, hn, hl⟩, fun k hk => ?_, hb1.alloc hb1.size _⟩
  simp only [List.append_nil, List.mem_cons, Option.mem_toList] at hk
  rcases hk with rfl | hk
  · exact hb1.size
  · exact (h1.lt hk).1
end Go.Proofs.Ytffijemgcgbjoaa
