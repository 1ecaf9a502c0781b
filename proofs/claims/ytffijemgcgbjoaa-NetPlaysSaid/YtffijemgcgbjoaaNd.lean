/- Part. -/
import Derived.Test.YtffijemgcgbjoaaNc
namespace Go.Proofs.Ytffijemgcgbjoaa
open Go.RowKit Nt Go.Maps

/-- v is a slice of ints that reads as zs -/
def IntsR (w : World) (v : Value) (zs : List Int) : Prop := ∃ a cap, v = .slice a zs.length cap ∧ zs.length ≤ 9223372036854775807 ∧ (0 < zs.length → ∃ b off, a = some ⟨b, off, none⟩ ∧ b < w.heap.size ∧ ∀ i, i < zs.length → w.cell? ⟨b, off + i, none⟩ = some (.int .i64 (zs.getD i 0)))
theorem IntsR.only {S : List Nat} {w w' : World} {v : Value} {zs : List Int} (h : IntsR w v zs) (ho : Only S w w') (hd : ∀ g, v.ownBlock = some g → g ∉ S) : IntsR w' v zs := by
  obtain ⟨a, cap, rfl, hl, hc⟩ := h
  refine ⟨a, cap, rfl, hl, fun h0 => ?_⟩
  obtain ⟨b, off, rfl, hb, hcell⟩ := hc h0
  exact ⟨b, off, rfl, Nat.lt_of_lt_of_le hb ho.size, fun i hi => cell_only (hcell i hi) ho hb (hd b rfl)⟩
theorem IntsR.below {w w' : World} {v : Value} {zs : List Int} (h : IntsR w v zs) (ho : Below w.heap.size w w') : IntsR w' v zs := h.only (Only.of_below (S := []) ho) (by simp)
/-- the groups after k rounds -/
def grk (n : Int) (zs : List Int) (k : Nat) (key : Int) : Int := if 0 ≤ key ∧ key < n ∧ key < k then zs.getD key.toNat 0 else 0
theorem grk_end (n : Int) (zs : List Int) : grk n zs zs.length = fun key => if 0 ≤ key ∧ key < n then zs.getD key.toNat 0 else 0 := by
  funext key
  unfold grk
  by_cases h : 0 ≤ key ∧ key < n
  · rw [if_pos h]
    by_cases h2 : key < zs.length
    · rw [if_pos ⟨h.1, h.2, h2⟩]
    · rw [if_neg (by omega)]; simp; rw [List.getElem?_eq_none (by omega)]; rfl
  · rw [if_neg h, if_neg (by omega)]
theorem grk_skip (n : Int) (zs : List Int) (k : Nat) (h : ¬ (k : Int) < n) : grk n zs (k + 1) = grk n zs k := by
  funext key
  unfold grk
  by_cases h2 : 0 ≤ key ∧ key < n ∧ key < k
  · rw [if_pos h2, if_pos (by omega)]
  · rw [if_neg h2, if_neg (by omega)]
theorem grk_same (n : Int) (zs : List Int) (k : Nat) (h : (k : Int) < n) : grk n zs (k + 1) k = zs.getD k 0 := by
  unfold grk; rw [if_pos (by omega)]; simp
theorem grk_other (n : Int) (zs : List Int) (k : Nat) (key : Int) (h : key ≠ k) : grk n zs (k + 1) key = grk n zs k key := by
  unfold grk
  by_cases h2 : 0 ≤ key ∧ key < n ∧ key < k
  · rw [if_pos h2, if_pos (by omega)]
  · rw [if_neg h2, if_neg (by omega)]
/-- the map D holds the groups -/
def Holds (D : DataW Unit) (gr : Int → Int) : Prop := ∀ k : Int, (Lit.int .i64 k).wf = true → D.atKey (.int .i64 k) (.lit (.int .i64 0)) = .lit (.int .i64 (gr k))
theorem holds_nil : Holds (.map []) (fun _ => 0) := fun _ _ => rfl
theorem Holds.put {D : DataW Unit} {n : Int} {zs : List Int} {k : Nat} (h : Holds D (grk n zs k)) (hD : IsMap D) (hk : (k : Int) < n) : Holds (D.put (.int .i64 k) (.lit (.int .i64 (zs.getD k 0)))) (grk n zs (k + 1)) := by
  intro key hw
  by_cases e : key = k
  · subst e
    rw [atKey_put_same hD (show WideAt.IsKeyLit (.int .i64 (k : Int)) by trivial), grk_same n zs k hk]
  · rw [atKey_put_other (fun e' => e (by injection e')), grk_other n zs k key e]
    exact h key hw
theorem part_nil_holds (n : Int) (zs : List Int) : grk n zs 0 = fun _ => 0 := by
  funext key; unfold grk; rw [if_neg (by omega)]
theorem part_end {w wr : World} {p b : Nat} {A Q : List Nat} {s : NS} {sv gv cv : Value} {D : DataW Unit} {n : Nat} {zs : List Int} (h : NetC w p A Q s sv gv cv) (hb : b = w.heap.size)
    (hr : Row wr p [.int .i64 s.nodes, sv, .map (some b), cv, .int .i64 s.sent]) (hm : wr.ownsMap Try.prog 3 (plainElem Try.prog 3) b n D) (hh : Holds D (grk s.nodes zs zs.length)) (ho : Only [p] w wr) :
    NetC wr p (b :: A) Q (s.part zs) sv (.map (some b)) cv := by
  refine ⟨hr, h.sc.only ho (fun g hg => ?_), fun g hg => List.mem_cons_of_mem _ (h.sA g hg), .inr ⟨b, n, D, rfl, by simp, hm, ?_⟩, h.cs.only ho (fun k hk => ?_), fun k hk => ?_, ?_, h.pQ, fun k hk hk2 => ?_⟩
  · have := h.sA g hg
    simp only [List.mem_singleton]; rintro rfl; exact h.pA this
  · rw [grk_end] at hh; exact hh
  · simp only [List.mem_singleton]; rintro rfl; exact h.pQ hk
  · have hz := ho.size
    have hml := hm.lt
    simp only [List.mem_cons, List.cons_append] at hk
    rcases hk with rfl | rfl | hk
    · exact hr.lt
    · exact hml
    · have := h.lt k (List.mem_cons_of_mem _ hk); omega
  · have := h.lt p (by simp)
    simp only [List.mem_cons, not_or]
    exact ⟨by omega, h.pA⟩
  · rcases List.mem_cons.1 hk with rfl | hk
    · have := h.lt k (by simp [hk2]); omega
    · exact h.aq k hk hk2
set_option maxHeartbeats 1000000 in
theorem part_nil (v : Value) (w : World) :
    Calls Try.prog 17 #[.pointer none, v] w fun e w' => e = .returned (.tuple #[]) ∧ w = w' := by
  go_enter Try.func17, Try.ntmps17
  go_wp2
  exact bodyPost_ret (v := .tuple #[]) (by simp [results, Try.results17, go_sem]) rfl ⟨rfl, rfl⟩
set_option maxRecDepth 100000 in
set_option maxHeartbeats 4000000 in
theorem part_any (p : Nat) (S : List Nat) (s : NS) (v : Value) (zs : List Int) (w : World) (h : NetAt w p S s) (hv : IntsR w v zs) (hd : ∀ g, v.ownBlock = some g → g ∉ S) (hw : ∀ z ∈ zs, -9223372036854775808 ≤ z ∧ z ≤ 9223372036854775807) :
    Calls Try.prog 17 #[.pointer (some ⟨p, 0, none⟩), v] w fun e w' => e = .returned (.tuple #[]) ∧ ∃ S', NetAt w' p S' (s.part zs) ∧ Mv S S' w w' := by
  obtain ⟨A, Q, sv, gv, cv, rfl, hc, hg, hn, hsl⟩ := h
  obtain ⟨a, cap, rfl, hlen, hcell⟩ := hv
  have hlp : p < w.heap.size := hc.lt p (by simp)
  have hpne : ¬ p = w.heap.size := by omega
  have hmm := @run_makeMap Try.prog
  have c2 := hc.c2
  have f2 := hc.f2
  have hrow0 := (hc.row.put 2 (.map (some w.heap.size)) (by simp)).alloc (.map #[] 0)
  have hm0 : ((w.setCell ⟨p, 2, none⟩ (.map (some w.heap.size))).alloc (.map #[] 0)).ownsMap Try.prog 3 (plainElem (H := Unit) Try.prog 3) w.heap.size 0 (.map []) := by simpa using World.ownsMap_made (w.setCell ⟨p, 2, none⟩ (.map (some w.heap.size))) Try.prog 3 (plainElem (H := Unit) Try.prog 3)
  have ho0 : Only [p] w ((w.setCell ⟨p, 2, none⟩ (.map (some w.heap.size))).alloc (.map #[] 0)) := ((Only.refl _ _).setCell (by simp) _).trans (Only.of_below ((Below.refl _ _).alloc (Nat.le_refl _) _))
  go_enter Try.func17, Try.ntmps17
  go_wp2_with fail
  go_loopw [4, 5, 14] (fun _ _ i wr => ∃ (k : Nat) (D : DataW Unit), k ≤ zs.length ∧ i = .int .i64 k ∧ Row wr p [.int .i64 s.nodes, sv, .map (some w.heap.size), cv, .int .i64 s.sent] ∧ wr.ownsMap Try.prog 3 (plainElem Try.prog 3) w.heap.size k D ∧ Holds D (grk s.nodes zs k) ∧ Only [p] w wr) (fun _ _ i _ => zs.length - (intOf i).toNat)
  case atStart => exact ⟨0, _, Nat.zero_le _, rfl, hrow0, hm0, by rw [part_nil_holds]; exact holds_nil, ho0⟩
  case round =>
    obtain ⟨k, D, hk, rfl, hr, hm, hh, ho⟩ := hrel
    clear hm0 ho0 hrow0
    by_cases hlt : k < zs.length
    · obtain ⟨b, off, rfl, hb, hcl⟩ := hcell (by omega)
      have hce : wr.cell? ⟨b, off + k, none⟩ = some (.int .i64 (zs.getD k 0)) := cell_only (hcl k hlt) ho hb (fun hm => hd b rfl (by simp at hm; simp [hm]))
      have hwz := hw (zs.getD k 0) (by rw [List.getD_eq_getElem?_getD, List.getElem?_eq_getElem hlt]; simp)
      generalize hz : zs.getD k 0 = z at hce hwz
      have HZ := Lib.hid hz
      have HH := Lib.hid hh
      clear hz hh hcl hcell hw
      have r0 := hr.at 0 rfl
      have r2 := hr.at 2 rfl
      by_cases hkn : (k : Int) < s.nodes
      · have HB := Lib.hid (nodeB_true.2 ⟨by omega, hkn⟩ : nodeB s.nodes k = true)
        go_wp2_with (first | (go_at_call 24; refine (node_any p s.nodes k _ r0).mono ?_; rw [HB.out]; rintro e w' ⟨rfl, rfl⟩) | (at_mapUpdate; refine wpList_mapUpdate_own _ rfl _ _ _ 52 rfl 3 3 int_law Try.underlying52 _ w.heap.size k _ rfl hm (by unfold maxLen; omega) _ _ _ rfl rfl (keyOf_int_mk Try.underlying3 (WalkArith.wf_i64 (by omega))) _ [] (plainElem_int Try.underlying3 (WalkArith.wf_i64 (by omega))) ?_; intro w1 hm1 hg1))
        have ho1 : Only [w.heap.size] wr w1 := only_grown hg1 (fun k hk => by simp at hk; simp [hk])
        go_roundw
        case rel => exact ⟨k + 1, _, by omega, by go_num, hr.only ho1 (by simp; omega), hm1, by rw [← HZ.out]; exact HH.out.put hm.isMap hkn, ho.trans_new ho1 (fun k hk => .inr (by simp at hk; omega))⟩
        case measure => simp [intOf]; omega
      · have HB := Lib.hid (nodeB_false.2 (by omega) : nodeB s.nodes k = false)
        go_wp2_with (go_at_call 24; refine (node_any p s.nodes k _ r0).mono ?_; rw [HB.out]; rintro e w' ⟨rfl, rfl⟩)
        go_roundw
        case rel => exact ⟨k + 1, _, by omega, by go_num, hr, hm.mono (by omega), by rw [grk_skip _ _ _ (by omega)]; exact HH.out, ho⟩
        case measure => simp [intOf]; omega
    · go_wp2_with fail
      go_end0
      obtain rfl : k = zs.length := by omega
      have hf := part_end hc rfl hr hm hh ho
      refine ⟨rfl, _, ⟨_, _, _, _, _, rfl, hf, hg.part zs, hn, hsl⟩, ho.mono (by simp), fun k hk => ?_⟩
      simp only [List.mem_cons, List.cons_append] at hk ⊢
      rcases hk with hk | hk | hk
      · exact .inl (.inl hk)
      · exact .inr (by omega)
      · exact .inl (.inr hk)
end Go.Proofs.Ytffijemgcgbjoaa
