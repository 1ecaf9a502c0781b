/- queue.Pop, heap.Push, heap.Pop. -/
import Derived.Test.YtffijemgcgbjoaaHg
import Derived.Test.YtffijemgcgbjoaaN0
namespace Go.Proofs.Ytffijemgcgbjoaa
open Go.RowKit Nt

theorem flat_take (l : List Wt) (n : Nat) : flat (l.take n) = (flat l).take (n * 5) := by
  induction l generalizing n with
  | nil => simp [flat]
  | cons x l ih =>
    cases n with
    | zero => simp [flat]
    | succ n =>
      have h := ih n
      have e : flat (x :: l) = .int .i64 x.time :: .int .i64 x.number :: .int .i64 x.fr :: .int .i64 x.to :: .string x.text :: flat l := by simp [flat, wcells]
      have e2 : flat ((x :: l).take (n + 1)) = .int .i64 x.time :: .int .i64 x.number :: .int .i64 x.fr :: .int .i64 x.to :: .string x.text :: flat (l.take n) := by simp [flat, wcells]
      rw [e, e2, h, show (n + 1) * 5 = n * 5 + 5 by omega]
      rfl
theorem Wts.shorter {w : World} {B g cap n : Nat} {l : List Wt} (h : Wts w B (.slice (some ⟨g, 0, none⟩) l.length cap) l) (hn : n ≤ l.length) : Wts w B (.slice (some ⟨g, 0, none⟩) n cap) (l.take n) := by
  have hl : (l.take n).length = n := by simp; omega
  refine ⟨flat_len _, ?_⟩
  rcases h.2 with ⟨hv, _⟩ | ⟨g', cap', cur, hv, hb, hg, hnc, hcm, hcs, htake⟩
  · cases hv
  · simp only [Value.slice.injEq, Option.some.injEq, Addr.mk.injEq, true_and] at hv
    obtain ⟨⟨rfl, _⟩, rfl⟩ := hv
    refine .inr ⟨g, cap, cur, by rw [hl], hb, hg, by omega, hcm, hcs, ?_⟩
    rw [hl, flat_take, ← htake, List.take_take]
    congr 1; omega

theorem qpop_end {l : List Wt} {gq g cap n : Nat} {w w0 : World} (hq : QAt w gq (.slice (some ⟨g, 0, none⟩) l.length cap) l) (hb : Below w.heap.size w w0) (hn : n < l.length) :
    QAt ((put5 w0 g (n * 5) wz).setCell ⟨gq, 0, none⟩ (.slice (some ⟨g, 0, none⟩) n cap)) gq (.slice (some ⟨g, 0, none⟩) n cap) (l.take n) ∧ Only [gq, g] w ((put5 w0 g (n * 5) wz).setCell ⟨gq, 0, none⟩ (.slice (some ⟨g, 0, none⟩) n cap)) := by
  have hlt := hq.lt
  have hne : g ≠ gq := hq.ne g rfl
  have hq0 := hq.below hb
  have h1 := (hq0.row.put n wz hn)
  have h2 : Wts (put5 w0 g (n * 5) wz) 0 (.slice (some ⟨g, 0, none⟩) n cap) (l.take n) := by
    have h1' : Wts (put5 w0 g (n * 5) wz) 0 (.slice (some ⟨g, 0, none⟩) (l.set n wz).length cap) (l.set n wz) := by rw [List.length_set]; exact h1
    have := h1'.shorter (n := n) (by simp; omega)
    rwa [List.take_set_of_le (by omega)] at this
  have ho : Only [g] w0 (put5 w0 g (n * 5) wz) := put5_only (Only.refl _ _) (by simp) _
  have hc := cell_only hq0.cell ho hq0.lt (by simp; omega)
  have hf := frozen_only hq0.free ho hq0.lt (by simp; omega)
  have hz := ho.size
  have hz0 := hq0.lt
  refine ⟨⟨World.cell?_setCell_same _ _ _ hc, ?_, by simp; omega, fun g' hg' => ?_, by rw [World.frozen?_setCell]; exact hf⟩, ?_⟩
  · exact h2.only (Only.setCell (S := [gq]) (Only.refl _ _) (by simp) _) (fun g' hg' => by
      obtain rfl : g = g' := by simpa [Value.ownBlock] using hg'
      simpa using hne)
  · obtain rfl : g = g' := by simpa [Value.ownBlock] using hg'
    exact hne
  · exact Only.setCell ((Only.of_below hb).trans (ho.mono (by simp))) (by simp) _
set_option maxRecDepth 100000 in
set_option maxHeartbeats 4000000 in
theorem qpop_any (l : List Wt) (v : Value) (gq g n : Nat) (w : World) (hq : QAt w gq v l) (hv : v.ownBlock = some g) (hn : n + 1 = l.length) (hs : l.length ≤ 1000000) :
    Calls Try.prog 48 #[.pointer (some ⟨gq, 0, none⟩)] w fun e w' => e = .returned (.iface 74 (wagg (at' l n))) ∧ ∃ v', v'.ownBlock = some g ∧ QAt w' gq v' (l.take n) ∧ Only [gq, g] w w' := by
  obtain ⟨g', cap, rfl, hB, hg, hcap, hm⟩ := hq.row.form (by omega)
  obtain rfl : g' = g := by simpa [Value.ownBlock] using hv
  unfold maxLen at hm
  have hc := hq.cell
  have hf := hq.free
  have hlt := hq.lt
  have hne := hq.ne g' rfl
  have hne' : ¬ gq = g' := fun e => hne e.symm
  have hend := fun (w0 : World) (hb : Below w.heap.size w w0) => qpop_end (n := n) hq hb (by omega)
  have HE := Lib.hid hend
  clear hend
  obtain ⟨a0, a1, a2, a3, a4⟩ := hq.row.at n (by omega)
  have fz := fun k => World.ownsRow.frozenAt hq.row k
  have hnn : (l.length : Int) - 1 = n := by omega
  have hnl : n < l.length := by omega
  have HN := Lib.hid hn
  clear hn hv hq
  have i0 : (0 : Int) ≤ (n : Int) := by omega
  have i1 : (n : Int) < (l.length : Int) := by omega
  have i2 : (n : Int) ≤ (cap : Int) := by omega
  unfold wagg
  go_enter Try.func48, Try.ntmps48
  go_wp2_with fail
  go_ret
  have h := HE.out w (Below.refl _ _)
  refine ⟨rfl, _, rfl, h.1.below ((Below.refl _ _).alloc (Nat.le_refl _) _), h.2.trans (Only.of_below ((Below.refl _ _).alloc (Nat.le_refl _) _))⟩

theorem Only.trans_new {S T : List Nat} {a b c : World} (h : Only S a b) (g : Only T b c) (ht : ∀ k, k ∈ T → k ∈ S ∨ a.heap.size ≤ k) : Only S a c :=
  ⟨g.os.trans h.os, g.tape.trans h.tape, g.output.trans h.output, Nat.le_trans h.size g.size, fun k hk hn => (g.block k (Nat.lt_of_lt_of_le hk h.size) (fun hm => by
    rcases ht k hm with h1 | h1
    · exact hn h1
    · omega)).trans (h.block k hk hn)⟩
set_option maxRecDepth 100000 in
set_option maxHeartbeats 4000000 in
theorem hpush_any (l : List Wt) (x : Wt) (v : Value) (gq : Nat) (w : World) (hq : QAt w gq v l) (hs : l.length ≤ 900000) (hh : Heap l l.length) :
    Calls Try.prog 25 #[.iface 69 (.pointer (some ⟨gq, 0, none⟩)), .iface 74 (wagg x)] w fun e w' => e = .returned (.tuple #[]) ∧ ∃ v' l', QAt w' gq v' l' ∧ l'.Perm (x :: l) ∧ Heap l' l'.length ∧ Only (gq :: v.ownBlock.toList) w w' ∧ (∃ g, v'.ownBlock = some g ∧ (v.ownBlock = some g ∨ w.heap.size ≤ g)) := by
  have hmp := m_push ⟨gq, 0, none⟩
  have HH := Lib.hid hh
  clear hh
  have hl1 : ((l ++ [x]).length : Int) - 1 = (l.length : Nat) := by simp
  go_enter Try.func25, Try.ntmps25
  go_wp2_with (first | (go_at_call 49; refine (qpush_any l x v gq _ hq (by omega)).mono ?_; rintro e w1 ⟨rfl, v1, hq1, ho1, g1, hv1, hn1⟩; have HV := Lib.hid hv1; clear hv1; have hml := m_len ⟨gq, 0, none⟩ v1 w1 hq1.cell) | (go_at_call 46; refine (len_any _ v1 0 w1 hq1.row).mono ?_; rintro e w2 ⟨rfl, rfl⟩) | (go_at_call 28; refine (up_any _ v1 gq g1 l.length w1 hq1 HV.out (by simp) (by simp; omega) (by simpa using UpI.start HH.out)).mono ?_; rintro e w2 ⟨rfl, l2, hp2, hh2, hq2, ho2⟩))
  go_end0
  refine ⟨rfl, v1, l2, hq2, hp2.trans (List.perm_append_comm (l₂ := [x])), hh2, ho1.trans_new ho2 (fun k hk => ?_), g1, HV.out, hn1⟩
  obtain rfl : k = g1 := by simpa using hk
  rcases hn1 with h | h
  · left; simp [h]
  · exact .inr h
set_option maxRecDepth 100000 in
set_option maxHeartbeats 4000000 in
theorem hpop_any (l : List Wt) (v : Value) (gq n : Nat) (w : World) (hq : QAt w gq v l) (hn : n + 1 = l.length) (hs : l.length ≤ 900000) (hh : Heap l l.length) :
    Calls Try.prog 27 #[.iface 69 (.pointer (some ⟨gq, 0, none⟩))] w fun e w' => e = .returned (.iface 74 (wagg (at' l 0))) ∧ ∃ v' l', QAt w' gq v' l' ∧ (at' l 0 :: l').Perm l ∧ Heap l' l'.length ∧ Only (gq :: v.ownBlock.toList) w w' ∧ v'.ownBlock = v.ownBlock := by
  obtain ⟨g, hv⟩ : ∃ g, v.ownBlock = some g := by
    obtain ⟨g, cap, rfl, _⟩ := hq.row.form (by omega)
    exact ⟨g, rfl⟩
  have hd := DnI.of_heap (hn ▸ hh) hn
  have HH := Lib.hid hh
  have HD := Lib.hid hd
  have hnn : (l.length : Int) - 1 = (n : Nat) := by omega
  have hnl : n < l.length := by omega
  have HN := Lib.hid hn
  have HV := Lib.hid hv
  clear hh hd hn hv
  have hmp := m_pop ⟨gq, 0, none⟩
  have hml := m_len ⟨gq, 0, none⟩ v w hq.cell
  have hms := m_swap ⟨gq, 0, none⟩ v w hq.cell
  go_enter Try.func27, Try.ntmps27
  go_wp2_with (first | (go_at_call 46; refine (len_any _ v 0 w hq.row).mono ?_; rintro e w2 ⟨rfl, rfl⟩) | (go_at_call 50; refine (swap_any l v 0 0 n w hq.row (by omega) (by omega)).mono ?_; rintro e w1 ⟨rfl, hr1, ho1⟩; have hq1 := hq.swapped HV.out (ho1 g HV.out) hr1) | (go_at_call 29; refine (down_any _ v gq g n w1 hq1 HV.out (by rw [swap_len]; omega) (by rw [swap_len]; omega) HD.out).mono ?_; rintro e w2 ⟨⟨b2, rfl⟩, l2, hp2, hh2, hq2, ho2⟩) | (go_at_call 48; refine (qpop_any l2 v gq g n w2 hq2 HV.out (by rw [hp2.1, swap_len]; exact HN.out) (by rw [hp2.1, swap_len]; omega)).mono ?_; rintro e w3 ⟨rfl, v3, hv3, hq3, ho3⟩))
  have e1 : at' l2 n = at' l 0 := by
    have h1 := congrArg (fun m => at' m 0) hp2.2.2
    simp only [at', List.getD_eq_getElem?_getD, List.getElem?_drop, Nat.add_zero] at h1
    have h2 := at_swap l 0 n n (by omega) hnl
    rw [if_pos rfl] at h2
    rw [← h2]
    simpa [at'] using h1
  go_ret
  refine ⟨by rw [e1]; rfl, v3, _, hq3, ?_, ?_, ?_, by rw [hv3, HV.out]⟩
  · have h3 : (l2.take n ++ l2.drop n).Perm (Nt.swap l 0 n) := by
      rw [hp2.2.2]
      exact (hp2.2.1.append_right _).trans (by rw [List.take_append_drop])
    have h4 : l2.drop n = [at' l2 n] := by
      have hl2 : l2.length = n + 1 := by rw [hp2.1, swap_len]; exact HN.out.symm
      rw [List.drop_eq_getElem_cons (by omega), List.drop_eq_nil_of_le (by omega), at_lt]
    rw [h4, e1] at h3
    exact ((List.perm_append_comm (l₁ := [at' l 0])).trans h3).trans (swap_perm l 0 n (by omega) hnl)
  · have hl2 : l2.length = n + 1 := by rw [hp2.1, swap_len]; exact HN.out.symm
    intro k h0 h1
    have h1 : k < n := by simp at h1; omega
    rw [at_take h1, at_take (by unfold par; omega)]
    exact hh2 k h0 h1
  · rw [HV.out]
    exact (((ho1 g HV.out).mono (by simp)).trans (ho2.mono (by simp))).trans ho3
end Go.Proofs.Ytffijemgcgbjoaa
