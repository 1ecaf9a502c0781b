/- Send. -/
import Derived.Test.YtffijemgcgbjoaaNd
import Derived.Deep.DeepCutAuto
import Derived.Deep.CutRange
namespace Go.Proofs.Ytffijemgcgbjoaa
open Go.RowKit Nt

def mcells (m : Msg) : List Value := [.int .i64 m.fr, .int .i64 m.to, .string m.text]
theorem tat_trb (s : NS) (h : ¬ s.script.length = 0) : tat s.script (s.sent % s.script.length) = s.trb := by
  unfold NS.trb; rw [if_neg h]; rfl
theorem trb_none (s : NS) (h : s.script.length = 0) : s.trb = ⟨false, 1, 1⟩ := by
  unfold NS.trb; rw [if_pos h]
/-- after 'n.sent++' -/
theorem NetC.sent {w : World} {p : Nat} {A Q : List Nat} {s : NS} {sv gv cv : Value} (h : NetC w p A Q s sv gv cv) : NetC (w.setCell ⟨p, 4, none⟩ (.int .i64 ((s.sent : Int) + 1))) p A Q { s with sent := s.sent + 1 } sv gv cv := by
  have ho : Only [p] w (w.setCell ⟨p, 4, none⟩ (.int .i64 ((s.sent : Int) + 1))) := (Only.refl _ _).setCell (by simp) _
  have ha : ∀ k, k ∈ A → k ∉ [p] := fun k hk => by simp only [List.mem_singleton]; rintro rfl; exact h.pA hk
  have hq : ∀ k, k ∈ Q → k ∉ [p] := fun k hk => by simp only [List.mem_singleton]; rintro rfl; exact h.pQ hk
  exact ⟨h.row.put 4 _ (by simp), h.sc.only ho (fun g hg => ha g (h.sA g hg)), h.sA, h.gs.only ho ha, h.cs.only ho hq, fun k hk => Nat.lt_of_lt_of_le (h.lt k hk) ho.size, h.pA, h.pQ, h.aq⟩
/-- a queue is made -/
theorem NetC.queue {w : World} {p : Nat} {A Q : List Nat} {s : NS} {sv gv cv : Value} (h : NetC w p A Q s sv gv cv) (hL : s.L = []) :
    NetC (((w.alloc (.cells #[] 74)).alloc (.cells #[.slice (some ⟨w.heap.size, 0, none⟩) 0 0] 71)).setCell ⟨p, 3, none⟩ (.iface 69 (.pointer (some ⟨w.heap.size + 1, 0, none⟩)))) p A [w.heap.size + 1, w.heap.size] s sv gv (.iface 69 (.pointer (some ⟨w.heap.size + 1, 0, none⟩))) ∧ Only [p] w (((w.alloc (.cells #[] 74)).alloc (.cells #[.slice (some ⟨w.heap.size, 0, none⟩) 0 0] 71)).setCell ⟨p, 3, none⟩ (.iface 69 (.pointer (some ⟨w.heap.size + 1, 0, none⟩)))) := by
  have hp : p < w.heap.size := h.lt p (by simp)
  have hb : Below w.heap.size w ((w.alloc (.cells #[] 74)).alloc (.cells #[.slice (some ⟨w.heap.size, 0, none⟩) 0 0] 71)) := ((Below.refl _ _).alloc (Nat.le_refl _) _).alloc (by simp) _
  have ho1 : Only [p] ((w.alloc (.cells #[] 74)).alloc (.cells #[.slice (some ⟨w.heap.size, 0, none⟩) 0 0] 71)) (((w.alloc (.cells #[] 74)).alloc (.cells #[.slice (some ⟨w.heap.size, 0, none⟩) 0 0] 71)).setCell ⟨p, 3, none⟩ (.iface 69 (.pointer (some ⟨w.heap.size + 1, 0, none⟩)))) := (Only.refl _ _).setCell (by simp) _
  have ho : Only [p] w (((w.alloc (.cells #[] 74)).alloc (.cells #[.slice (some ⟨w.heap.size, 0, none⟩) 0 0] 71)).setCell ⟨p, 3, none⟩ (.iface 69 (.pointer (some ⟨w.heap.size + 1, 0, none⟩)))) := (Only.of_below hb).trans ho1
  have ha : ∀ k, k ∈ A → k ∉ [p] := fun k hk => by simp only [List.mem_singleton]; rintro rfl; exact h.pA hk
  have hr := (Row.new (w.alloc (.cells #[] 74)) (w.heap.size + 1) (by simp) [.slice (some ⟨w.heap.size, 0, none⟩) 0 0] 71).other (p := ⟨p, 3, none⟩) (by simp; omega) (.iface 69 (.pointer (some ⟨w.heap.size + 1, 0, none⟩)))
  have hw : Wts (((w.alloc (.cells #[] 74)).alloc (.cells #[.slice (some ⟨w.heap.size, 0, none⟩) 0 0] 71)).setCell ⟨p, 3, none⟩ (.iface 69 (.pointer (some ⟨w.heap.size + 1, 0, none⟩)))) 0 (.slice (some ⟨w.heap.size, 0, none⟩) 0 0) [] := by
    have := World.ownsRow_lit (e := 74) (size := 5) (base := 0) w #[] 0 (Nat.zero_le _) (by simp [maxLen]) rfl
    exact row_only (World.ownsRow.alloc this _) ho1 (fun g hg => by simp [Value.ownBlock] at hg; simp; omega)
  refine ⟨⟨((h.row.alloc _).alloc _).put 3 _ (by simp), h.sc.only ho (fun g hg => ha g (h.sA g hg)), h.sA, h.gs.only ho ha, .inr ⟨_, _, [], rfl, ⟨hr.at 0 rfl, hw, hr.lt, fun g hg => ?_, hr.fr 0 rfl⟩, fun k h0 h1 => by simp at h1, by rw [hL], by simp, fun g hg => ?_⟩, fun k hk => ?_, h.pA, by simp; omega, fun k hk => ?_⟩, ho⟩
  · simp [Value.ownBlock] at hg; omega
  · simp [Value.ownBlock] at hg; simp [hg]
  · simp only [List.mem_cons, List.mem_append, List.not_mem_nil, or_false] at hk
    simp
    rcases hk with rfl | hk | rfl | rfl
    · omega
    · have := h.lt k (by simp [hk]); omega
    · omega
    · omega
  · have := h.lt k (by simp [hk])
    simp; omega
/-- a copy is pushed -/
theorem push_end {w w' : World} {p gq : Nat} {A Q : List Nat} {s : NS} {sv gv v v' : Value} {l l' : List Wt} {x : Wt} (hc : NetC w p A Q s sv gv (.iface 69 (.pointer (some ⟨gq, 0, none⟩))))
    (hp : l.Perm s.L) (hgq : gq ∈ Q) (hv : ∀ g, v.ownBlock = some g → g ∈ Q)
    (hq' : QAt w' gq v' l') (hp' : l'.Perm (x :: l)) (hh' : Heap l' l'.length) (ho : Only (gq :: v.ownBlock.toList) w w') (hv' : ∃ g, v'.ownBlock = some g ∧ (v.ownBlock = some g ∨ w.heap.size ≤ g)) :
    ∃ Q', NetC w' p A Q' { s with L := ins x s.L } sv gv (.iface 69 (.pointer (some ⟨gq, 0, none⟩))) ∧ Mv (p :: (A ++ Q)) (p :: (A ++ Q')) w w' := by
  obtain ⟨g, hg, hg2⟩ := hv'
  have hgg : g ∈ Q ∨ w.heap.size ≤ g := hg2.imp (hv g) id
  have hoQ : Only Q w w' := ho.mono (fun k hk => by
    rcases List.mem_cons.1 hk with rfl | hk
    · exact hgq
    · exact hv k (by simpa using hk))
  have hlp : p < w.heap.size := hc.lt p (by simp)
  refine ⟨g :: Q, ⟨hc.row.only hoQ hc.pQ, hc.sc.only hoQ (fun g hg => hc.aq g (hc.sA g hg)), hc.sA, hc.gs.only hoQ hc.aq, .inr ⟨gq, v', l', rfl, hq', hh', (hp'.trans (List.Perm.cons x hp)).trans (ins_perm x s.L).symm, by simp [hgq], fun g' hg' => ?_⟩, fun k hk => ?_, hc.pA, ?_, fun k hk hk2 => ?_⟩, hoQ.mono (by simp; grind), fun k hk => ?_⟩
  · rw [hg] at hg'; simp at hg'; simp [hg']
  · have hz := ho.size
    simp only [List.mem_cons, List.mem_append] at hk
    rcases hk with rfl | hk | rfl | hk
    · omega
    · have := hc.lt k (by simp [hk]); omega
    · exact hq'.row.lt hg
    · have := hc.lt k (by simp [hk]); omega
  · simp only [List.mem_cons, not_or]
    refine ⟨?_, hc.pQ⟩
    rintro rfl
    rcases hgg with h | h
    · exact hc.pQ h
    · omega
  · rcases List.mem_cons.1 hk2 with rfl | hk2
    · rcases hgg with h | h
      · exact hc.aq k hk h
      · have := hc.lt k (by simp [hk]); omega
    · exact hc.aq k hk hk2
  · simp only [List.mem_cons, List.mem_append] at hk ⊢
    rcases hk with hk | hk | rfl | hk
    · exact .inl (.inl hk)
    · exact .inl (.inr (.inl hk))
    · exact hgg.imp (fun h => .inr (.inr h)) id
    · exact .inl (.inr (.inr hk))
set_option maxHeartbeats 1000000 in
theorem send_nil (now : Int) (m : Msg) (w : World) :
    Calls Try.prog 15 #[.pointer none, .int .i64 now, magg m] w fun e w' => e = .returned (.tuple #[]) ∧ Below w.heap.size w w' := by
  unfold magg
  go_enter Try.func15, Try.ntmps15
  go_wp2_with fail
  exact bodyPost_ret (v := .tuple #[]) (by simp [results, Try.results15, go_sem]) rfl ⟨rfl, (Below.refl _ _).alloc (Nat.le_refl _) _⟩
theorem node_quiet {w : World} {p : Nat} {A Q : List Nat} {s : NS} {sv gv cv : Value} {k : Int} {n : Nat} (h : NetC w p A Q s sv gv cv) :
    Calls Try.prog 24 #[.pointer (some ⟨p, 0, none⟩), .int .i64 k] (w.drewN n) fun e w'' => e = .returned (.bool (nodeB s.nodes k)) ∧ ∃ m, w'' = w.drewN m :=
  (node_any p s.nodes k (w.drewN n) (h.below (below_drewN (Below.refl _ _) n)).c0).mono fun _ _ ⟨he, hw⟩ => ⟨he, n, hw.symm⟩
theorem look_quiet {w : World} {p : Nat} {A Q : List Nat} {s : NS} {sv gv cv : Value} {k : Int} {n : Nat} (hk : (Lit.int .i64 k).wf = true) (h : NetC w p A Q s sv gv cv) :
    (Instr.lookup 52 gv (.int .i64 k) false).run Try.prog (w.drewN n) = .ok (.int .i64 (s.gr k)) (w.drewN n) := (h.below (below_drewN (Below.refl _ _) n)).gs.look k hk
theorem cat_test {w : World} {Q : List Nat} {cv : Value} {L : List Wt} (h : CAt w Q cv L) : ∃ b : Bool, (∀ w, (binOp .eql 54 cv .nilIface).run Try.prog w = .ok (.bool b) w) ∧ (∀ w, (eqGuard .eql 54 (.tmp 80) (.const .nilIface) cv .nilIface).run Try.prog w = .ok () w) ∧ ((b = true ∧ cv = .nilIface ∧ L = []) ∨ (b = false ∧ ∃ gq, cv = .iface 69 (.pointer (some ⟨gq, 0, none⟩)))) := by
  rcases h with ⟨rfl, rfl⟩ | ⟨gq, v, l, rfl, _⟩
  · exact ⟨true, fun _ => by kernel_rfl, fun _ => by kernel_rfl, .inl ⟨rfl, rfl, rfl⟩⟩
  · exact ⟨false, fun _ => by kernel_rfl, fun _ => by kernel_rfl, .inr ⟨rfl, gq, rfl⟩⟩
theorem hpush_f (l : List Wt) (t n f o : Int) (tx : ByteArray) (v : Value) (gq : Nat) (w : World) (hq : QAt w gq v l) (hs : l.length ≤ 900000) (hh : Heap l l.length) :
    Calls Try.prog 25 #[.iface 69 (.pointer (some ⟨gq, 0, none⟩)), .iface 74 (.agg #[.int .i64 t, .int .i64 n, .int .i64 f, .int .i64 o, .string tx])] w fun e w' => e = .returned (.tuple #[]) ∧ ∃ v' l', QAt w' gq v' l' ∧ l'.Perm (⟨t, n, f, o, tx⟩ :: l) ∧ Heap l' l'.length ∧ Only (gq :: v.ownBlock.toList) w w' ∧ (∃ g, v'.ownBlock = some g ∧ (v.ownBlock = some g ∨ w.heap.size ≤ g)) := hpush_any l ⟨t, n, f, o, tx⟩ v gq w hq hs hh
/-- the net at p becomes s -/
def NetPost (p : Nat) (S : List Nat) (s : NS) (w : World) (e : Ending) (w' : World) : Prop := e = .returned (.tuple #[]) ∧ ∃ S', NetAt w' p S' s ∧ Mv S S' w w'
set_option maxRecDepth 100000 in
set_option maxHeartbeats 8000000 in
theorem send_any (p : Nat) (S : List Nat) (s : NS) (now : Int) (m : Msg) (w : World) (h : NetAt w p S s) (hs : s.sent ≤ 9000) (hnow : s.goes m = true → -1000000000000 ≤ now ∧ now ≤ 1000000000000 ∧ s.trb.delay ≤ 1000000000000) :
    Calls Try.prog 15 #[.pointer (some ⟨p, 0, none⟩), .int .i64 now, magg m] w (NetPost p S (s.send now m) w) := by
  obtain ⟨A, Q, sv, gv, cv, rfl, hc, hg, hn, hsl⟩ := h
  have hc2 := hc.below (((Below.refl w.heap.size w).alloc (Nat.le_refl _) (.cells #[.int .i64 m.fr, .int .i64 m.to, .string m.text] 31)).alloc (by simp) (.cells #[.bool false, .int .i64 1, .int .i64 1] 44))
  have hb1 := (Row.new w _ rfl (mcells m) 31).alloc (.cells #[.bool false, .int .i64 1, .int .i64 1] 44)
  have hb2 := Row.new (w.alloc (.cells #[.int .i64 m.fr, .int .i64 m.to, .string m.text] 31)) (w.heap.size + 1) (by simp) [.bool false, .int .i64 1, .int .i64 1] 44
  have hlp : p < w.heap.size := hc.lt p (by simp)
  have c1 := hc2.c1
  have c4 := hc2.c4
  obtain ⟨sa, scap, rfl, hscap, hscm⟩ := hc.sc.len
  unfold maxLen at hscm
  unfold magg
  go_enter Try.func15, Try.ntmps15
  go_upto_if 17 with fail
  go_cut [18] (fun _ wx => Row wx w.heap.size (mcells m) ∧ Row wx (w.heap.size + 1) (tcells s.trb) ∧ Below w.heap.size w wx)
  case first =>
    by_cases h0 : s.script.length = 0
    · have HT := Lib.hid (trb_none s h0)
      have h00 : ¬ 0 < s.script.length := by omega
      have H0 := Lib.hid h0
      clear h0
      go_wp2_with fail
      go_meet
      case rel => exact ⟨hb1, by rw [HT.out]; exact hb2, ((Below.refl _ _).alloc (Nat.le_refl _) _).alloc (by simp) _⟩
    · have h00 : 0 < s.script.length := by omega
      obtain ⟨g, cap, e, _, hgl, _, _⟩ := hc.sc.form h00
      simp only [Value.slice.injEq, true_and] at e
      obtain ⟨rfl, rfl⟩ := e
      have HT := Lib.hid (tat_trb s h0)
      obtain ⟨r, hr⟩ : ∃ r : Nat, r = s.sent % s.script.length := ⟨_, rfl⟩
      have hrl : r < s.script.length := by rw [hr]; exact Nat.mod_lt _ h00
      have hm1 : (s.sent : Int).tmod (s.script.length : Int) = (r : Int) := by rw [hr]; rw [Int.tmod_eq_emod_of_nonneg (by omega)]; omega
      obtain ⟨e0, e1, e2⟩ := hc2.sc.at r hrl
      have HR := Lib.hid hr
      clear hr h0
      have i0 : (0 : Int) ≤ (r : Int) := by omega
      have i1 : (r : Int) < (s.script.length : Int) := by omega
      have b0 := hb2.at 0 rfl
      have b1 := hb2.at 1 rfl
      have b2 := hb2.at 2 rfl
      have b0f := hb2.fr 0 rfl
      have b1f := hb2.fr 1 rfl
      have b2f := hb2.fr 2 rfl
      go_wp2_with fail
      go_region
      go_wp2_with fail
      go_meet
      case rel => exact ⟨((Row.new w _ rfl (mcells m) 31).alloc _).drew, by rw [← HT.out, ← HR.out]; exact (Row.new (w.alloc (.cells #[.int .i64 m.fr, .int .i64 m.to, .string m.text] 31)) (w.heap.size + 1) (by simp) (tcells (tat s.script r)) 44).drew, (((Below.refl _ _).alloc (Nat.le_refl _) _).alloc (by simp) _).drew⟩
  case rest =>
    obtain ⟨hm, ht, hb⟩ := hcut
    clear hb1 hb2 hc2 c1 c4
    have hc3 := hc.below hb
    have c4 := hc3.c4
    have f4 := hc3.f4
    go_upto_region 7 with fail
    have hcs := hc3.sent
    have hm1 := hm.other (p := ⟨p, 4, none⟩) (by simp; omega) (.int .i64 ((s.sent : Int) + 1))
    have ht1 := ht.other (p := ⟨p, 4, none⟩) (by simp; omega) (.int .i64 ((s.sent : Int) + 1))
    have ho1 : Only [p] w (wc.setCell ⟨p, 4, none⟩ (.int .i64 ((s.sent : Int) + 1))) := (Only.of_below hb).setCell (by simp) _
    have hz1 := ho1.size
    generalize wc.setCell ⟨p, 4, none⟩ (.int .i64 ((s.sent : Int) + 1)) = W1 at *
    clear hc3 c4 f4 hb hm ht
    go_cut [76] (fun b wx => b = .bool (!s.goes m) ∧ Below W1.heap.size W1 wx)
    case first =>
      have m0 := hm1.at 0 rfl
      have m1 := hm1.at 1 rfl
      have t0 := ht1.at 0 rfl
      have c2 := hcs.c2
      have hnode := fun k n => node_quiet (k := k) (n := n) hcs
      have hlook := fun k n hk => look_quiet (k := k) (n := n) hk hcs
      by_cases hl : s.trb.lost = true
      · rw [hl] at t0
        have HG := Lib.hid (show s.goes m = false by simp [NS.goes, hl])
        clear hl hnode hlook
        go_quiet (fail)
        go_wp2_with fail
        go_meet
        case rel => exact ⟨by rw [HG.out]; rfl, below_drewN (Below.refl _ _) _⟩
      · have hl : s.trb.lost = false := by simpa using hl
        rw [hl] at t0
        by_cases hto : nodeB s.nodes m.to = true
        · have n1 := fun n => hnode m.to n
          rw [hto] at n1
          have N1 := Lib.hid n1
          clear n1
          have hto2 := nodeB_true.1 hto
          have l1 := fun n => hlook m.to n (WalkArith.wf_i64 (by omega))
          by_cases hfr : nodeB s.nodes m.fr = true
          · have n2 := fun n => hnode m.fr n
            rw [hfr] at n2
            have N2 := Lib.hid n2
            clear n2
            have hfr2 := nodeB_true.1 hfr
            have l2 := fun n => hlook m.fr n (WalkArith.wf_i64 (by omega))
            by_cases hgr : s.gr m.fr = s.gr m.to
            · have HG := Lib.hid (show s.goes m = true by simp [NS.goes, NS.node, hl, hto, hgr])
              have hgb : (s.gr m.fr != s.gr m.to) = false := by simp [hgr]
              clear hl hnode hlook hto hfr hgr
              go_quiet (first | (go_at_call 24; first | (with_reducible exact N1.out _) | (with_reducible exact N2.out _)))
              go_wp2_with fail
              go_meet
              case rel => exact ⟨by rw [HG.out]; rfl, below_drewN (Below.refl _ _) _⟩
            · have HG := Lib.hid (show s.goes m = false by simp [NS.goes, NS.node, hl, hto, hfr, hgr])
              have hgb : (s.gr m.fr != s.gr m.to) = true := by simp [hgr]
              clear hl hnode hlook hto hfr hgr
              go_quiet (first | (go_at_call 24; first | (with_reducible exact N1.out _) | (with_reducible exact N2.out _)))
              go_wp2_with fail
              go_meet
              case rel => exact ⟨by rw [HG.out]; rfl, below_drewN (Below.refl _ _) _⟩
          · have hfr : nodeB s.nodes m.fr = false := by simpa using hfr
            have n2 := fun n => hnode m.fr n
            rw [hfr] at n2
            have N2 := Lib.hid n2
            clear n2
            have HG := Lib.hid (show s.goes m = true by simp [NS.goes, NS.node, hl, hto, hfr])
            clear hl hnode hlook hto hfr l1
            go_quiet (first | (go_at_call 24; first | (with_reducible exact N1.out _) | (with_reducible exact N2.out _)))
            go_wp2_with fail
            go_meet
            case rel => exact ⟨by rw [HG.out]; rfl, below_drewN (Below.refl _ _) _⟩
        · have hto : nodeB s.nodes m.to = false := by simpa using hto
          have n1 := fun n => hnode m.to n
          rw [hto] at n1
          have N1 := Lib.hid n1
          clear n1
          have HG := Lib.hid (show s.goes m = false by simp [NS.goes, NS.node, hl, hto])
          clear hl hnode hlook hto
          go_quiet (first | (go_at_call 24; with_reducible exact N1.out _))
          go_wp2_with fail
          go_meet
          case rel => exact ⟨by rw [HG.out]; rfl, below_drewN (Below.refl _ _) _⟩
    case rest =>
      obtain ⟨rfl, hb2⟩ := hcut
      have hc4 := hcs.below hb2
      have hm2 := hm1.below hb2
      have ht2 := ht1.below hb2
      have ho2 := ho1.trans (Only.of_below hb2)
      clear hcs hm1 ht1 ho1 hb2 hz1
      by_cases hgo : s.goes m = true
      · obtain ⟨hn1, hn2, hn3⟩ := hnow hgo
        have HS := Lib.hid (show s.send now m = { s with sent := s.sent + 1, L := insUpto now s.trb.delay s.sent m s.L (num s.trb.copies) } by unfold NS.send; rw [if_pos hgo])
        rw [hgo]
        clear hgo hnow
        obtain ⟨b, hbr, hbg, hbc⟩ := cat_test hc4.cs
        have HB := Lib.hid hbc
        clear hbc
        have c3 := hc4.c3
        have f3 := hc4.f3
        have hz2 := ho2.size
        go_upto_if 81 with fail
        go_cut [82] (fun _ wx => ∃ (Q2 : List Nat) (gq : Nat), NetC wx p A Q2 { s with sent := s.sent + 1 } (.slice sa s.script.length scap) gv (.iface 69 (.pointer (some ⟨gq, 0, none⟩))) ∧ Row wx w.heap.size (mcells m) ∧ Row wx (w.heap.size + 1) (tcells s.trb) ∧ Mv (p :: (A ++ Q)) (p :: (A ++ Q2)) w wx ∧ (w.heap.size ∉ p :: (A ++ Q2) ∧ w.heap.size + 1 ∉ p :: (A ++ Q2)))
        case first =>
          rcases HB.out with ⟨rfl, rfl, hL⟩ | ⟨rfl, gq, rfl⟩
          · have HL := Lib.hid hL
            clear hL
            have hp1 : ¬ p = wc.heap.size := by omega
            have hp2 : ¬ p = wc.heap.size + 1 := by omega
            have c3a := keep_alloc (o := .cells #[] 74) c3
            have c3b := keep_alloc (o := .cells #[.slice (some ⟨wc.heap.size, 0, none⟩) 0 0] 71) c3a
            have f3a := fr_alloc (o := .cells #[] 74) (by omega) f3
            have f3b := fr_alloc (o := .cells #[.slice (some ⟨wc.heap.size, 0, none⟩) 0 0] 71) (by simp; omega) f3a
            go_wp2_with fail
            go_meet
            case rel =>
              obtain ⟨hq1, hq2⟩ := hc4.queue HL.out
              refine ⟨_, _, hq1, hm2.only hq2 (by simp; omega), ht2.only hq2 (by simp; omega), ⟨(ho2.trans hq2).mono (by simp), fun k hk => ?_⟩, ?_⟩
              rotate_left
              · have h1 := ht2.lt
                have h2 : ∀ k, k ∈ A → k < w.heap.size := fun k hk => hc.lt k (by simp [hk])
                constructor
                · intro hm; simp at hm; rcases hm with h | h | h <;> first | omega | (have := h2 _ h; omega)
                · intro hm; simp at hm; rcases hm with h | h | h <;> first | omega | (have := h2 _ h; omega)
              simp only [List.mem_cons, List.mem_append, List.not_mem_nil, or_false] at hk ⊢
              rcases hk with hk | hk | hk | hk
              · exact .inl (.inl hk)
              · exact .inl (.inr (.inl hk))
              · exact .inr (by omega)
              · exact .inr (by omega)
          · go_wp2_with fail
            go_meet
            case rel => exact ⟨Q, gq, hc4, hm2, ht2, ⟨ho2.mono (by simp), fun _ h => .inl h⟩, fun hm => by have := hc.lt _ hm; omega, fun hm => by have := hc.lt _ hm; omega⟩
        case rest =>
          obtain ⟨Q2, gq, hc5, hm3, ht3, hmv, hout⟩ := hcut
          clear hm2 ht2 ho2 hc4 hbr hbg c3 f3 HB hz2
          have t1 := ht3.at 1 rfl
          obtain ⟨N, hN⟩ : ∃ N : Nat, N = num s.trb.copies := ⟨_, rfl⟩
          have hN2 := num_le s.trb.copies
          rw [← hN] at hN2
          have HN := Lib.hid hN
          clear hN
          go_upto_region 10 with fail
          go_cut [91, 92] (fun a b wx => a = .int .i64 (N : Int) ∧ b = .int .i64 0 ∧ wx = wc)
          case first =>
            go_wp2_with fail
            all_goals go_meet
            all_goals exact ⟨congrArg (Value.int .i64) (by rw [HN.out]; unfold num; omega), rfl, rfl⟩
          case rest =>
            obtain ⟨rfl, rfl, rfl⟩ := hcut
            go_wp2_with fail
            go_loopw [8, 92] (fun _ i wr => ∃ (j : Nat) (Q3 : List Nat), j ≤ N ∧ i = .int .i64 j ∧ NetC wr p A Q3 { s with sent := s.sent + 1, L := insUpto now s.trb.delay s.sent m s.L j } (.slice sa s.script.length scap) gv (.iface 69 (.pointer (some ⟨gq, 0, none⟩))) ∧ Row wr w.heap.size (mcells m) ∧ Row wr (w.heap.size + 1) (tcells s.trb) ∧ Mv (p :: (A ++ Q)) (p :: (A ++ Q3)) w wr ∧ (w.heap.size ∉ p :: (A ++ Q3) ∧ w.heap.size + 1 ∉ p :: (A ++ Q3))) (fun _ i _ => N - (intOf i).toNat)
            case atStart => exact ⟨0, Q2, Nat.zero_le _, rfl, hc5, hm3, ht3, hmv, hout⟩
            case round =>
              obtain ⟨j, Q3, hj, rfl, hc6, hm4, ht4, hmv4, hout4⟩ := hrel
              clear hc5 hm3 ht3 hmv t1 hout
              by_cases hlt : j < N
              · have q3 := hc6.c3
                have t2 := ht4.at 2 rfl
                have m0 := hm4.at 0 rfl
                have m1 := hm4.at 1 rfl
                have m2 := hm4.at 2 rfl
                obtain ⟨gq', v, l, e, hq, hh, hp, hgq, hv⟩ : ∃ (gq' : Nat) (v : Value) (l : List Wt), gq' = gq ∧ QAt wr gq' v l ∧ Heap l l.length ∧ l.Perm (insUpto now s.trb.delay s.sent m s.L j) ∧ gq' ∈ Q3 ∧ ∀ g, v.ownBlock = some g → g ∈ Q3 := by
                  rcases hc6.cs with ⟨h, _⟩ | ⟨gq', v, l, e, h⟩
                  · cases h
                  · exact ⟨gq', v, l, by simp at e; exact e.symm, h⟩
                subst e
                have hlen : l.length ≤ 900000 := by
                  have := hp.length_eq
                  rw [insUpto_len] at this
                  have := hg.few
                  omega
                have hS : p ∉ gq' :: v.ownBlock.toList ∧ w.heap.size ∉ gq' :: v.ownBlock.toList ∧ w.heap.size + 1 ∉ gq' :: v.ownBlock.toList := by
                  have key : ∀ k, k ∈ gq' :: v.ownBlock.toList → k ∈ Q3 := fun k hk => by
                    rcases List.mem_cons.1 hk with rfl | hk
                    · exact hgq
                    · exact hv k (by simpa using hk)
                  exact ⟨fun hm => hc6.pQ (key _ hm), fun hm => hout4.1 (by simp [key _ hm]), fun hm => hout4.2 (by simp [key _ hm])⟩
                have hstep := fun x w' v' l' => push_end (x := x) (w' := w') (v' := v') (l' := l') hc6 hp hgq hv
                have HP := Lib.hid hstep
                have HS' := Lib.hid hS
                clear hstep hp hS
                have hpl : p < wr.heap.size := hc6.lt p (by simp)
                have hj8 : j ≤ 8 := by omega
                by_cases hd : s.trb.delay < 0
                · have w1 : IntKind.i64.wrap now = now := IntWalk.i64_in _ (by omega)
                  have w2 : IntKind.i64.wrap (now + j) = now + j := IntWalk.i64_in _ (by omega)
                  have hx : cop now s.trb.delay s.sent m j = ⟨now + j, s.sent, m.fr, m.to, m.text⟩ := by unfold cop; congr 1; omega
                  have HX := Lib.hid hx
                  clear hx
                  go_wp2_with fail
                  go_region_held3 (fun w' => w'.cell? ⟨p, 3, none⟩ = some (.iface 69 (.pointer (some ⟨gq', 0, none⟩))) ∧ w'.cell? ⟨w.heap.size + 1, 2, none⟩ = some (.int .i64 s.trb.delay) ∧ w'.cell? ⟨w.heap.size, 0, none⟩ = some (.int .i64 m.fr) ∧ w'.cell? ⟨w.heap.size, 1, none⟩ = some (.int .i64 m.to) ∧ w'.cell? ⟨w.heap.size, 1 + 1, none⟩ = some (.string m.text)) (go_keep) (first | (go_at_call 25; (with_reducible refine (hpush_f l _ _ _ _ _ v gq' _ (hq.below (Below.refl _ _).drew) hlen hh).mono ?_); rintro e w5 ⟨rfl, v5, l5, hq5, hp5, hh5, ho5, hv5⟩; have q5 : w5.cell? ⟨p, 3, none⟩ = some (.iface 69 (.pointer (some ⟨gq', 0, none⟩))) := cell_only (w := wr) q3 ⟨ho5.os, ho5.tape, ho5.output, ho5.size, ho5.block⟩ hpl (HS'.out).1; have t5 : w5.cell? ⟨w.heap.size + 1, 2, none⟩ = some (.int .i64 s.trb.delay) := cell_only (w := wr) t2 ⟨ho5.os, ho5.tape, ho5.output, ho5.size, ho5.block⟩ ht4.lt (HS'.out).2.2; have m50 : w5.cell? ⟨w.heap.size, 0, none⟩ = some (.int .i64 m.fr) := cell_only (w := wr) m0 ⟨ho5.os, ho5.tape, ho5.output, ho5.size, ho5.block⟩ hm4.lt (HS'.out).2.1; have m51 : w5.cell? ⟨w.heap.size, 1, none⟩ = some (.int .i64 m.to) := cell_only (w := wr) m1 ⟨ho5.os, ho5.tape, ho5.output, ho5.size, ho5.block⟩ hm4.lt (HS'.out).2.1; have m52 : w5.cell? ⟨w.heap.size, 1 + 1, none⟩ = some (.string m.text) := cell_only (w := wr) m2 ⟨ho5.os, ho5.tape, ho5.output, ho5.size, ho5.block⟩ hm4.lt (HS'.out).2.1))
                  go_wp2_with fail
                  have ho6 : Only (gq' :: v.ownBlock.toList) wr w5 := ⟨ho5.os, ho5.tape, ho5.output, ho5.size, ho5.block⟩
                  obtain ⟨Q5, hc7, hmv7⟩ := HP.out _ w5 v5 l5 hq5 hp5 hh5 ho6 hv5
                  go_roundw
                  case rel => exact ⟨j + 1, Q5, by omega, by go_num, by rw [insUpto, HX.out]; exact hc7, hm4.only ho6 (HS'.out).2.1, ht4.only ho6 (HS'.out).2.2, hmv4.trans hmv7, (hmv7.out hout4.1 hm4.lt).1, (hmv7.out hout4.2 ht4.lt).1⟩
                  case measure => simp [intOf]; omega
                · have hx : cop now s.trb.delay s.sent m j = ⟨IntKind.i64.wrap (IntKind.i64.wrap (now + if s.trb.delay < 0 then 0 else s.trb.delay) + j), s.sent, m.fr, m.to, m.text⟩ := by
                    rw [if_neg hd, IntWalk.i64_in (now + s.trb.delay) (by omega), IntWalk.i64_in _ (by omega)]; unfold cop; congr 1; omega
                  have HX := Lib.hid hx
                  clear hx
                  go_wp2_with fail
                  go_region_held3 (fun w' => w'.cell? ⟨p, 3, none⟩ = some (.iface 69 (.pointer (some ⟨gq', 0, none⟩))) ∧ w'.cell? ⟨w.heap.size + 1, 2, none⟩ = some (.int .i64 s.trb.delay) ∧ w'.cell? ⟨w.heap.size, 0, none⟩ = some (.int .i64 m.fr) ∧ w'.cell? ⟨w.heap.size, 1, none⟩ = some (.int .i64 m.to) ∧ w'.cell? ⟨w.heap.size, 1 + 1, none⟩ = some (.string m.text)) (go_keep) (first | (go_at_call 25; (with_reducible refine (hpush_f l _ _ _ _ _ v gq' _ (hq.below (Below.refl _ _).drew) hlen hh).mono ?_); rintro e w5 ⟨rfl, v5, l5, hq5, hp5, hh5, ho5, hv5⟩; have q5 : w5.cell? ⟨p, 3, none⟩ = some (.iface 69 (.pointer (some ⟨gq', 0, none⟩))) := cell_only (w := wr) q3 ⟨ho5.os, ho5.tape, ho5.output, ho5.size, ho5.block⟩ hpl (HS'.out).1; have t5 : w5.cell? ⟨w.heap.size + 1, 2, none⟩ = some (.int .i64 s.trb.delay) := cell_only (w := wr) t2 ⟨ho5.os, ho5.tape, ho5.output, ho5.size, ho5.block⟩ ht4.lt (HS'.out).2.2; have m50 : w5.cell? ⟨w.heap.size, 0, none⟩ = some (.int .i64 m.fr) := cell_only (w := wr) m0 ⟨ho5.os, ho5.tape, ho5.output, ho5.size, ho5.block⟩ hm4.lt (HS'.out).2.1; have m51 : w5.cell? ⟨w.heap.size, 1, none⟩ = some (.int .i64 m.to) := cell_only (w := wr) m1 ⟨ho5.os, ho5.tape, ho5.output, ho5.size, ho5.block⟩ hm4.lt (HS'.out).2.1; have m52 : w5.cell? ⟨w.heap.size, 1 + 1, none⟩ = some (.string m.text) := cell_only (w := wr) m2 ⟨ho5.os, ho5.tape, ho5.output, ho5.size, ho5.block⟩ hm4.lt (HS'.out).2.1))
                  go_wp2_with fail
                  have ho6 : Only (gq' :: v.ownBlock.toList) wr w5 := ⟨ho5.os, ho5.tape, ho5.output, ho5.size, ho5.block⟩
                  obtain ⟨Q5, hc7, hmv7⟩ := HP.out _ w5 v5 l5 hq5 hp5 hh5 ho6 hv5
                  go_roundw
                  case rel => exact ⟨j + 1, Q5, by omega, by go_num, by rw [insUpto, HX.out]; exact hc7, hm4.only ho6 (HS'.out).2.1, ht4.only ho6 (HS'.out).2.2, hmv4.trans hmv7, (hmv7.out hout4.1 hm4.lt).1, (hmv7.out hout4.2 ht4.lt).1⟩
                  case measure => simp [intOf]; omega
              · go_wp2_with fail
                go_end0
                obtain rfl : j = N := by omega
                exact ⟨rfl, _, ⟨A, Q3, _, _, _, rfl, by rw [HS.out, ← HN.out]; exact hc6, hg.send now m, by rw [HS.out]; exact hn, by rw [HS.out]; exact hsl⟩, hmv4⟩
      · have hgo : s.goes m = false := by simpa using hgo
        have HS := Lib.hid (show s.send now m = { s with sent := s.sent + 1 } by unfold NS.send; rw [if_neg (by simp [hgo])])
        rw [hgo]
        clear hgo hnow
        go_wp2_with fail
        refine bodyPost_ret (v := .tuple #[]) (by simp [results, Try.results15, go_sem]) rfl ⟨rfl, _, ⟨A, Q, _, gv, cv, rfl, by rw [HS.out]; exact hc4, hg.send now m, by rw [HS.out]; exact hn, by rw [HS.out]; exact hsl⟩, ho2.mono (by simp), fun _ h => .inl h⟩
end Go.Proofs.Ytffijemgcgbjoaa
