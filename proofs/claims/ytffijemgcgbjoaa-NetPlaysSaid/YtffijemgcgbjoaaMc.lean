/- The reference's Send. -/
import Derived.Test.YtffijemgcgbjoaaMe
namespace Go.Proofs.Ytffijemgcgbjoaa
open Go.RowKit Nt

theorem cell_set_other {w : World} {g h i j : Nat} {u x : Value} (hne : g ≠ h) (hc : w.cell? ⟨h, j, none⟩ = some x) : (w.setCell ⟨g, i, none⟩ u).cell? ⟨h, j, none⟩ = some x := by
  rw [World.cell?_setCell_other (h := fun e => hne (congrArg Addr.block e))]; exact hc
theorem rtat_trb (r : RS) (h : ¬ r.script.length = 0) : tat r.script (r.sent % r.script.length) = r.trb := by
  unfold RS.trb; rw [if_neg h]; rfl
theorem rtrb_none (r : RS) (h : r.script.length = 0) : r.trb = ⟨false, 1, 1⟩ := by
  unfold RS.trb; rw [if_pos h]
theorem rgroup_quiet {w : World} {q : Nat} {A Q : List Nat} {r : RS} {sv lv gv : Value} {k : Int} {n : Nat} (hk : 0 ≤ k) (h : RefC w q A Q r sv lv gv) :
    Calls Try.prog 26 #[.pointer (some ⟨q, 0, none⟩), .int .i64 k] (w.drewN n) fun e w'' => e = .returned (.int .i64 (r.grp k)) ∧ ∃ m, w'' = w.drewN m := by
  have h' := h.below (below_drewN (Below.refl _ _) n)
  obtain ⟨j, rfl⟩ : ∃ j : Nat, k = (j : Int) := ⟨k.toNat, by omega⟩
  exact (rgroup_any q j gv r.groups (w.drewN n) (h'.row.at 4 rfl) h'.gs).mono fun _ _ ⟨he, hw⟩ => ⟨he, n, hw.symm⟩
set_option maxRecDepth 100000 in
set_option maxHeartbeats 8000000 in
theorem rsend_any (q : Nat) (S : List Nat) (r : RS) (now : Int) (m : Msg) (w : World) (h : RefAt w q S r) (hs : r.sent ≤ 9000) (hnow : r.goes m = true → -1000000000000 ≤ now ∧ now ≤ 1000000000000 ∧ r.trb.delay ≤ 1000000000000) :
    Calls Try.prog 16 #[.pointer (some ⟨q, 0, none⟩), .int .i64 now, magg m] w (RefPost q S (r.send now m) w) := by
  obtain ⟨A, Q, sv, lv, gv, rfl, hc, hsl, hf⟩ := h
  have hc2 := hc.below (((Below.refl w.heap.size w).alloc (Nat.le_refl _) (.cells #[.int .i64 m.fr, .int .i64 m.to, .string m.text] 31)).alloc (by simp) (.cells #[.bool false, .int .i64 1, .int .i64 1] 44))
  have hb1 := (Row.new w _ rfl (mcells m) 31).alloc (.cells #[.bool false, .int .i64 1, .int .i64 1] 44)
  have hb2 := Row.new (w.alloc (.cells #[.int .i64 m.fr, .int .i64 m.to, .string m.text] 31)) (w.heap.size + 1) (by simp) [.bool false, .int .i64 1, .int .i64 1] 44
  have hlp : q < w.heap.size := hc.lt q (by simp)
  have c1 := hc2.row.at 1 rfl
  have c3 := hc2.row.at 3 rfl
  obtain ⟨sa, scap, rfl, hscap, hscm⟩ := hc.sc.len
  unfold maxLen at hscm
  unfold magg
  go_enter Try.func16, Try.ntmps16
  go_upto_if 15 with fail
  go_cut [15] (fun _ wx => Row wx w.heap.size (mcells m) ∧ Row wx (w.heap.size + 1) (tcells r.trb) ∧ Below w.heap.size w wx)
  case first =>
    by_cases h0 : r.script.length = 0
    · have HT := Lib.hid (rtrb_none r h0)
      have h00 : ¬ 0 < r.script.length := by omega
      have H0 := Lib.hid h0
      clear h0
      go_wp2_with fail
      go_meet
      case rel => exact ⟨hb1, by rw [HT.out]; exact hb2, ((Below.refl _ _).alloc (Nat.le_refl _) _).alloc (by simp) _⟩
    · have h00 : 0 < r.script.length := by omega
      obtain ⟨g, cap, e, _, hgl, _, _⟩ := hc.sc.form h00
      simp only [Value.slice.injEq, true_and] at e
      obtain ⟨rfl, rfl⟩ := e
      have HT := Lib.hid (rtat_trb r h0)
      obtain ⟨j, hr⟩ : ∃ j : Nat, j = r.sent % r.script.length := ⟨_, rfl⟩
      have hrl : j < r.script.length := by rw [hr]; exact Nat.mod_lt _ h00
      have hm1 : (r.sent : Int).tmod (r.script.length : Int) = (j : Int) := by rw [hr]; rw [Int.tmod_eq_emod_of_nonneg (by omega)]; omega
      obtain ⟨e0, e1, e2⟩ := hc2.sc.at j hrl
      have HR := Lib.hid hr
      clear hr h0
      have i0 : (0 : Int) ≤ (j : Int) := by omega
      have i1 : (j : Int) < (r.script.length : Int) := by omega
      have b0 := hb2.at 0 rfl
      have b1 := hb2.at 1 rfl
      have b2 := hb2.at 2 rfl
      have b0f := hb2.fr 0 rfl
      have b1f := hb2.fr 1 rfl
      have b2f := hb2.fr 2 rfl
      go_wp2_with fail
      go_region
      go_wp2_with fail
      go_meet
      case rel => exact ⟨((Row.new w _ rfl (mcells m) 31).alloc _).drew, by rw [← HT.out, ← HR.out]; exact (Row.new (w.alloc (.cells #[.int .i64 m.fr, .int .i64 m.to, .string m.text] 31)) (w.heap.size + 1) (by simp) (tcells (tat r.script j)) 44).drew, (((Below.refl _ _).alloc (Nat.le_refl _) _).alloc (by simp) _).drew⟩
  case rest =>
    obtain ⟨hm, ht, hb⟩ := hcut
    clear hb1 hb2 hc2 c1 c3
    have hc3 := hc.below hb
    have c3 := hc3.row.at 3 rfl
    have f3 := hc3.row.fr 3 rfl
    go_upto_region 6 with fail
    have hcs := hc3.sent
    have hm1 := hm.other (p := ⟨q, 3, none⟩) (by simp; omega) (.int .i64 ((r.sent : Int) + 1))
    have ht1 := ht.other (p := ⟨q, 3, none⟩) (by simp; omega) (.int .i64 ((r.sent : Int) + 1))
    have ho1 : Only [q] w (wc.setCell ⟨q, 3, none⟩ (.int .i64 ((r.sent : Int) + 1))) := (Only.of_below hb).setCell (by simp) _
    have hz1 := ho1.size
    generalize wc.setCell ⟨q, 3, none⟩ (.int .i64 ((r.sent : Int) + 1)) = W1 at *
    clear hc3 c3 f3 hb hm ht
    go_cut [83] (fun b wx => b = .bool (!r.goes m) ∧ Below W1.heap.size W1 wx)
    case first =>
      have m0 := hm1.at 0 rfl
      have m1 := hm1.at 1 rfl
      have t0 := ht1.at 0 rfl
      have c0 := hcs.row.at 0 rfl
      clear hnow hs
      by_cases hl : r.trb.lost = true
      · rw [hl] at t0
        have HG := Lib.hid (show r.goes m = false by simp [RS.goes, hl])
        clear hl
        go_quiet (fail)
        go_wp2_with fail
        go_meet
        case rel => exact ⟨by rw [HG.out]; rfl, below_drewN (Below.refl _ _) _⟩
      · have hl : r.trb.lost = false := by simpa using hl
        rw [hl] at t0
        by_cases ht0 : m.to < 0
        · have HG := Lib.hid (show r.goes m = false by simp [RS.goes, hl, nodeB_false.2 (show ¬ (0 ≤ m.to ∧ m.to < r.nodes) by omega)])
          have g0 : decide (m.to < 0) = true := by simp [ht0]
          clear hl ht0
          go_quiet (fail)
          go_wp2_with fail
          go_meet
          case rel => exact ⟨by rw [HG.out]; rfl, below_drewN (Below.refl _ _) _⟩
        · by_cases ht2 : r.nodes ≤ m.to
          · have HG := Lib.hid (show r.goes m = false by simp [RS.goes, hl, nodeB_false.2 (show ¬ (0 ≤ m.to ∧ m.to < r.nodes) by omega)])
            have g0 : decide (m.to < 0) = false := by simp; omega
            have g1 : decide (r.nodes ≤ m.to) = true := by simp [ht2]
            clear hl ht0 ht2
            go_quiet (fail)
            go_wp2_with fail
            go_meet
            case rel => exact ⟨by rw [HG.out]; rfl, below_drewN (Below.refl _ _) _⟩
          · have g0 : decide (m.to < 0) = false := by simp; omega
            have g1 : decide (r.nodes ≤ m.to) = false := by simp; omega
            have HTo := Lib.hid (nodeB_true.2 (show 0 ≤ m.to ∧ m.to < r.nodes by omega))
            have N1 := Lib.hid (fun n => rgroup_quiet (k := m.to) (n := n) (by omega) hcs)
            clear ht0 ht2
            by_cases hf0 : m.fr < 0
            · have HG := Lib.hid (show r.goes m = true by simp [RS.goes, hl, HTo.out, nodeB_false.2 (show ¬ (0 ≤ m.fr ∧ m.fr < r.nodes) by omega)])
              have g2 : decide (0 ≤ m.fr) = false := by simp; omega
              clear hl hf0
              go_quiet (fail)
              go_wp2_with fail
              go_meet
              case rel => exact ⟨by rw [HG.out]; rfl, below_drewN (Below.refl _ _) _⟩
            · by_cases hf2 : r.nodes ≤ m.fr
              · have HG := Lib.hid (show r.goes m = true by simp [RS.goes, hl, HTo.out, nodeB_false.2 (show ¬ (0 ≤ m.fr ∧ m.fr < r.nodes) by omega)])
                have g2 : decide (0 ≤ m.fr) = true := by simp; omega
                have g3 : decide (m.fr < r.nodes) = false := by simp; omega
                clear hl hf0 hf2
                go_quiet (fail)
                go_wp2_with fail
                go_meet
                case rel => exact ⟨by rw [HG.out]; rfl, below_drewN (Below.refl _ _) _⟩
              · have g2 : decide (0 ≤ m.fr) = true := by simp; omega
                have g3 : decide (m.fr < r.nodes) = true := by simp; omega
                have HFr := Lib.hid (nodeB_true.2 (show 0 ≤ m.fr ∧ m.fr < r.nodes by omega))
                have N2 := Lib.hid (fun n => rgroup_quiet (k := m.fr) (n := n) (by omega) hcs)
                clear hf0 hf2
                by_cases hgr : r.grp m.fr = r.grp m.to
                · have HG := Lib.hid (show r.goes m = true by simp [RS.goes, hl, HTo.out, HFr.out, hgr])
                  have hgb : ((RS.grp { r with sent := r.sent + 1 } m.fr) != (RS.grp { r with sent := r.sent + 1 } m.to)) = false := by simp [RS.grp] at hgr ⊢; exact hgr
                  clear hl hgr
                  go_quiet (first | (go_at_call 26; first | (with_reducible exact N1.out _) | (with_reducible exact N2.out _)))
                  go_wp2_with fail
                  go_meet
                  case rel => exact ⟨by rw [HG.out]; rfl, below_drewN (Below.refl _ _) _⟩
                · have HG := Lib.hid (show r.goes m = false by simp [RS.goes, hl, HTo.out, HFr.out, hgr])
                  have hgb : ((RS.grp { r with sent := r.sent + 1 } m.fr) != (RS.grp { r with sent := r.sent + 1 } m.to)) = true := by simp [RS.grp] at hgr ⊢; exact hgr
                  clear hl hgr
                  go_quiet (first | (go_at_call 26; first | (with_reducible exact N1.out _) | (with_reducible exact N2.out _)))
                  go_wp2_with fail
                  go_meet
                  case rel => exact ⟨by rw [HG.out]; rfl, below_drewN (Below.refl _ _) _⟩
    case rest =>
      obtain ⟨rfl, hb2⟩ := hcut
      have hc4 := hcs.below hb2
      have hm2 := hm1.below hb2
      have ht2 := ht1.below hb2
      have ho2 := ho1.trans (Only.of_below hb2)
      clear hcs hm1 ht1 ho1 hb2 hz1
      by_cases hgo : r.goes m = true
      · obtain ⟨hn1, hn2, hn3⟩ := hnow hgo
        have HS := Lib.hid (show r.send now m = { r with sent := r.sent + 1, L := r.L ++ cops now r.trb.delay r.sent m (num r.trb.copies) } by unfold RS.send; rw [if_pos hgo])
        rw [hgo]
        clear hgo hnow
        obtain ⟨N, hN⟩ : ∃ N : Nat, N = num r.trb.copies := ⟨_, rfl⟩
        have hN2 := num_le r.trb.copies
        rw [← hN] at hN2
        have HN := Lib.hid hN
        clear hN
        have hz2 := ho2.size
        have hmv0 : Mv (q :: (A ++ Q)) (q :: (A ++ Q)) w wc := ⟨ho2.mono (by simp), fun _ h => .inl h⟩
        have hout0 : w.heap.size ∉ q :: (A ++ Q) ∧ w.heap.size + 1 ∉ q :: (A ++ Q) := ⟨fun hm => by have := hc.lt _ hm; omega, fun hm => by have := hc.lt _ hm; omega⟩
        go_wp2_with fail
        go_loopw [8] (fun i wr => ∃ (j : Nat) (Q3 : List Nat) (lv3 : Value), j ≤ N ∧ i = .int .i64 j ∧ RefC wr q A Q3 { r with sent := r.sent + 1, L := r.L ++ cops now r.trb.delay r.sent m j } (.slice sa r.script.length scap) lv3 gv ∧ Row wr w.heap.size (mcells m) ∧ Row wr (w.heap.size + 1) (tcells r.trb) ∧ Mv (q :: (A ++ Q)) (q :: (A ++ Q3)) w wr ∧ (w.heap.size ∉ q :: (A ++ Q3) ∧ w.heap.size + 1 ∉ q :: (A ++ Q3))) (fun i _ => N - (intOf i).toNat)
        case atStart => exact ⟨0, Q, lv, Nat.zero_le _, rfl, by simpa [cops] using hc4, hm2, ht2, hmv0, hout0⟩
        case round =>
          obtain ⟨j, Q3, lv3, hj, rfl, hc6, hm4, ht4, hmv4, hout4⟩ := hrel
          clear hc4 hm2 ht2 ho2 hmv0 hout0
          have t1 := ht4.at 1 rfl
          go_upto_region 8 with fail
          go_cut [89] from 84 to 110 (fun b wx => b = .bool (decide (j < N)) ∧ wx = wr)
          case first =>
            go_wp2_with fail
            all_goals go_meet
            all_goals exact ⟨congrArg Value.bool (by rw [HN.out, decide_eq_decide]; unfold num; omega), rfl⟩
          case rest =>
            obtain ⟨rfl, rfl⟩ := hcut
            by_cases hlt : j < N
            · rw [decide_eq_true hlt]
              have q2 := hc6.row.at 2 rfl
              have t2 := ht4.at 2 rfl
              have m0 := hm4.at 0 rfl
              have m1 := hm4.at 1 rfl
              have m2 : wc.cell? ⟨w.heap.size, 1 + 1, none⟩ = _ := hm4.at 2 rfl
              have hlen : (r.L ++ cops now r.trb.delay r.sent m j).length ≤ 1000000 := by rw [List.length_append, cops_len]; omega
              have hpl : q < wc.heap.size := hc6.lt q (by simp)
              have hn0 : ¬ q = wc.heap.size := by omega
              have hj8 : j ≤ 8 := by omega
              have hls : Cps wc 0 lv3 (r.L ++ cops now r.trb.delay r.sent m j) := hc6.ls
              have hx : cop now r.trb.delay r.sent m j = ⟨IntKind.i64.wrap (IntKind.i64.wrap (now + if r.trb.delay < 0 then 0 else r.trb.delay) + j), r.sent, m.fr, m.to, m.text⟩ := by
                by_cases hd : r.trb.delay < 0
                · rw [if_pos hd, IntWalk.i64_in (now + 0) (by omega), IntWalk.i64_in _ (by omega)]; unfold cop; congr 1; omega
                · rw [if_neg hd, IntWalk.i64_in (now + r.trb.delay) (by omega), IntWalk.i64_in _ (by omega)]; unfold cop; congr 1; omega
              have HX := Lib.hid hx
              clear hx
              obtain ⟨l, hl⟩ : ∃ l, l = r.L ++ cops now r.trb.delay r.sent m j := ⟨_, rfl⟩
              rw [← hl] at hls hlen hc6
              have HL := Lib.hid hl
              have HC6 := Lib.hid hc6
              have HI := Lib.hid (And.intro hs (And.intro hsl (And.intro hf (And.intro hlp (And.intro hn1 (And.intro hn2 (And.intro hn3 (And.intro hN2 hout4))))))))
              have HMV := Lib.hid hmv4
              clear hl hc6 hc hs hsl hf hscap hscm hlp hn1 hn2 hn3 hN2 hz2 hmv4 hout4
              go_upto_region 10 with fail
              go_region_law (first | (refine step_copy1 (y := ⟨_, _, _, _, _⟩) (by rfl) (by rfl) (by rfl) wc.heap.size (by rfl) (by rfl) hls hlen ?_; intro g1 cap1 w1 hb1 hg1 hl1 hlt1; obtain ⟨kq, kf, ho5, Q5, hc7, hmv7⟩ := rpush_end HC6.out (((Below.refl _ _).alloc (Nat.le_refl _) _).drew) hb1 hg1 (by simpa using hl1); clear hb1 hg1 hl1))
              all_goals
                have HRL := Lib.hid (show ∃ (j' : Nat) (Q3 : List Nat) (lv3 : Value), j' ≤ N ∧ Value.int .i64 ((j : Int) + 1) = .int .i64 j' ∧ RefC (w1.setCell ⟨q, 2, none⟩ (.slice (some ⟨g1, 0, none⟩) (l.length + 1) cap1)) q A Q3 { r with sent := r.sent + 1, L := r.L ++ cops now r.trb.delay r.sent m j' } (.slice sa r.script.length scap) lv3 gv ∧ Row (w1.setCell ⟨q, 2, none⟩ (.slice (some ⟨g1, 0, none⟩) (l.length + 1) cap1)) w.heap.size (mcells m) ∧ Row (w1.setCell ⟨q, 2, none⟩ (.slice (some ⟨g1, 0, none⟩) (l.length + 1) cap1)) (w.heap.size + 1) (tcells r.trb) ∧ Mv (q :: (A ++ Q)) (q :: (A ++ Q3)) w (w1.setCell ⟨q, 2, none⟩ (.slice (some ⟨g1, 0, none⟩) (l.length + 1) cap1)) ∧ (w.heap.size ∉ q :: (A ++ Q3) ∧ w.heap.size + 1 ∉ q :: (A ++ Q3)) from by
                  obtain ⟨hs, hsl, hf, hlp, hn1, hn2, hn3, hN2, ho41, ho42⟩ := HI.out
                  have key : ∀ k, k ∉ q :: (A ++ Q3) → k ∉ q :: lv3.ownBlock.toList := fun k hk hm => hk (by
                    rcases List.mem_cons.1 hm with h | h
                    · simp [h]
                    · have := HC6.out.lQ k (by simpa using h); simp [this])
                  refine ⟨j + 1, Q5, .slice (some ⟨g1, 0, none⟩) (l.length + 1) cap1, by omega, rfl, ?_, hm4.only ho5 (key _ ho41), ht4.only ho5 (key _ ho42), HMV.out.trans hmv7, (hmv7.out ho41 hm4.lt).1, (hmv7.out ho42 ht4.lt).1⟩
                  rw [cops_succ, ← List.append_assoc, ← HL.out, HX.out]
                  exact hc7)
                clear hc7 hmv7 ho5
              all_goals go_wp2_with fail
              all_goals
                refine ⟨?_, ?_⟩
                · first | exact HRL.out | simpa using HRL.out
                · simp [intOf]; omega
            · rw [decide_eq_false hlt]
              go_wp2_with fail
              go_end0
              obtain rfl : j = N := by omega
              exact ⟨rfl, _, ⟨A, Q3, _, _, _, rfl, by rw [HS.out, ← HN.out]; exact hc6, by rw [HS.out]; exact hsl, by rw [HS.out, ← HN.out]; show (r.L ++ cops now r.trb.delay r.sent m j).length ≤ 8 * (r.sent + 1); rw [List.length_append, cops_len]; omega⟩, hmv4⟩
      · have hgo : r.goes m = false := by simpa using hgo
        have HS := Lib.hid (show r.send now m = { r with sent := r.sent + 1 } by unfold RS.send; rw [if_neg (by simp [hgo])])
        rw [hgo]
        clear hgo hnow
        go_wp2_with fail
        refine bodyPost_ret (v := .tuple #[]) (by simp [results, Try.results16, go_sem]) rfl ⟨rfl, _, ⟨A, Q, _, lv, gv, rfl, by rw [HS.out]; exact hc4, by rw [HS.out]; exact hsl, by rw [HS.out]; show r.L.length ≤ 8 * (r.sent + 1); omega⟩, ho2.mono (by simp), fun _ h => .inl h⟩
end Go.Proofs.Ytffijemgcgbjoaa
