/- node, Waiting, Next. -/
import Derived.Test.YtffijemgcgbjoaaNa
import Derived.Outline
import Derived.BigGuardPart
namespace Go.Proofs.Ytffijemgcgbjoaa
open Go.RowKit Nt

theorem ret_bool {a b : Bool} (h : a = b) : Ending.returned (.bool a) = .returned (.bool b) := by rw [h]
set_option maxHeartbeats 1000000 in
theorem node_any (p : Nat) (n k : Int) (w : World) (h : w.cell? ⟨p, 0, none⟩ = some (.int .i64 n)) :
    Calls Try.prog 24 #[.pointer (some ⟨p, 0, none⟩), .int .i64 k] w fun e w' => e = .returned (.bool (nodeB n k)) ∧ w = w' := by
  by_cases h0 : 0 ≤ k
  · by_cases h1 : k < n
    · have HD := Lib.hid (nodeB_true.2 ⟨h0, h1⟩)
      go_enter Try.func24, Try.ntmps24
      go_wp2
      go_ret
      exact ⟨by rw [HD.out]; rfl, rfl⟩
    · have HD := Lib.hid (nodeB_false.2 (by omega : ¬ (0 ≤ k ∧ k < n)))
      go_enter Try.func24, Try.ntmps24
      go_wp2
      go_ret
      exact ⟨by rw [HD.out]; rfl, rfl⟩
  · have HD := Lib.hid (nodeB_false.2 (by omega : ¬ (0 ≤ k ∧ k < n)))
    go_enter Try.func24, Try.ntmps24
    go_wp2
    go_ret
    exact ⟨by rw [HD.out]; rfl, rfl⟩
theorem node_s {p : Nat} {A Q : List Nat} {s : NS} {sv gv cv : Value} {w : World} (k : Int) (h : NetC w p A Q s sv gv cv) :
    Calls Try.prog 24 #[.pointer (some ⟨p, 0, none⟩), .int .i64 k] w fun e w' => e = .returned (.bool (s.node k)) ∧ w = w' := node_any p s.nodes k w h.c0
set_option maxHeartbeats 1000000 in
theorem waiting_nil (w : World) :
    Calls Try.prog 21 #[.pointer none] w fun e w' => e = .returned (.int .i64 0) ∧ w = w' := by
  go_enter Try.func21, Try.ntmps21
  go_wp2
  go_ret
  exact ⟨rfl, rfl⟩
set_option maxHeartbeats 1000000 in
theorem waiting_any (p : Nat) (S : List Nat) (s : NS) (w : World) (h : NetAt w p S s) :
    Calls Try.prog 21 #[.pointer (some ⟨p, 0, none⟩)] w fun e w' => e = .returned (.int .i64 s.L.length) ∧ w = w' := by
  obtain ⟨A, Q, sv, gv, cv, rfl, hc, hg, hn⟩ := h
  have c3 := hc.c3
  rcases hc.cs with ⟨rfl, hL⟩ | ⟨gq, v, l, rfl, hq, hh, hp, _, _⟩
  · have HL := Lib.hid hL
    clear hL
    go_enter Try.func21, Try.ntmps21
    go_wp2
    go_ret
    exact ⟨by rw [HL.out]; rfl, rfl⟩
  · have hml := m_len ⟨gq, 0, none⟩ v w hq.cell
    have HL := Lib.hid hp.length_eq
    clear hp
    go_enter Try.func21, Try.ntmps21
    go_wp2_with (go_at_call 46; refine (len_any _ v 0 w hq.row).mono ?_; rintro e w2 ⟨rfl, rfl⟩)
    go_ret
    exact ⟨by rw [← HL.out]; rfl, rfl⟩
def magg (m : Msg) : Value := .agg #[.int .i64 m.fr, .int .i64 m.to, .string m.text]
def Wt.msg (x : Wt) : Msg := ⟨x.fr, x.to, x.text⟩
def mz : Msg := ⟨0, 0, ⟨#[]⟩⟩
set_option maxHeartbeats 1000000 in
theorem next_nil (w : World) :
    Calls Try.prog 19 #[.pointer none] w fun e w' => e = .returned (.tuple #[magg mz, .int .i64 0, .bool false]) ∧ Below w.heap.size w w' := by
  go_enter Try.func19, Try.ntmps19
  go_wp2_with (go_at_call 21; refine (waiting_nil _).mono ?_; rintro e w2 ⟨rfl, rfl⟩)
  refine bodyPost_ret (v := .tuple #[magg mz, .int .i64 0, .bool false]) (by simp [results, Try.results19, go_sem]; rfl) rfl ⟨rfl, ?_⟩
  exact (Below.refl _ _).alloc (Nat.le_refl _) _
set_option maxHeartbeats 1000000 in
theorem next_none (p : Nat) (S : List Nat) (s : NS) (w : World) (h : NetAt w p S s) (hL : s.L = []) :
    Calls Try.prog 19 #[.pointer (some ⟨p, 0, none⟩)] w fun e w' => e = .returned (.tuple #[magg mz, .int .i64 0, .bool false]) ∧ Below w.heap.size w w' := by
  have HL := Lib.hid hL
  have hz : ((s.L.length : Int) == 0) = true := by simp [hL]
  clear hL
  go_enter Try.func19, Try.ntmps19
  go_wp2_with (go_at_call 21; refine (waiting_any p S s _ (h.below ((Below.refl _ _).alloc (Nat.le_refl _) _))).mono ?_; rintro e w2 ⟨rfl, rfl⟩)
  refine bodyPost_ret (v := .tuple #[magg mz, .int .i64 0, .bool false]) (by simp [results, Try.results19, go_sem]; rfl) rfl ⟨rfl, ?_⟩
  exact (Below.refl _ _).alloc (Nat.le_refl _) _
theorem next_end {p gq : Nat} {A Q : List Nat} {s : NS} {sv gv v v' : Value} {w w' : World} {l l' L' : List Wt} {x : Wt} (hc : NetC w p A Q s sv gv (.iface 69 (.pointer (some ⟨gq, 0, none⟩)))) (hg : Nt.Good s) (hn : s.nodes ≤ 1000) (hsl : s.script.length ≤ 1000)
    (hL : s.L = x :: L') (hp : l.Perm s.L) (hh : Heap l l.length) (hgq : gq ∈ Q) (hv : ∀ g, v.ownBlock = some g → g ∈ Q)
    (hq' : QAt w' gq v' l') (hp' : (at' l 0 :: l').Perm l) (hh' : Heap l' l'.length) (ho : Only (gq :: v.ownBlock.toList) w w') (hv' : v'.ownBlock = v.ownBlock) :
    at' l 0 = x ∧ NetAt w' p (p :: (A ++ Q)) s.next ∧ Mv (p :: (A ++ Q)) (p :: (A ++ Q)) w w' := by
  have hx : at' l 0 = x := heap_head (by rw [← hL]; exact hp) (by rw [← hL]; exact hg.sorted) hh
  have hoQ : Only Q w w' := ho.mono (fun k hk => by
    rcases List.mem_cons.1 hk with rfl | hk
    · exact hgq
    · exact hv k (by simpa using hk))
  have hl' : l'.Perm L' := by
    have := hp'.trans hp
    rw [hx, hL] at this
    exact List.Perm.cons_inv this
  refine ⟨hx, ⟨A, Q, sv, gv, .iface 69 (.pointer (some ⟨gq, 0, none⟩)), rfl, ?_, hg.next, hn, hsl⟩, ⟨hoQ.mono (by simp; grind), fun _ h => .inl h⟩⟩
  exact ⟨hc.row.only hoQ hc.pQ,
    hc.sc.only hoQ (fun g hg => hc.aq g (hc.sA g hg)), hc.sA, hc.gs.only hoQ hc.aq, .inr ⟨gq, v', l', rfl, hq', hh', by simpa [NS.next, hL] using hl', hgq, fun g hg => hv g (by rw [← hv']; exact hg)⟩, fun k hk => Nat.lt_of_lt_of_le (hc.lt k hk) ho.size, hc.pA, hc.pQ, hc.aq⟩
set_option maxRecDepth 100000 in
set_option maxHeartbeats 4000000 in
theorem next_some (p : Nat) (S : List Nat) (s : NS) (x : Wt) (L' : List Wt) (w : World) (h : NetAt w p S s) (hL : s.L = x :: L') (hb : s.sent ≤ 10000) :
    Calls Try.prog 19 #[.pointer (some ⟨p, 0, none⟩)] w fun e w' => e = .returned (.tuple #[magg (Wt.msg x), .int .i64 x.time, .bool true]) ∧ NetAt w' p S s.next ∧ Mv S S w w' := by
  have h1 := h.below ((Below.refl _ _).alloc (Nat.le_refl _) (.cells #[.int .i64 0, .int .i64 0, .string ⟨#[]⟩] 31))
  have hz : ((s.L.length : Int) == 0) = false := by simp [hL]; omega
  obtain ⟨A, Q, sv, gv, cv, rfl, hc, hg, hn, hsl⟩ := h1
  rcases hc.cs with ⟨rfl, hL2⟩ | ⟨gq, v, l, rfl, hq, hh, hp, hgq, hv⟩
  · rw [hL2] at hL; cases hL
  · have c3 := hc.c3
    have hlen : l.length = L'.length + 1 := by rw [hp.length_eq, hL]; simp
    have hfew : l.length ≤ 80000 := by have := hg.few; rw [hp.length_eq]; omega
    have hbox := Row.new w _ rfl [.int .i64 0, .int .i64 0, .string ⟨#[]⟩] 31
    have hbQ : w.heap.size ∉ gq :: v.ownBlock.toList := by
      have hlt := h.lt
      intro hm
      have : w.heap.size ∈ p :: (A ++ Q) := by
        rcases List.mem_cons.1 hm with e | hm
        · rw [e]; simp [hgq]
        · have := hv w.heap.size (by simpa using hm); simp [this]
      have := hlt _ this
      omega
    have HL := Lib.hid hL
    have HP := Lib.hid hp
    have HN := Lib.hid hlen
    clear hL hp hlen
    have hta := fun x => ta_wt x
    go_enter Try.func19, Try.ntmps19
    go_wp2_with (first | (go_at_call 21; refine (waiting_any p _ s _ (h.below ((Below.refl _ _).alloc (Nat.le_refl _) _))).mono ?_; rintro e w2 ⟨rfl, rfl⟩) | (go_at_call 27; refine (hpop_any l v gq L'.length _ hq HN.out.symm (by omega) hh).mono ?_; unfold wagg; rintro e w1 ⟨rfl, v1, l1, hq1, hp1, hh1, ho1, hv1⟩; have hr1 := hbox.only ho1 hbQ; have r0 := hr1.at 0 rfl; have r1 := hr1.at 1 rfl; have r2 := hr1.at 2 rfl; have r0f := hr1.fr 0 rfl; have r1f := hr1.fr 1 rfl; have r2f := hr1.fr 2 rfl; have HP1 := Lib.hid hp1; have HV1 := Lib.hid hv1; clear hp1 hv1; have hzz := ho1.size))
    have hne : ¬ w.heap.size = w1.heap.size := by simp at hzz; omega
    have hend := next_end hc hg hn hsl HL.out HP.out hh hgq hv hq1 HP1.out hh1 ho1 HV1.out
    have HE := Lib.hid hend
    clear hend hta
    generalize at' l 0 = y at *
    have hr2 := hr1.alloc (.cells #[.int .i64 y.time, .int .i64 y.number, .int .i64 y.fr, .int .i64 y.to, .string y.text] 74)
    have k0 := hr2.at 0 rfl
    have k1 := hr2.at 1 rfl
    have k2 := hr2.at 2 rfl
    have k0f := hr2.fr 0 rfl
    have k1f := hr2.fr 1 rfl
    have k2f := hr2.fr 2 rfl
    go_region
    all_goals go_wp2_with fail
    obtain ⟨rfl, hna, hmv⟩ := HE.out
    have ho : Only [w.heap.size] w1 ((((w1.alloc (.cells #[.int .i64 y.time, .int .i64 y.number, .int .i64 y.fr, .int .i64 y.to, .string y.text] 74)).setCell ⟨w.heap.size, 0, none⟩ (.int .i64 y.fr)).setCell ⟨w.heap.size, 1, none⟩ (.int .i64 y.to)).setCell ⟨w.heap.size, 2, none⟩ (.string y.text)).drew :=
      ((((Only.of_below ((Below.refl _ _).alloc (Nat.le_refl _) _)).setCell (by simp) _).setCell (by simp) _).setCell (by simp) _).drew
    have hm := (Mv.of_below (S := p :: (A ++ Q)) ((Below.refl _ _).alloc (Nat.le_refl w.heap.size) _)).trans hmv
    refine bodyPost_ret (v := .tuple #[magg (Wt.msg y), .int .i64 y.time, .bool true]) (by simp [results, Try.results19, go_sem, k0, k1, k2]; rfl) rfl ⟨rfl, ?_, ?_⟩
    · exact hna.only ho (fun k hk => by have := h.lt k hk; simp; omega)
    · exact ⟨hm.only.trans_new ho (fun k hk => .inr (by simp at hk; omega)), hm.new⟩
end Go.Proofs.Ytffijemgcgbjoaa
