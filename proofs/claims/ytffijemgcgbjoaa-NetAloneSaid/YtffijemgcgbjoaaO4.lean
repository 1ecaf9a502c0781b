/- NetOwn. -/
import Derived.Test.YtffijemgcgbjoaaNi
namespace Go.Proofs.Ytffijemgcgbjoaa
open Go.RowKit Nt

theorem tflat_set (l : List Trb) (i : Nat) (x : Trb) (hi : i < l.length) :
    (((tflat l).set (i * 3) (.bool x.lost)).set (i * 3 + 1) (.int .i64 x.copies)).set (i * 3 + 2) (.int .i64 x.delay) = tflat (l.set i x) := by
  induction l generalizing i with
  | nil => simp at hi
  | cons y l ih =>
    cases i with
    | zero => simp [tflat, tcells]
    | succ i =>
      have h := ih i (by simpa using hi)
      have e : tflat (y :: l) = .bool y.lost :: .int .i64 y.copies :: .int .i64 y.delay :: tflat l := by simp [tflat, tcells]
      have e2 : tflat ((y :: l).set (i + 1) x) = .bool y.lost :: .int .i64 y.copies :: .int .i64 y.delay :: tflat (l.set i x) := by simp [tflat, tcells]
      rw [e, e2, ← h, show (i + 1) * 3 = i * 3 + 3 by omega]
      rfl
theorem Tbs.row {w : World} {B g n cap : Nat} {l : List Trb} (h : Tbs w B (.slice (some ⟨g, 0, none⟩) n cap) l) : Row w g (tflat l) := by
  obtain ⟨a, c, e, _, _⟩ := h.len
  simp only [Value.slice.injEq] at e
  obtain ⟨_, rfl, _⟩ := e
  refine ⟨(h.lt rfl).2, fun i v hv => ⟨?_, World.ownsRow.frozenAt h i⟩⟩
  have hi : i < l.length * 3 := by rw [← tflat_len]; exact (List.getElem?_eq_some_iff.1 hv).1
  rw [World.ownsRow.cellAt h i hi]; exact hv
/-- the script's own row, if there is one -/
def rows (v : Value) (l : List Trb) : List (Nat × List Value) := v.ownBlock.toList.map fun g => (g, tflat l)
theorem Tbs.rows {w : World} {B : Nat} {v : Value} {l : List Trb} (h : Tbs w B v l) : ∀ r, r ∈ rows v l → Row w r.1 r.2 := by
  rcases h.2 with ⟨rfl, hn⟩ | ⟨g, cap, cur, rfl, _⟩
  · intro r hr; simp [Go.Proofs.Ytffijemgcgbjoaa.rows, Value.ownBlock] at hr
  · intro r hr
    simp [Go.Proofs.Ytffijemgcgbjoaa.rows, Value.ownBlock] at hr
    subst hr
    exact h.row
theorem LawM.put {W w : World} {p q : Nat} {s t : NS} {g : Nat} {vs : List Value} (h : LawM W w p s q t [(g, vs)]) (j : Nat) (u : Value) (hj : j < vs.length) (hg : W.heap.size ≤ g) : LawM W (w.setCell ⟨g, j, none⟩ u) p s q t [(g, vs.set j u)] := by
  obtain ⟨S, T, h1, h2, h3, h4, h5, h6, h7⟩ := h
  obtain ⟨k1, k2, k3⟩ := h7 _ (.head _)
  have ho : Only [g] w (w.setCell ⟨g, j, none⟩ u) := (Only.refl _ _).setCell (by simp) _
  refine ⟨S, T, h1.only ho (fun k hk => by simp only [List.mem_singleton]; rintro rfl; exact k2 hk), h2.only ho (fun k hk => by simp only [List.mem_singleton]; rintro rfl; exact k3 hk), h3, h4, h5, h6.setCell hg _, fun r hr => ?_⟩
  simp only [List.mem_singleton] at hr
  subst hr
  exact ⟨k1.put j u hj, k2, k3⟩
def oS (sc : List Trb) : Nat → NS
  | 0 => .new 1 sc
  | k + 1 => (oS sc k).send k ⟨k, 0, ⟨#[]⟩⟩
theorem oS_sent (sc : List Trb) : ∀ k, (oS sc k).sent = k
  | 0 => rfl
  | k + 1 => by rw [show (oS sc (k + 1)).sent = (oS sc k).sent + 1 from rfl, oS_sent sc k]
theorem oS_script (sc : List Trb) : ∀ k, (oS sc k).script = sc
  | 0 => rfl
  | k + 1 => oS_script sc k
def oN (sc : List Trb) (m : Nat) : Nat → NS
  | 0 => oS sc m
  | k + 1 => (oN sc m k).next
theorem oN_sent (sc : List Trb) (m : Nat) : ∀ k, (oN sc m k).sent = m
  | 0 => oS_sent sc m
  | k + 1 => oN_sent sc m k
theorem next_of_nil {s : NS} (h : s.L = []) : s.next = s := by
  cases s; simp only at h; subst h; rfl
set_option maxRecDepth 100000 in
set_option maxHeartbeats 8000000 in
theorem own_walk (v : Value) (l : List Trb) (mm : Int) (W : World) (hv : TrbR W v l) (n0 : 0 ≤ mm) (n1 : mm ≤ 255) :
    Calls Try.prog 8 #[v, .int .u8 mm] W fun e w' => e = .returned (.bool true) ∧ Below W.heap.size W w' := by
  have HlS := Lib.hid (show (scr l).length ≤ 12 by rw [scr_len]; omega)
  have HdS := Lib.hid (scr_delay l)
  go_enter Try.func8, Try.ntmps8
  go_wp2_with (first
    | (go_at_call 11; ((with_reducible refine (sanity_any _).mono ?_); rintro e w1 ⟨rfl, hb1⟩))
    | (go_at_call 12; ((with_reducible refine (script_any v l _ (hv.below hb1)).mono ?_); rintro e w2 ⟨v2, rfl, ht2, hb2⟩; have hb12 := hb1.trans (hb2.mono hb1.size); obtain ⟨a2, cap2, rfl, hc2, hm2⟩ := ht2.len; unfold maxLen at hm2))
    | (go_at_call 13; ((with_reducible refine (new_any v4 _ 1 _ _ ht4 (by have := HlS.out; omega) (by decide)).mono ?_); intro e w5 hret5; obtain ⟨q, rfl, hM⟩ := lawM_of_new hN4 hret5))
    | (go_at_call 13; ((with_reducible refine (new_any _ _ 1 _ _ ht2 (by have := HlS.out; omega) (by decide)).mono ?_); intro e w3 hret; obtain ⟨p, rfl, hN⟩ := lawN_of_new hb12 hret ht2.rows; obtain ⟨_, _, _, _, _, hb3⟩ := hret; have ht3 := ht2.only (Only.of_below (S := []) hb3) (by simp)))
    | (at_builtin; refine app_tbs (by rfl) (by rfl) (by rfl) (by rfl) w3.heap.size _ (Tbs.empty w3 w3.heap.size (Nat.le_refl _)) (ht3.alloc _) (by have := HlS.out; simp; omega) (by simp) ?_; intro v4 w4 ht4 hg4; rw [List.nil_append] at ht4; have hb4 := ((Below.refl w3.heap.size w3).alloc (Nat.le_refl _) _).grown hg4 (by simp) (fun k hk => by (simp [Value.ownBlock] at hk; omega)); have hN4 := hN.below hb4))
  obtain ⟨N, hN'⟩ : ∃ N : Nat, N = (scr l).length := ⟨_, rfl⟩
  have HN := Lib.hid hN'
  rw [← hN'] at ht2 ht3 hM ⊢
  have hN12 : N ≤ 12 := by have := HlS.out; omega
  clear hN' hN hN4 ht4 hret5 hg4
  go_loopw [9] (fun i wr => ∃ (k : Nat) (l' : List Trb), k ≤ N ∧ i = .int .i64 k ∧ l'.length = N ∧ LawM W wr p (oS (scr l) 0) q (oS (scr l) 0) (rows (.slice a2 N cap2) l')) (fun i _ => N - (intOf i).toNat)
  case atStart => exact ⟨0, scr l, Nat.zero_le _, rfl, HN.out.symm, hM⟩
  case round =>
    obtain ⟨k, l', hk, rfl, hl', hm⟩ := hrel
    clear hM
    have HL' := Lib.hid hl'
    clear hl'
    by_cases hlt : k < N
    · obtain ⟨g, cap, e, hgB, _, _, _⟩ := ht2.form (by rw [← HN.out]; omega)
      rw [← HN.out] at e
      simp only [Value.slice.injEq, true_and] at e
      obtain ⟨rfl, rfl⟩ := e
      have hm1 : LawM W wr p (oS (scr l) 0) q (oS (scr l) 0) [(g, tflat l')] := hm
      have hgW : W.heap.size ≤ g := Nat.le_trans hb1.size hgB
      have hk3 : k < l'.length := by rw [HL'.out]; exact hlt
      have hrow := hm1.row (.head _)
      have hg0 := fun j hj => (tflat_get l' k j hk3 hj)
      have c0 := hrow.at (k * 3) (hg0 0 (by omega))
      have c1 := hrow.at (k * 3 + 1) (hg0 1 (by omega))
      have c2 := hrow.at (k * 3 + 1 + 1) (hg0 2 (by omega))
      have f0 := hrow.fr (k * 3) (hg0 0 (by omega))
      have f1 := hrow.fr (k * 3 + 1) (hg0 1 (by omega))
      have f2 := hrow.fr (k * 3 + 1 + 1) (hg0 2 (by omega))
      have hlen3 : k * 3 + 2 < (tflat l').length := by rw [tflat_len]; omega
      have hput := ((hm1.put (k * 3) (.bool (!(tat l' k).lost)) (by omega) hgW).put (k * 3 + 1) (.int .i64 0) (by simp; omega) hgW).put (k * 3 + 2) (.int .i64 3) (by simp; omega) hgW
      rw [tflat_set l' k ⟨!(tat l' k).lost, 0, 3⟩ hk3] at hput
      have HP := Lib.hid hput
      clear hput hg0 hm
      have k0 : (0 : Int) ≤ (k : Int) := by omega
      have k1 : (k : Int) < (N : Int) := by omega
      generalize tat l' k = t at c0 c1 c2 HP
      go_wp2_with fail
      go_roundw
      case rel => exact ⟨k + 1, l'.set k ⟨!t.lost, 0, 3⟩, by omega, by go_num, by rw [List.length_set]; exact HL'.out, HP.out⟩
      case measure => simp [intOf]; omega
    · have hm2 : LawM W wr p (oS (scr l) 0) q (oS (scr l) 0) [] := hm.drop (by simp)
      obtain ⟨M, hM⟩ : ∃ M : Nat, (M : Int) = mm % 30 := ⟨(mm % 30).toNat, by omega⟩
      have hM30 : M < 30 := by omega
      obtain ⟨wo, hwo⟩ : ∃ wo : World, wo = wr := ⟨_, rfl⟩
      subst hwo
      clear hm
      have HM := Lib.hid hM
      clear hM
      go_wp2_with fail
      go_loopw [10] (fun i wr => ∃ k : Nat, k ≤ M ∧ i = .int .i64 k ∧ LawM W wr p (oS (scr l) k) q (oS (scr l) k) []) (fun i _ => M - (intOf i).toNat)
      case atStart => exact ⟨0, Nat.zero_le _, rfl, hm2⟩
      case round =>
        obtain ⟨j, hj, rfl, hn⟩ := hrel
        clear hm2
        have hM' := HM.out.symm
        by_cases hlt2 : j < M
        · have HS := Lib.hid (show (oS (scr l) j).sent ≤ 9000 by rw [oS_sent]; omega)
          have HG := Lib.hid (show -1000000000000 ≤ (j : Int) ∧ (j : Int) ≤ 1000000000000 ∧ (oS (scr l) j).trb.delay ≤ 1000000000000 from ⟨by omega, by omega, by have := trb_delay (s := oS (scr l) j) (by rw [oS_script]; exact HdS.out); omega⟩)
          have k0 : (0 : Int) ≤ (j : Int) := by omega
          go_wp2_with (first
            | (go_at_call 15; ((with_reducible refine (send_law2 _ _ _ _ hn HS.out (fun _ => HG.out)).mono ?_); rintro e w6 ⟨rfl, hA⟩))
            | (go_at_call 15; ((with_reducible refine (send_law2 _ _ _ _ hA.symm HS.out (fun _ => HG.out)).mono ?_); rintro e w7 ⟨rfl, hB⟩)))
          go_roundw
          case rel => exact ⟨j + 1, by omega, by go_num, hB.symm⟩
          case measure => simp [intOf]; omega
        · obtain rfl : j = M := by omega
          have hn0 : LawM W wr p (oN (scr l) j 0) q (oN (scr l) j 0) [] := hn
          obtain ⟨wo2, hwo2⟩ : ∃ wo : World, wo = wr := ⟨_, rfl⟩
          subst hwo2
          clear hn
          have hgm := fun y z xs ys => guard_msg y z xs ys
          go_wp2_with fail
          clear hM'
          go_loopw [11, 12, 13, 14, 15, 16, 17] (fun i _ _ _ _ _ _ wr => ∃ k : Nat, k ≤ 300 ∧ i = .int .i64 k ∧ LawM W wr p (oN (scr l) j k) q (oN (scr l) j k) []) (fun i _ _ _ _ _ _ _ => 300 - (intOf i).toNat)
          case atStart => exact ⟨0, Nat.zero_le _, rfl, hn0⟩
          case round =>
            obtain ⟨k', hk', rfl, hn⟩ := hrel
            clear hn0
            by_cases hlt3 : k' < 300
            · have HS := Lib.hid (show (oN (scr l) j k').sent ≤ 10000 by rw [oN_sent]; omega)
              cases hL : (oN (scr l) j k').L with
              | nil =>
                have HL := Lib.hid hL
                have HT := Lib.hid (show oN (scr l) j (k' + 1) = oN (scr l) j k' from next_of_nil hL)
                clear hL
                have hne := ne_same 0 0 ⟨#[]⟩
                go_wp2_with (first
                  | (go_at_call 19; ((with_reducible refine (next_law20 hn HL.out).mono ?_); rintro e w6 ⟨rfl, hA⟩; have hA' := hA.new w6.heap.size rfl [.int .i64 0, .int .i64 0, .string ⟨#[]⟩] 31; have hA2 := hA'.symm))
                  | (go_at_call 19; ((with_reducible refine (next_law20 hA2 HL.out).mono ?_); rintro e w7 ⟨rfl, hB⟩; have hB' := hB.new w7.heap.size rfl [.int .i64 0, .int .i64 0, .string ⟨#[]⟩] 31; have x0 := (hB'.row (.head _)).at 0 rfl; have x1 := (hB'.row (.head _)).at 1 rfl; have x2 := (hB'.row (.head _)).at 2 rfl; have y0 := (hB'.row (.tail _ (.head _))).at 0 rfl; have y1 := (hB'.row (.tail _ (.head _))).at 1 rfl; have y2 := (hB'.row (.tail _ (.head _))).at 2 rfl)))
                go_roundw
                case rel => exact ⟨k' + 1, by omega, by go_num, by rw [HT.out]; exact (hB'.drop (by simp)).symm⟩
                case measure => simp [intOf]; omega
              | cons x L' =>
                have HL := Lib.hid hL
                clear hL
                have hne := ne_same x.fr x.to x.text
                go_wp2_with (first
                  | (go_at_call 19; ((with_reducible refine (next_law2 _ _ hn HL.out HS.out).mono ?_); rintro e w6 ⟨rfl, hA⟩; have hA' := hA.new w6.heap.size rfl [.int .i64 x.fr, .int .i64 x.to, .string x.text] 31; have hA2 := hA'.symm))
                  | (go_at_call 19; ((with_reducible refine (next_law2 _ _ hA2 HL.out HS.out).mono ?_); rintro e w7 ⟨rfl, hB⟩; have hB' := hB.new w7.heap.size rfl [.int .i64 x.fr, .int .i64 x.to, .string x.text] 31; have x0 := (hB'.row (.head _)).at 0 rfl; have x1 := (hB'.row (.head _)).at 1 rfl; have x2 := (hB'.row (.head _)).at 2 rfl; have y0 := (hB'.row (.tail _ (.head _))).at 0 rfl; have y1 := (hB'.row (.tail _ (.head _))).at 1 rfl; have y2 := (hB'.row (.tail _ (.head _))).at 2 rfl)))
                go_roundw
                case rel => exact ⟨k' + 1, by omega, by go_num, (hB'.drop (by simp)).symm⟩
                case measure => simp [intOf]; omega
            · go_wp2_with fail
              go_ret
              exact ⟨rfl, hn.bel⟩
end Go.Proofs.Ytffijemgcgbjoaa
