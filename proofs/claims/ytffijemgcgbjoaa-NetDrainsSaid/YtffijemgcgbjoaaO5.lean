/- NetDrains. -/
import Derived.Test.YtffijemgcgbjoaaO4
import Derived.Test.YtffijemgcgbjoaaOr
namespace Go.Proofs.Ytffijemgcgbjoaa
open Go.RowKit Nt

def dS (sc : List Trb) (zs : List Int) : Nat → NS
  | 0 => .new 1 sc
  | k + 1 => (dS sc zs k).send (zs.getD k 0) ⟨k, 0, ⟨#[]⟩⟩
section
variable (sc : List Trb) (zs : List Int)
theorem dS_sent : ∀ k, (dS sc zs k).sent = k
  | 0 => rfl
  | k + 1 => by rw [show (dS sc zs (k + 1)).sent = (dS sc zs k).sent + 1 from rfl, dS_sent k]
theorem dS_const : ∀ k, (dS sc zs k).nodes = 1 ∧ (dS sc zs k).script = sc ∧ (dS sc zs k).gr = fun _ => 0
  | 0 => ⟨rfl, rfl, rfl⟩
  | k + 1 => dS_const k
/-- the trouble of message k -/
def dt (k : Nat) : Trb := if sc.length = 0 then ⟨false, 1, 1⟩ else tat sc (k % sc.length)
theorem dS_trb (k : Nat) : (dS sc zs k).trb = dt sc k := by
  unfold NS.trb dt tat
  rw [(dS_const sc zs k).2.1, dS_sent]
theorem dS_goes (k : Nat) : (dS sc zs k).goes ⟨k, 0, ⟨#[]⟩⟩ = !(dt sc k).lost := by
  unfold NS.goes NS.node
  rw [dS_trb, (dS_const sc zs k).1, (dS_const sc zs k).2.2]
  have : nodeB 1 0 = true := nodeB_true.2 (by decide)
  simp [this]
theorem dS_L (k : Nat) : (dS sc zs (k + 1)).L = if (dt sc k).lost then (dS sc zs k).L else insUpto (zs.getD k 0) (dt sc k).delay k ⟨k, 0, ⟨#[]⟩⟩ (dS sc zs k).L (num (dt sc k).copies) := by
  show (if (dS sc zs k).goes ⟨k, 0, ⟨#[]⟩⟩ then insUpto _ (dS sc zs k).trb.delay (dS sc zs k).sent _ (dS sc zs k).L (num (dS sc zs k).trb.copies) else (dS sc zs k).L) = _
  rw [dS_goes, dS_trb, dS_sent]
  cases (dt sc k).lost <;> simp
theorem dS_len (k : Nat) : (dS sc zs (k + 1)).L.length = (dS sc zs k).L.length + (if (dt sc k).lost then 0 else num (dt sc k).copies) := by
  rw [dS_L]
  split
  · simp
  · rw [insUpto_len]
theorem dS_few : ∀ k, (dS sc zs k).L.length ≤ 8 * k
  | 0 => by simp [dS, NS.new]
  | k + 1 => by
    have := dS_few k
    rw [dS_len]
    have := num_le (dt sc k).copies
    split <;> omega
theorem dS_good : ∀ k, Nt.Good (dS sc zs k)
  | 0 => Good.new _ _
  | k + 1 => (dS_good k).send _ _
theorem dS_mem : ∀ k, ∀ x ∈ (dS sc zs k).L, ∃ i : Nat, i < k ∧ x.number = i ∧ x.fr = i ∧ zs.getD i 0 ≤ x.time
  | 0, x, h => by simp [dS, NS.new] at h
  | k + 1, x, h => by
    rw [dS_L] at h
    split at h
    · obtain ⟨i, h1, h2⟩ := dS_mem k x h
      exact ⟨i, by omega, h2⟩
    · rcases mem_insUpto.1 h with h | ⟨j, _, rfl⟩
      · obtain ⟨i, h1, h2⟩ := dS_mem k x h
        exact ⟨i, by omega, h2⟩
      · exact ⟨k, by omega, rfl, rfl, by simp only [cop]; omega⟩
def dN (K : Nat) : Nat → NS
  | 0 => dS sc zs K
  | k + 1 => (dN K k).next
theorem dN_L (K : Nat) : ∀ k, (dN sc zs K k).L = (dS sc zs K).L.drop k
  | 0 => rfl
  | k + 1 => by rw [show (dN sc zs K (k + 1)).L = (dN sc zs K k).L.tail from rfl, dN_L K k]; simp
theorem dN_sent (K : Nat) : ∀ k, (dN sc zs K k).sent = K
  | 0 => dS_sent sc zs K
  | k + 1 => dN_sent K k
/-- all that is left comes behind time a, or at it from number b on -/
def After (a b : Int) (L : List Wt) : Prop := ∀ x ∈ L, a < x.time ∨ a = x.time ∧ b ≤ x.fr
theorem after_step (K k : Nat) {x : Wt} {L' : List Wt} (h : (dN sc zs K k).L = x :: L') : After x.time x.fr L' := by
  rw [dN_L] at h
  have hs : (x :: L').Pairwise lt := by rw [← h]; exact (dS_good sc zs K).sorted.sublist (List.drop_sublist _ _)
  intro y hy
  have hl := (List.pairwise_cons.1 hs).1 y hy
  have hx : x ∈ (dS sc zs K).L := (List.drop_sublist k _).subset (by rw [h]; exact .head _)
  have hy : y ∈ (dS sc zs K).L := (List.drop_sublist k _).subset (by rw [h]; exact .tail _ hy)
  obtain ⟨i, _, hi1, hi2, _⟩ := dS_mem sc zs K x hx
  obtain ⟨j, _, hj1, hj2, _⟩ := dS_mem sc zs K y hy
  unfold lt at hl
  omega
theorem dN_mem (K k : Nat) {x : Wt} (h : x ∈ (dN sc zs K k).L) : ∃ i : Nat, i < K ∧ x.fr = i ∧ zs.getD i 0 ≤ x.time := by
  rw [dN_L] at h
  obtain ⟨i, h1, _, h2, h3⟩ := dS_mem sc zs K x ((List.drop_sublist k _).subset h)
  exact ⟨i, h1, h2, h3⟩
end
theorem dt_delay (sc : List Trb) (k : Nat) (h : ∀ t ∈ sc, t.delay ≤ 100000) : (dt sc k).delay ≤ 100000 := by
  unfold dt tat
  split
  · simp
  · rw [List.getD_eq_getElem?_getD]
    cases hc : sc[k % sc.length]? with
    | none => simp [tz]
    | some t => exact h t (List.mem_of_getElem? hc)
theorem num_if (c : Int) : (num c : Int) = if 8 < (if c < 1 then 1 else c) then 8 else if c < 1 then 1 else c := by
  unfold num
  by_cases h1 : c < 1
  · simp only [if_pos h1]; rw [if_neg (by omega)]; omega
  · simp only [if_neg h1]
    by_cases h2 : 8 < c
    · rw [if_pos h2]; omega
    · rw [if_neg h2]; omega
/-- the new number of copies -/
theorem many_eq {n : Nat} {t : Trb} {m c : Int} (h : n = m.toNat + (if t.lost then 0 else num t.copies)) (hm : 0 ≤ m) (hc : (if t.lost then 0 else (num t.copies : Int)) = c) : Value.int .i64 (m + c) = .int .i64 n := by
  congr 1
  subst h hc
  split <;> omega
set_option maxRecDepth 100000 in
set_option maxHeartbeats 40000000 in
theorem drains_long (v : Value) (l : List Trb) (u : Value) (zs : List Int) (W : World) (hv : TrbR W v l) (hu : IntsK .u16 W u zs) (hcase : 40 < zs.length) :
    Calls Try.prog 4 #[v, u] W fun e w' => e = .returned (.bool true) ∧ Below W.heap.size W w' := by
  have HlS := Lib.hid (show (scr l).length ≤ 12 by rw [scr_len]; omega)
  have HdS := Lib.hid (scr_delay l)
  obtain ⟨ua, ucap, rfl, hul, hum, huw, huc⟩ := hu
  have hz : ∀ i, 0 ≤ zs.getD i 0 ∧ zs.getD i 0 ≤ 65535 := fun i => by
    rw [List.getD_eq_getElem?_getD]
    cases hc : zs[i]? with
    | none => simp
    | some z => exact bounds_u16 (huw z (List.mem_of_getElem? hc))
  have HZ := Lib.hid hz
  have HU := Lib.hid huc
  clear hz huc huw
  go_enter Try.func4, Try.ntmps4
  go_wp2_with (first
    | (go_at_call 11; ((with_reducible refine (sanity_any _).mono ?_); rintro e w1 ⟨rfl, hb1⟩))
    | (go_at_call 12; ((with_reducible refine (script_any v l _ (hv.below hb1)).mono ?_); rintro e w2 ⟨v2, rfl, ht2, hb2⟩; have hb12 := hb1.trans (hb2.mono hb1.size); obtain ⟨a2, cap2, rfl, hc2, hm2⟩ := ht2.len; unfold maxLen at hm2))
    | (go_at_call 13; ((with_reducible refine (new_any _ _ 1 _ _ ht2 (by have := HlS.out; omega) (by decide)).mono ?_); intro e w3 hret; obtain ⟨p, rfl, hN⟩ := lawN_of_new hb12 hret ht2.rows)))
  obtain ⟨N, hN'⟩ : ∃ N : Nat, N = (scr l).length := ⟨_, rfl⟩
  have HN := Lib.hid hN'
  rw [← hN'] at ht2 hN ⊢
  have hN12 : N ≤ 12 := by have := HlS.out; omega
  generalize scr l = sc at HlS HdS ht2 hN HN
  clear hN' hret
  go_loopw [8, 9, 10] (fun m i _ wr => ∃ k : Nat, k ≤ zs.length ∧ k ≤ 40 ∧ i = .int .i64 k ∧ m = .int .i64 ((dS sc zs k).L.length : Int) ∧ LawN W wr p (dS sc zs k) (rows (.slice a2 N cap2) sc)) (fun _ i _ _ => 40 - (intOf i).toNat)
  case atStart => exact ⟨0, Nat.zero_le _, Nat.zero_le _, rfl, rfl, hN⟩
  case round =>
    obtain ⟨k, hk, hk40, rfl, rfl, hn⟩ := hrel
    clear hN
    have hfew := dS_few sc zs k
    by_cases hlt : k < zs.length ∧ k < 40
    · obtain ⟨h1, h2⟩ := hlt
      obtain ⟨b, off, rfl, hbW, hcW⟩ := HU.out (by omega)
      have c0 := (hn.bel.cell (p := ⟨b, _, none⟩) hbW).trans (hcW k h1)
      have hzk := HZ.out k
      clear hcW
      have k0 : (0 : Int) ≤ (k : Int) := by omega
      have k1 : (k : Int) < (zs.length : Int) := by omega
      have HS := Lib.hid (show (dS sc zs k).sent ≤ 9000 by rw [dS_sent]; omega)
      have HG := Lib.hid (show -1000000000000 ≤ zs.getD k 0 ∧ zs.getD k 0 ≤ 1000000000000 ∧ (dS sc zs k).trb.delay ≤ 1000000000000 from ⟨by omega, by omega, by rw [dS_trb]; have := dt_delay sc k HdS.out; omega⟩)
      have HT := Lib.hid (show dS sc zs (k + 1) = (dS sc zs k).send (zs.getD k 0) ⟨k, 0, ⟨#[]⟩⟩ from rfl)
      have HC := Lib.hid (dS_len sc zs k)
      obtain ⟨m, hm⟩ : ∃ m : Int, m = ((dS sc zs k).L.length : Int) := ⟨_, rfl⟩
      have hm0 : 0 ≤ m := by omega
      have hm1 : m ≤ 320 := by omega
      have HM := Lib.hid hm
      rw [← hm]
      clear hm hfew
      generalize zs.getD k 0 = z at c0 hzk HG HT
      by_cases h0 : N = 0
      · have hdt : dt sc k = ⟨false, 1, 1⟩ := by unfold dt; rw [if_pos (by rw [← HN.out]; exact h0)]
        have HD := Lib.hid hdt
        have h00 : decide (0 < N) = false := by simp [h0]
        clear hdt h0
        go_wp2_with (go_at_call 15; ((with_reducible refine (send_law _ _ _ _ hn HS.out (fun _ => HG.out)).mono ?_); rintro e w4 ⟨rfl, hn4⟩))
        go_roundw
        case rel => exact ⟨k + 1, by omega, by omega, by go_num, many_eq (t := dt sc k) (by rw [HC.out, HM.out]; rfl) hm0 (by rw [HD.out]; rfl), by rw [HT.out]; exact hn4⟩
        case measure => simp [intOf]; omega
      · have h00 : 0 < N := by omega
        obtain ⟨g, cap, e, hgB, _, _, _⟩ := ht2.form (by rw [← HN.out]; exact h00)
        rw [← HN.out] at e
        simp only [Value.slice.injEq, true_and] at e
        obtain ⟨rfl, rfl⟩ := e
        have hdt : dt sc k = tat sc (k % N) := by unfold dt; rw [if_neg (by rw [← HN.out]; exact h0), ← HN.out]
        obtain ⟨r, hr⟩ : ∃ r : Nat, r = k % N := ⟨_, rfl⟩
        have hrl : r < N := by rw [hr]; exact Nat.mod_lt _ h00
        have hmod : (k : Int) % (N : Int) = (r : Int) := by rw [hr]; omega
        rw [← hr] at hdt
        have HD := Lib.hid hdt
        have r0 : (0 : Int) ≤ (r : Int) := by omega
        have r1 : (r : Int) < (N : Int) := by omega
        have hg0 := fun j hj => (tflat_get sc r j (by rw [← HN.out]; exact hrl) hj)
        have HR := Lib.hid hg0
        clear hg0 hdt hr h0
        have hn' : LawN W wr p (dS sc zs k) [(g, tflat sc)] := hn
        clear hn
        cases hlost : (tat sc r).lost with
        | true =>
          have HLo := Lib.hid hlost
          clear hlost
          go_wp2_with (go_at_call 15; ((with_reducible refine (send_law _ _ _ _ hn' HS.out (fun _ => HG.out)).mono ?_); rintro e w4 ⟨rfl, hn4⟩; have e0 := (hn4.row (.head _)).at _ (HR.out 0 (by omega)); have e1 := (hn4.row (.head _)).at _ (HR.out 1 (by omega)); simp only [Nat.add_zero] at e0; rw [HLo.out] at e0))
          go_roundw
          case rel => exact ⟨k + 1, by omega, by omega, by go_num, by have := many_eq (t := dt sc k) (n := (dS sc zs (k + 1)).L.length) (m := m) (c := 0) (by rw [HC.out, HM.out]; rfl) hm0 (by rw [HD.out, HLo.out]; rfl); simpa using this, by rw [HT.out]; exact hn4⟩
          case measure => simp [intOf]; omega
        | false =>
          have HLo := Lib.hid hlost
          clear hlost
          go_wp2_with (go_at_call 15; ((with_reducible refine (send_law _ _ _ _ hn' HS.out (fun _ => HG.out)).mono ?_); rintro e w4 ⟨rfl, hn4⟩; have e0 := (hn4.row (.head _)).at _ (HR.out 0 (by omega)); have e1 := (hn4.row (.head _)).at _ (HR.out 1 (by omega)); simp only [Nat.add_zero] at e0; rw [HLo.out] at e0))
          go_roundw
          case rel => exact ⟨k + 1, by omega, by omega, by go_num, many_eq (t := dt sc k) (by rw [HC.out, HM.out]; rfl) hm0 (by rw [HD.out, HLo.out]; simp only [Bool.false_eq_true, if_false]; exact num_if _), by rw [HT.out]; exact hn4⟩
          case measure => simp [intOf]; omega
    · have hn0 : LawN W wr p (dN sc zs k 0) [] := hn.drop (by simp)
      obtain ⟨wo, hwo⟩ : ∃ wo : World, wo = wr := ⟨_, rfl⟩
      subst hwo
      obtain ⟨M, hM⟩ : ∃ M : Nat, M = (dS sc zs k).L.length := ⟨_, rfl⟩
      have HM := Lib.hid hM
      have hM0 : M ≤ 320 := by omega
      have HW := Lib.hid (show ((dN sc zs k 0).L.length : Int) = (M : Int) by rw [hM]; rfl)
      rw [← hM]
      clear hn hM hfew
      have hA0 : After (-1) (-1) (dN sc zs k 0).L := fun x hx => by
        obtain ⟨i, _, _, h3⟩ := dN_mem sc zs k 0 hx
        have := (HZ.out i).1
        left; omega
      have HA0 := Lib.hid hA0
      clear hA0
      have hz2 : k < zs.length := by omega
      have hz3 : ¬ k < 40 := by omega
      clear hlt
      go_wp2_with (go_at_call 21; ((with_reducible refine (waiting_is M hn0 HW.out).mono ?_); rintro e w' ⟨rfl, rfl⟩))
      clear hz2
      go_loopw [11, 12, 13, 14, 15, 16] (fun la fi i _ _ _ wr => ∃ (j : Nat) (a b : Int), j ≤ M ∧ i = .int .i64 j ∧ la = .int .i64 a ∧ fi = .int .i64 b ∧ After a b (dN sc zs k j).L ∧ LawN W wr p (dN sc zs k j) []) (fun _ _ i _ _ _ _ => M - (intOf i).toNat)
      case atStart => exact ⟨0, -1, -1, Nat.zero_le _, rfl, rfl, rfl, HA0.out, hn0⟩
      case round =>
        obtain ⟨j, a, b', hj, rfl, rfl, rfl, hA, hn⟩ := hrel
        clear hn0
        have HA := Lib.hid hA
        clear hA
        have HS := Lib.hid (show (dN sc zs k j).sent ≤ 10000 by rw [dN_sent]; omega)
        by_cases hlt2 : j < M
        · obtain ⟨x, L', hL⟩ : ∃ x L', (dN sc zs k j).L = x :: L' := by
            cases hc : (dN sc zs k j).L with
            | nil => exfalso; have := congrArg List.length hc; rw [dN_L, List.length_drop, ← HM.out] at this; simp at this; omega
            | cons x L' => exact ⟨x, L', rfl⟩
          have HL := Lib.hid hL
          have HB := Lib.hid (after_step sc zs k j hL)
          obtain ⟨i, hi, hfr, hti⟩ := dN_mem sc zs k j (x := x) (by rw [hL]; exact .head _)
          have hax := HA.out x (by rw [hL]; exact .head _)
          clear hL
          obtain ⟨b, off, rfl, hbW, hcW⟩ := HU.out (by omega)
          have hzi := HZ.out i
          have HCI := Lib.hid (hcW i (by omega))
          clear hcW
          generalize zs.getD i 0 = z at HCI hzi hti
          obtain ⟨xf, xo, xt, xx⟩ : ∃ (t f : Int), t = x.time ∧ f = x.fr := ⟨_, _, rfl, rfl⟩
          rw [← xt, ← xx] at HB
          rw [← xt] at hti hax
          rw [← xx] at hax hfr
          have HX := Lib.hid (And.intro xt xx)
          clear xt xx
          subst hfr
          have i0 : (0 : Int) ≤ (i : Int) := by omega
          have i1 : (i : Int) < (zs.length : Int) := by omega
          have t1 : ¬ xf < a := by omega
          have t4 : ¬ (i : Int) < 0 := by omega
          have t5 : decide (zs.length ≤ i) = false := by simp; omega
          have t6 : ¬ xf < z := by omega
          by_cases e1 : xf = a
          · have e2 : (xf == a) = true := by simp [e1]
            have t3 : ¬ (i : Int) < b' := by omega
            have t3b : decide ((i : Int) < b') = false := by simp; omega
            clear e1 hax
            go_wp2_with (go_at_call 19; ((with_reducible refine (next_law _ _ hn HL.out HS.out).mono ?_); rw [← HX.out.1, ← HX.out.2]; rintro e w4 ⟨rfl, hn4⟩; have hn5 := hn4.new w4.heap.size rfl [.int .i64 i, .int .i64 x.to, .string x.text] 31; have q0 := (hn5.row (.head _)).at 0 rfl; have q9 := (hn5.bel.cell (p := ⟨b, _, none⟩) hbW).trans HCI.out))
            go_quiet (fail)
            go_wp2_with fail
            go_roundw
            case rel => exact ⟨j + 1, xf, i, by omega, by go_num, rfl, rfl, by rw [show (dN sc zs k (j + 1)).L = (dN sc zs k j).L.tail from rfl, HL.out]; exact HB.out, (hn5.drop (by simp)).below (below_drewN (Below.refl _ _) _)⟩
            case measure => simp [intOf]; omega
          · have e2 : (xf == a) = false := by simp [e1]
            clear e1 hax
            go_wp2_with (go_at_call 19; ((with_reducible refine (next_law _ _ hn HL.out HS.out).mono ?_); rw [← HX.out.1, ← HX.out.2]; rintro e w4 ⟨rfl, hn4⟩; have hn5 := hn4.new w4.heap.size rfl [.int .i64 i, .int .i64 x.to, .string x.text] 31; have q0 := (hn5.row (.head _)).at 0 rfl; have q9 := (hn5.bel.cell (p := ⟨b, _, none⟩) hbW).trans HCI.out))
            go_quiet (fail)
            go_wp2_with fail
            go_roundw
            case rel => exact ⟨j + 1, xf, i, by omega, by go_num, rfl, rfl, by rw [show (dN sc zs k (j + 1)).L = (dN sc zs k j).L.tail from rfl, HL.out]; exact HB.out, (hn5.drop (by simp)).below (below_drewN (Below.refl _ _) _)⟩
            case measure => simp [intOf]; omega
        · obtain rfl : j = M := by omega
          have HL := Lib.hid (show (dN sc zs k j).L = [] by rw [dN_L]; exact List.drop_eq_nil_of_le (by rw [← HM.out]; exact Nat.le_refl _))
          have HW2 := Lib.hid (show ((dN sc zs k j).L.length : Int) = 0 by rw [HL.out]; rfl)
          go_wp2_with (first
            | (go_at_call 19; ((with_reducible refine (next_law0 hn HL.out).mono ?_); rintro e w4 ⟨rfl, hn4⟩; have hn5 := hn4.alloc (.cells #[.int .i64 0, .int .i64 0, .string ⟨#[]⟩] 31)))
            | (go_at_call 21; ((with_reducible refine (waiting_is 0 hn5 HW2.out).mono ?_); rintro e w' ⟨rfl, rfl⟩)))
          go_ret
          exact ⟨rfl, hn5.bel⟩
end Go.Proofs.Ytffijemgcgbjoaa
