/- NetPlays: the walk. -/
import Derived.Test.YtffijemgcgbjoaaMd
import Derived.Test.YtffijemgcgbjoaaMo
namespace Go.Proofs.Ytffijemgcgbjoaa
open Go.RowKit Nt
theorem tmod_bd (a : Int) : -1000000 < a.tmod 1000000 ∧ a.tmod 1000000 < 1000000 := by
  rcases Int.le_total 0 a with h | h
  · rw [Int.tmod_eq_emod_of_nonneg h]; omega
  · have e := Int.neg_tmod (-a) 1000000
    rw [Int.neg_neg] at e
    rw [e, Int.tmod_eq_emod_of_nonneg (by omega)]; omega
set_option maxRecDepth 100000 in
set_option maxHeartbeats 8000000 in
theorem plays_walk (nd : Int) (v0 : Value) (l : List Trb) (v : Value) (acts : List ActT) (W : World) (n0 : 0 ≤ nd) (n1 : nd ≤ 255) (hv : TrbR W v0 l) (ha : ActR W v acts) :
    Calls Try.prog 3 #[.int .u8 nd, v0, v] W fun e w' => e = .returned (.bool true) ∧ Below W.heap.size W w' := by
  have HlS := Lib.hid (show (scr l).length ≤ 12 by rw [scr_len]; omega)
  have HdS := Lib.hid (scr_delay l)
  have HL1 := Lib.hid (show (scr l).length ≤ 1000 by have := HlS.out; omega)
  have HN1 := Lib.hid (show nd % 7 - 1 ≤ 1000 by omega)
  obtain ⟨av, acap, rfl, hal, hak, hac⟩ := ha
  go_enter Try.func3, Try.ntmps3
  go_wp2_with (first
    | (go_at_call 11; ((with_reducible refine (sanity_any _).mono ?_); rintro e w1 ⟨rfl, hb1⟩))
    | (go_at_call 12; ((with_reducible refine (script_any v0 l _ (hv.below hb1)).mono ?_); rintro e w2 ⟨v2, rfl, ht2, hb2⟩; have hb12 := hb1.trans (hb2.mono hb1.size); obtain ⟨a2, cap2, rfl, hc2, hm2⟩ := ht2.len; unfold maxLen at hm2))
    | (go_at_call 13; ((with_reducible refine (new_any _ _ _ _ _ ht2 HL1.out HN1.out).mono ?_); intro e w3 hret; obtain ⟨p, rfl, hN⟩ := lawN_of_new (R := []) hb12 hret (by simp); obtain ⟨_, _, _, _, _, hb3⟩ := hret; have ht3 := ht2.only (Only.of_below (S := []) hb3) (by simp)))
    | (go_at_call 14; ((with_reducible refine (rnew_any _ _ _ _ _ ht3 HL1.out).mono ?_); intro e w4 hret4; obtain ⟨q, rfl, hP⟩ := lawP_of_new hN hret4)))
  have hsame := Same.new (nd % 7 - 1) (scr l)
  obtain ⟨s0, hs0⟩ : ∃ s0, s0 = NS.new (nd % 7 - 1) (scr l) := ⟨_, rfl⟩
  obtain ⟨r0, hr0⟩ : ∃ r0, r0 = RS.new (nd % 7 - 1) (scr l) := ⟨_, rfl⟩
  have hsent : s0.sent ≤ 0 := by rw [hs0]; exact Nat.le_refl _
  have hscr : s0.script = scr l := by rw [hs0]; rfl
  rw [← hs0, ← hr0] at hsame hP
  clear hs0 hr0 hret4 hN ht3 ht2
  go_loopw [11, 12, 13, 14, 15, 16, 17, 18] (fun i _ _ _ _ _ _ _ wr => ∃ (k : Nat) (s : NS) (r : RS), k ≤ acts.length ∧ k ≤ 60 ∧ i = .int .i64 k ∧ LawP W wr p s q r [] ∧ Same s r ∧ s.sent ≤ k ∧ s.script = scr l) (fun i _ _ _ _ _ _ _ _ => 60 - (intOf i).toNat)
  case atStart => exact ⟨0, s0, r0, Nat.zero_le _, Nat.zero_le _, rfl, hP, hsame, hsent, hscr⟩
  case round =>
    obtain ⟨k, s, r, hk, hk60, rfl, hp, hsm, hst, hsc⟩ := hrel
    clear hP hsame hsent hscr
    by_cases hlt : k < acts.length ∧ k < 60
    · obtain ⟨h1, h2⟩ := hlt
      obtain ⟨b, off, rfl, hbW, hcW⟩ := hac (by omega)
      have hok := hak k h1
      have hcl := hcW k h1
      clear hcW hak hac
      obtain ⟨t, ht⟩ : ∃ t, t = aat acts k := ⟨_, rfl⟩
      rw [← ht] at hok hcl
      clear ht
      obtain ⟨kind, now, fr, dest, text, gv, gz⟩ := t
      obtain ⟨hgi, hgn, hgf, hgw, hkb, hnb⟩ := hok
      simp only at hgi hgn hgf hgw hkb hnb
      obtain ⟨ga, gcap, rfl, _⟩ := id hgi
      have c0 := (hp.bel.cell (p := ⟨b, _, none⟩) hbW).trans (hcl 0 _ rfl)
      have c1 := (hp.bel.cell (p := ⟨b, _, none⟩) hbW).trans (hcl 1 _ rfl)
      have c2 := (hp.bel.cell (p := ⟨b, _, none⟩) hbW).trans (hcl 2 _ rfl)
      have c3 := (hp.bel.cell (p := ⟨b, _, none⟩) hbW).trans (hcl 3 _ rfl)
      have c4 := (hp.bel.cell (p := ⟨b, _, none⟩) hbW).trans (hcl 4 _ rfl)
      have c5 := (hp.bel.cell (p := ⟨b, _, none⟩) hbW).trans (hcl 5 _ rfl)
      have e0 : wr.cell? ⟨b, off + k * 6, none⟩ = some (.int .i64 kind) := c0
      have e1 : wr.cell? ⟨b, off + k * 6 + 1, none⟩ = some (.int .i64 now) := c1
      have e2 : wr.cell? ⟨b, off + k * 6 + 1 + 1, none⟩ = some (.int .i64 fr) := c2
      have e3 : wr.cell? ⟨b, off + k * 6 + 1 + 1 + 1, none⟩ = some (.int .i64 dest) := c3
      have e4 : wr.cell? ⟨b, off + k * 6 + 1 + 1 + 1 + 1, none⟩ = some (.string text) := c4
      have e5 : wr.cell? ⟨b, off + k * 6 + 1 + 1 + 1 + 1 + 1, none⟩ = some (.slice ga gz.length gcap) := c5
      clear c0 c1 c2 c3 c4 c5 hcl
      have k0 : (0 : Int) ≤ (k : Int) := by omega
      have k1 : (k : Int) < (acts.length : Int) := by omega
      have k2 : (k : Int) < 60 := by omega
      have hp' := hp.new wr.heap.size rfl [.int .i64 kind, .int .i64 now, .int .i64 fr, .int .i64 dest, .string text, .slice ga gz.length gcap] 34
      have d0 := (hp'.row (.head _)).at 0 rfl
      have d1 := (hp'.row (.head _)).at 1 rfl
      have d2 := (hp'.row (.head _)).at 2 rfl
      have d3 := (hp'.row (.head _)).at 3 rfl
      have d4 := (hp'.row (.head _)).at 4 rfl
      have d5 := (hp'.row (.head _)).at 5 rfl
      have HSt := Lib.hid (show s.sent ≤ 9000 by omega)
      have HSr := Lib.hid (show r.sent ≤ 9000 by rw [← hsm.sent]; omega)
      have HSt1 := Lib.hid (show s.sent ≤ 10000 by omega)
      have HSr1 := Lib.hid (show r.sent ≤ 10000 by rw [← hsm.sent]; omega)
      have HSm := Lib.hid hsm
      have HI := Lib.hid (And.intro hk (And.intro hst (And.intro h1 h2)))
      have HSc := Lib.hid hsc
      clear hsm hk hst hsc
      by_cases hK : bits .and .i64 kind 7 < 4
      · have HG := Lib.hid (show -1000000000000 ≤ now.tmod 1000000 ∧ now.tmod 1000000 ≤ 1000000000000 ∧ s.trb.delay ≤ 1000000000000 from ⟨by have := tmod_bd now; omega, by have := tmod_bd now; omega, by have := trb_delay (s := s) (by rw [HSc.out]; exact HdS.out); omega⟩)
        have HGr := Lib.hid (show -1000000000000 ≤ now.tmod 1000000 ∧ now.tmod 1000000 ≤ 1000000000000 ∧ r.trb.delay ≤ 1000000000000 from by rw [← HSm.out.trb]; exact HG.out)
        have HSm2 := Lib.hid (HSm.out.send (now.tmod 1000000) ⟨fr, dest, text⟩)
        clear h1 h2
        obtain ⟨n, hn⟩ : ∃ n : Int, ((s.send (now.tmod 1000000) ⟨fr, dest, text⟩).L.length : Int) = n := ⟨_, rfl⟩
        have HW1 := Lib.hid hn
        have HW2 := Lib.hid (show ((r.send (now.tmod 1000000) ⟨fr, dest, text⟩).L.length : Int) = n by rw [← hn, HSm2.out.perm.length_eq])
        clear hn
        go_wp2_with (first
          | (go_at_call 15; ((with_reducible refine (send_p _ _ _ _ hp' HSt.out (fun _ => HG.out)).mono ?_); rintro e w5 ⟨rfl, hA⟩; have x1 := (hA.row (.head _)).at 1 rfl; have x2 := (hA.row (.head _)).at 2 rfl; have x3 := (hA.row (.head _)).at 3 rfl; have x4 := (hA.row (.head _)).at 4 rfl))
          | (go_at_call 16; ((with_reducible refine (rsend_p _ _ _ _ hA HSr.out (fun _ => HGr.out)).mono ?_); rintro e w6 ⟨rfl, hB⟩))
          | (go_at_call 21; ((with_reducible refine (waiting_p _ hB HW1.out).mono ?_); rintro e w7 ⟨rfl, rfl⟩))
          | (go_at_call 22; ((with_reducible refine (rwaiting_p _ hB HW2.out).mono ?_); rintro e w8 ⟨rfl, rfl⟩)))
        go_roundw
        case rel => exact ⟨k + 1, _, _, by have := HI.out; omega, by have := HI.out; omega, by go_num, hB.drop (by simp), HSm2.out, by have := HI.out.2.1; exact Nat.succ_le_succ this, HSc.out⟩
        case measure => simp [intOf]; omega
      · by_cases hK7 : bits .and .i64 kind 7 = 7
        · have HSm2 := Lib.hid (HSm.out.part gz)
          clear h1 h2
          obtain ⟨n, hn⟩ : ∃ n : Int, ((s.part gz).L.length : Int) = n := ⟨_, rfl⟩
          have HW1 := Lib.hid hn
          have HW2 := Lib.hid (show ((r.part gz).L.length : Int) = n by rw [← hn, HSm2.out.perm.length_eq])
          clear hn
          have HP := Lib.hid (And.intro hgi (And.intro hgn (And.intro hgf hgw)))
          clear hgi hgn hgf hgw
          go_wp2_with (first
            | (go_at_call 17; ((with_reducible refine (part_p _ gz hp' HP.out.1 HP.out.2.2.2).mono ?_); rintro e w5 ⟨rfl, hA⟩; have x5 := (hA.row (.head _)).at 5 rfl))
            | (go_at_call 18; ((with_reducible refine (rpart_p _ gz hA HP.out.1 HP.out.2.1 HP.out.2.2.1).mono ?_); rintro e w6 ⟨rfl, hB⟩))
            | (go_at_call 21; ((with_reducible refine (waiting_p _ hB HW1.out).mono ?_); rintro e w7 ⟨rfl, rfl⟩))
            | (go_at_call 22; ((with_reducible refine (rwaiting_p _ hB HW2.out).mono ?_); rintro e w8 ⟨rfl, rfl⟩)))
          go_roundw
          case rel => exact ⟨k + 1, _, _, by have := HI.out; omega, by have := HI.out; omega, by go_num, hB.drop (by simp), HSm2.out, by have := HI.out.2.1; exact Nat.le_succ_of_le this, HSc.out⟩
          case measure => simp [intOf]; omega
        · have hgm := fun y z xs ys => guard_msg y z xs ys
          clear h1 h2 hgi hgn hgf hgw
          cases hL : s.L with
          | nil =>
            have HL := Lib.hid hL
            have HLr := Lib.hid (HSm.out.empty hL)
            clear hL
            have HSm2 := Lib.hid HSm.out
            have hne := ne_same 0 0 ⟨#[]⟩
            obtain ⟨n, hn⟩ : ∃ n : Int, (s.L.length : Int) = n := ⟨_, rfl⟩
            have HW1 := Lib.hid hn
            have HW2 := Lib.hid (show (r.L.length : Int) = n by rw [← hn, HSm.out.perm.length_eq])
            clear hn
            go_wp2_with (first
              | (go_at_call 19; ((with_reducible refine (next_p0 hp' HL.out).mono ?_); rintro e w5 ⟨rfl, hA⟩; have hA' := hA.new w5.heap.size rfl [.int .i64 0, .int .i64 0, .string ⟨#[]⟩] 31))
              | (go_at_call 20; ((with_reducible refine (rnext_p0 hA' HLr.out).mono ?_); rintro e w6 ⟨rfl, hB⟩; have hB' := hB.new w6.heap.size rfl [.int .i64 0, .int .i64 0, .string ⟨#[]⟩] 31; have x0 := (hB'.row (.head _)).at 0 rfl; have x1 := (hB'.row (.head _)).at 1 rfl; have x2 := (hB'.row (.head _)).at 2 rfl; have y0 := (hB'.row (.tail _ (.head _))).at 0 rfl; have y1 := (hB'.row (.tail _ (.head _))).at 1 rfl; have y2 := (hB'.row (.tail _ (.head _))).at 2 rfl))
              | (go_at_call 21; ((with_reducible refine (waiting_p _ hB' HW1.out).mono ?_); rintro e w7 ⟨rfl, rfl⟩))
              | (go_at_call 22; ((with_reducible refine (rwaiting_p _ hB' HW2.out).mono ?_); rintro e w8 ⟨rfl, rfl⟩)))
            go_roundw
            case rel => exact ⟨k + 1, _, _, by have := HI.out; omega, by have := HI.out; omega, by go_num, hB'.drop (by simp), HSm2.out, by have := HI.out.2.1; exact Nat.le_succ_of_le this, HSc.out⟩
            case measure => simp [intOf]; omega
          | cons x L' =>
            have HSm2 := Lib.hid (HSm.out.next hp.good hL)
            obtain ⟨hx1, hx2⟩ := HSm.out.head hp.good hL
            have HL := Lib.hid hL
            have HX1 := Lib.hid hx1
            have HX2 := Lib.hid (show 0 < r.L.length by omega)
            clear hL hx1 hx2
            have hne := ne_same x.fr x.to x.text
            obtain ⟨n, hn⟩ : ∃ n : Int, (s.next.L.length : Int) = n := ⟨_, rfl⟩
            have HW1 := Lib.hid hn
            have HW2 := Lib.hid (show (r.next.L.length : Int) = n by rw [← hn, HSm2.out.perm.length_eq])
            clear hn
            go_wp2_with (first
              | (go_at_call 19; ((with_reducible refine (next_p _ _ hp' HL.out HSt1.out).mono ?_); rintro e w5 ⟨rfl, hA⟩; have hA' := hA.new w5.heap.size rfl [.int .i64 x.fr, .int .i64 x.to, .string x.text] 31))
              | (go_at_call 20; ((with_reducible refine (rnext_p x hA' HX2.out HX1.out HSr1.out).mono ?_); rintro e w6 ⟨rfl, hB⟩; have hB' := hB.new w6.heap.size rfl [.int .i64 x.fr, .int .i64 x.to, .string x.text] 31; have x0 := (hB'.row (.head _)).at 0 rfl; have x1 := (hB'.row (.head _)).at 1 rfl; have x2 := (hB'.row (.head _)).at 2 rfl; have y0 := (hB'.row (.tail _ (.head _))).at 0 rfl; have y1 := (hB'.row (.tail _ (.head _))).at 1 rfl; have y2 := (hB'.row (.tail _ (.head _))).at 2 rfl))
              | (go_at_call 21; ((with_reducible refine (waiting_p _ hB' HW1.out).mono ?_); rintro e w7 ⟨rfl, rfl⟩))
              | (go_at_call 22; ((with_reducible refine (rwaiting_p _ hB' HW2.out).mono ?_); rintro e w8 ⟨rfl, rfl⟩)))
            go_roundw
            case rel => exact ⟨k + 1, _, _, by have := HI.out; omega, by have := HI.out; omega, by go_num, hB'.drop (by simp), HSm2.out, by have := HI.out.2.1; exact Nat.le_succ_of_le this, HSc.out⟩
            case measure => simp [intOf]; omega
    · have hx : k = acts.length ∨ k = 60 := by omega
      have hnb : LawP W wr p s q r [] := hp
      rcases hx with hx | hx
      · subst hx
        go_wp2_with fail
        go_ret
        exact ⟨rfl, hp.bel⟩
      · by_cases h1 : k < acts.length
        · have k1 : (k : Int) < (acts.length : Int) := by omega
          have k2 : ¬ (k : Int) < 60 := by omega
          clear hx h1 hlt hk60 hk
          go_wp2_with fail
          all_goals go_ret
          all_goals exact ⟨rfl, hp.bel⟩
        · obtain rfl : k = acts.length := by omega
          go_wp2_with fail
          go_ret
          exact ⟨rfl, hp.bel⟩
end Go.Proofs.Ytffijemgcgbjoaa
