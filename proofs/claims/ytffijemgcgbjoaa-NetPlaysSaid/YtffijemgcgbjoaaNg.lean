/- sanity. -/
import Derived.Test.YtffijemgcgbjoaaNf
namespace Go.Proofs.Ytffijemgcgbjoaa
open Go.RowKit Nt

theorem Tbs.lit (w : World) (l : List Trb) (cs : Array Value) (n : Nat) (hn : n = l.length) (h : cs.toList = tflat l) (hm : l.length ≤ 1000) : Tbs (w.alloc (.cells cs 44)) 0 (.slice (some ⟨w.heap.size, 0, none⟩) n n) l := by
  subst hn
  have hs : cs.size = l.length * 3 := by rw [← tflat_len, ← h]; simp
  have := World.ownsRow_lit (e := 44) (size := 3) (base := 0) w cs l.length (Nat.zero_le _) (by unfold maxLen; omega) hs
  unfold Tbs
  rw [← h]
  exact this
def san0 : NS := .new 2 [⟨false, 0, 5⟩, ⟨true, 0, 0⟩, ⟨false, 2, 0⟩]
def sanS : Nat → NS
  | 0 => san0
  | k + 1 => (sanS k).send (([10, 11, 12, 12] : List Int).getD k 0) ⟨k, 1, ⟨#[]⟩⟩
def sanN : Nat → NS
  | 0 => sanS 4
  | k + 1 => (sanN k).next
def sanL : List Wt := [⟨12, 2, 2, 1, ⟨#[]⟩⟩, ⟨13, 2, 2, 1, ⟨#[]⟩⟩, ⟨15, 0, 0, 1, ⟨#[]⟩⟩, ⟨17, 3, 3, 1, ⟨#[]⟩⟩]
theorem sanS_L : (sanS 4).L = sanL := by rfl
theorem sanN_L : ∀ k, (sanN k).L = sanL.drop k
  | 0 => by rw [show (sanN 0).L = (sanS 4).L from rfl, sanS_L]; rfl
  | k + 1 => by rw [show (sanN (k + 1)).L = (sanN k).L.tail from rfl, sanN_L k]; simp
theorem sanS_sent : ∀ k, (sanS k).sent = k
  | 0 => rfl
  | k + 1 => by rw [show (sanS (k + 1)).sent = (sanS k).sent + 1 from rfl, sanS_sent k]
theorem sanN_sent : ∀ k, (sanN k).sent = 4
  | 0 => rfl
  | k + 1 => by rw [show (sanN (k + 1)).sent = (sanN k).sent from rfl, sanN_sent k]
theorem four {P : Nat → Prop} (h0 : P 0) (h1 : P 1) (h2 : P 2) (h3 : P 3) (k : Nat) (hk : k < 4) : P k := by
  match k, hk with
  | 0, _ => exact h0
  | 1, _ => exact h1
  | 2, _ => exact h2
  | 3, _ => exact h3
def tm (k : Nat) : Int := ([10, 11, 12, 12] : List Int).getD k 0
theorem san_ok (k : Nat) (hk : k < 4) : -1000000000000 ≤ tm k ∧ tm k ≤ 1000000000000 ∧ (sanS k).trb.delay ≤ 1000000000000 :=
  four (P := fun k => -1000000000000 ≤ tm k ∧ tm k ≤ 1000000000000 ∧ (sanS k).trb.delay ≤ 1000000000000) (by decide) (by decide) (by decide) (by decide) k hk
theorem tm_row (k : Nat) (hk : k < 4) : ([.int .i64 10, .int .i64 11, .int .i64 12, .int .i64 12] : List Value)[k]? = some (.int .i64 (tm k)) :=
  four (P := fun k => ([.int .i64 10, .int .i64 11, .int .i64 12, .int .i64 12] : List Value)[k]? = some (.int .i64 (tm k))) rfl rfl rfl rfl k hk
def sanX (k : Nat) : Wt := sanL.getD k wz
theorem sanN_cons (k : Nat) (hk : k < 4) : (sanN k).L = sanX k :: sanL.drop (k + 1) := by
  rw [sanN_L]
  exact four (P := fun k => sanL.drop k = sanX k :: sanL.drop (k + 1)) rfl rfl rfl rfl k hk
def sanW : List Value := [.int .i64 2, .int .i64 12, .int .i64 2, .int .i64 13, .int .i64 0, .int .i64 15, .int .i64 3, .int .i64 17]
theorem sanW_0 (k : Nat) (hk : k < 4) : sanW[k * 2]? = some (.int .i64 (sanX k).fr) := four (P := fun k => sanW[k * 2]? = some (.int .i64 (sanX k).fr)) rfl rfl rfl rfl k hk
theorem sanW_1 (k : Nat) (hk : k < 4) : sanW[k * 2 + 1]? = some (.int .i64 (sanX k).time) := four (P := fun k => sanW[k * 2 + 1]? = some (.int .i64 (sanX k).time)) rfl rfl rfl rfl k hk
set_option maxRecDepth 100000 in
set_option maxHeartbeats 8000000 in
theorem sanity_any (w : World) : Calls Try.prog 11 #[] w fun e w' => e = .returned (.bool true) ∧ Below w.heap.size w w' := by
  have hT := Tbs.lit w [⟨false, 0, 5⟩, ⟨true, 0, 0⟩, ⟨false, 2, 0⟩] #[.bool false, .int .i64 0, .int .i64 5, .bool true, .int .i64 0, .int .i64 0, .bool false, .int .i64 2, .int .i64 0] 3 rfl rfl (by decide)
  have hb0 : Below w.heap.size w (w.alloc (.cells #[.bool false, .int .i64 0, .int .i64 5, .bool true, .int .i64 0, .int .i64 0, .bool false, .int .i64 2, .int .i64 0] 44)) := (Below.refl _ _).alloc (Nat.le_refl _) _
  go_enter Try.func11, Try.ntmps11
  go_wp2_with (go_at_call 13; ((with_reducible refine (new_any _ 0 2 _ _ hT (by decide) (by decide)).mono ?_); intro e w1 hret; obtain ⟨p, rfl, hN⟩ := lawN_of_new (W := w) (R := []) hb0 hret (by simp)))
  have hN1 := hN.new w1.heap.size rfl [.int .i64 10, .int .i64 11, .int .i64 12, .int .i64 12] 3
  go_loopw [3] (fun i wr => ∃ k : Nat, k ≤ 4 ∧ i = .int .i64 k ∧ LawN w wr p (sanS k) [(w1.heap.size, [.int .i64 10, .int .i64 11, .int .i64 12, .int .i64 12])]) (fun i _ => 4 - (intOf i).toNat)
  case atStart => exact ⟨0, by omega, rfl, hN1⟩
  case round =>
    obtain ⟨k, hk, rfl, hn⟩ := hrel
    clear hN hN1 hT hb0 hret
    by_cases hlt : k < 4
    · have hc := (hn.row (.head _)).at k (tm_row k hlt)
      have hok := san_ok k hlt
      have i0 : (0 : Int) ≤ (k : Int) := by omega
      have i1 : (k : Int) < 4 := by omega
      have HT := Lib.hid (show sanS (k + 1) = (sanS k).send (tm k) ⟨k, 1, ⟨#[]⟩⟩ from rfl)
      generalize tm k = z at hc hok HT
      go_wp2_with (go_at_call 15; ((with_reducible refine (send_law z k 1 ⟨#[]⟩ hn (by rw [sanS_sent]; omega) (fun _ => hok)).mono ?_); rintro e w2 ⟨rfl, hn2⟩))
      go_roundw
      case rel => exact ⟨k + 1, by omega, by go_num, by rw [HT.out]; exact hn2⟩
      case measure => simp [intOf]; omega
    · obtain rfl : k = 4 := by omega
      have hl : ((sanS 4).L.length : Int) = 4 := by rfl
      have hn3 := hn.new wr.heap.size rfl sanW 63
      unfold sanW at hn3
      go_wp2_with (go_at_call 21; ((with_reducible refine (waiting_law hn3).mono ?_); rw [hl]; rintro e w2 ⟨rfl, rfl⟩))
      obtain ⟨wo, hwo⟩ : ∃ wo : World, wo = wr := ⟨_, rfl⟩
      subst hwo
      obtain ⟨g, hg⟩ : ∃ g : Nat, g = wo.heap.size := ⟨_, rfl⟩
      rw [← hg] at hn3 ⊢
      clear hg hl
      go_loopw [5, 6, 7, 8, 9] (fun ok i _ _ _ wr => ∃ k : Nat, k ≤ 4 ∧ i = .int .i64 k ∧ ok = .bool true ∧ LawN w wr p (sanN k) [(g, sanW)]) (fun _ i _ _ _ _ => 4 - (intOf i).toNat)
      case atStart => exact ⟨0, by omega, rfl, rfl, hn3.drop (by simp [sanW])⟩
      case round =>
        obtain ⟨k, hk2, rfl, rfl, hm⟩ := hrel
        clear hn hn3 hk
        by_cases hlt2 : k < 4
        · have hL := sanN_cons k hlt2
          have HL := Lib.hid hL
          clear hL
          have i0 : (0 : Int) ≤ (k : Int) := by omega
          have i1 : (k : Int) < 4 := by omega
          have hd0 := sanW_0 k hlt2
          have hd1 := sanW_1 k hlt2
          have HD0 := Lib.hid hd0
          have HD1 := Lib.hid hd1
          clear hd0 hd1
          generalize sanX k = x at HL HD0 HD1
          go_wp2_with (go_at_call 19; ((with_reducible refine (next_law x _ hm HL.out (by rw [sanN_sent]; omega)).mono ?_); rintro e w2 ⟨rfl, hm2⟩; have hm3 := hm2.new w2.heap.size rfl [.int .i64 x.fr, .int .i64 x.to, .string x.text] 31; have b0 := (hm3.row (.head _)).at 0 rfl; have d0 := (hm3.row (.tail _ (.head _))).at _ HD0.out; have d1 := (hm3.row (.tail _ (.head _))).at _ HD1.out))
          go_quiet (fail)
          go_wp2_with fail
          go_roundw
          case rel => exact ⟨k + 1, by omega, by go_num, rfl, (hm3.drop (by simp)).below (below_drewN (Below.refl _ _) _)⟩
          case measure => simp [intOf]; omega
        · obtain rfl : k = 4 := by omega
          have hL4 : (sanN 4).L = [] := by rfl
          have HL4 := Lib.hid hL4
          clear hL4
          have HWB := Lib.hid (show (((sanN 4).send 0 ⟨0, 2, ⟨#[]⟩⟩).L.length : Int) = 0 by rfl)
          have HWE := Lib.hid (show (((((sanN 4).send 0 ⟨0, 2, ⟨#[]⟩⟩).part [1, 2]).send 0 ⟨0, 1, ⟨#[]⟩⟩).L.length : Int) = 0 by rfl)
          have HWF := Lib.hid (show ((((((sanN 4).send 0 ⟨0, 2, ⟨#[]⟩⟩).part [1, 2]).send 0 ⟨0, 1, ⟨#[]⟩⟩).send 0 ⟨7, 1, ⟨#[]⟩⟩).L.length : Int) = 1 by rfl)
          go_wp2_with (first
            | (go_at_call 19; ((with_reducible refine (next_law0 hm HL4.out).mono ?_); rintro e w2 ⟨rfl, hA⟩; have hA' := hA.alloc (.cells #[.int .i64 0, .int .i64 0, .string ⟨#[]⟩] 31)))
            | (go_at_call 15; ((with_reducible refine (send_law 0 7 1 ⟨#[]⟩ hE (by decide) (fun _ => ⟨by decide, by decide, by decide⟩)).mono ?_); rintro e w6 ⟨rfl, hF⟩))
            | (go_at_call 15; ((with_reducible refine (send_law 0 0 1 ⟨#[]⟩ hD (by decide) (fun _ => ⟨by decide, by decide, by decide⟩)).mono ?_); rintro e w5 ⟨rfl, hE⟩))
            | (go_at_call 15; ((with_reducible refine (send_law 0 0 2 ⟨#[]⟩ hA' (by decide) (fun _ => ⟨by decide, by decide, by decide⟩)).mono ?_); rintro e w3 ⟨rfl, hB⟩; have hC : LawN w (w3.alloc (.cells #[.int .i64 1, .int .i64 2] 3)) p _ ((w3.heap.size, ([1, 2] : List Int).map (Value.int .i64)) :: _) := hB.new w3.heap.size rfl [.int .i64 1, .int .i64 2] 3))
            | (go_at_call 21; ((with_reducible refine (waiting_is 1 hF HWF.out).mono ?_); rintro e w' ⟨rfl, rfl⟩))
            | (go_at_call 21; ((with_reducible refine (waiting_is 0 hE HWE.out).mono ?_); rintro e w' ⟨rfl, rfl⟩))
            | (go_at_call 21; ((with_reducible refine (waiting_is 0 hB HWB.out).mono ?_); rintro e w' ⟨rfl, rfl⟩))
            | (go_at_call 17; ((with_reducible refine (part_row w3.heap.size [1, 2] 2 2 hC (by decide) (by decide) (by decide)).mono ?_); rintro e w4 ⟨rfl, hD⟩)))
          go_ret
          exact ⟨rfl, hF.bel⟩
end Go.Proofs.Ytffijemgcgbjoaa
