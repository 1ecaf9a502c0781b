/- NetOvertakes. -/
import Derived.Test.YtffijemgcgbjoaaNh
namespace Go.Proofs.Ytffijemgcgbjoaa
open Go.RowKit Nt

theorem over_L (a b d0 d1 : Int) (h0 : 0 ≤ d0) (h1 : 0 ≤ d1) :
    (((NS.new 1 [⟨false, 0, d0⟩, ⟨false, 0, d1⟩]).send a ⟨1, 0, ⟨#[]⟩⟩).send b ⟨2, 0, ⟨#[]⟩⟩).L = if b + d1 < a + d0 then [⟨b + d1, 1, 2, 0, ⟨#[]⟩⟩, ⟨a + d0, 0, 1, 0, ⟨#[]⟩⟩] else [⟨a + d0, 0, 1, 0, ⟨#[]⟩⟩, ⟨b + d1, 1, 2, 0, ⟨#[]⟩⟩] := by
  have e1 : max d0 0 = d0 := by omega
  have e2 : max d1 0 = d1 := by omega
  have k : (((NS.new 1 [⟨false, 0, d0⟩, ⟨false, 0, d1⟩]).send a ⟨1, 0, ⟨#[]⟩⟩).send b ⟨2, 0, ⟨#[]⟩⟩).L = ins ⟨b + max d1 0 + 0, 1, 2, 0, ⟨#[]⟩⟩ [⟨a + max d0 0 + 0, 0, 1, 0, ⟨#[]⟩⟩] := rfl
  rw [k, e1, e2, Int.add_zero, Int.add_zero]
  by_cases h : b + d1 < a + d0
  · rw [if_pos h]
    exact if_pos (lessB_true.2 (.inl h))
  · rw [if_neg h]
    exact if_neg (fun hh => by have := lessB_true.1 hh; simp at this; omega)
theorem over_d (a d0 d1 : Int) : ((NS.new 1 [⟨false, 0, d0⟩, ⟨false, 0, d1⟩]).send a ⟨1, 0, ⟨#[]⟩⟩).trb.delay = d1 := rfl
theorem over_d0 (d0 d1 : Int) : (NS.new 1 [⟨false, 0, d0⟩, ⟨false, 0, d1⟩]).trb.delay = d0 := rfl
set_option maxRecDepth 100000 in
set_option maxHeartbeats 4000000 in
theorem over_walk (a b d0 d1 : Int) (W : World) (a0 : 0 ≤ a) (a1 : a ≤ 65535) (b0 : 0 ≤ b) (b1 : b ≤ 65535) (x0 : 0 ≤ d0) (x1 : d0 ≤ 65535) (y0 : 0 ≤ d1) (y1 : d1 ≤ 65535) :
    Calls Try.prog 7 #[.int .u16 a, .int .u16 b, .agg #[.int .u16 d0, .int .u16 d1]] W fun e w' => e = .returned (.bool true) ∧ Below W.heap.size W w' := by
  have hr := Row.new W _ rfl [.int .u16 d0, .int .u16 d1] 49
  have hb0 : Below W.heap.size W (W.alloc (.cells #[.int .u16 d0, .int .u16 d1] 49)) := (Below.refl _ _).alloc (Nat.le_refl _) _
  have hL := over_L a b d0 d1 x0 y0
  have hd := over_d a d0 d1
  have HD := Lib.hid (show b ≥ -1000000000000 ∧ b ≤ 1000000000000 ∧ ((NS.new 1 [⟨false, 0, d0⟩, ⟨false, 0, d1⟩]).send a ⟨1, 0, ⟨#[]⟩⟩).trb.delay ≤ 1000000000000 from ⟨by omega, by omega, by rw [hd]; omega⟩)
  have HD0 := Lib.hid (show a ≥ -1000000000000 ∧ a ≤ 1000000000000 ∧ (NS.new 1 [⟨false, 0, d0⟩, ⟨false, 0, d1⟩]).trb.delay ≤ 1000000000000 from ⟨by omega, by omega, by rw [over_d0]; omega⟩)
  have HS0 := Lib.hid (show (NS.new 1 [⟨false, 0, d0⟩, ⟨false, 0, d1⟩]).sent ≤ 9000 from Nat.zero_le _)
  have HS1 := Lib.hid (show ((NS.new 1 [⟨false, 0, d0⟩, ⟨false, 0, d1⟩]).send a ⟨1, 0, ⟨#[]⟩⟩).sent ≤ 9000 from (by decide : 1 ≤ 9000))
  have HS2 := Lib.hid (show (((NS.new 1 [⟨false, 0, d0⟩, ⟨false, 0, d1⟩]).send a ⟨1, 0, ⟨#[]⟩⟩).send b ⟨2, 0, ⟨#[]⟩⟩).sent ≤ 10000 from (by decide : 2 ≤ 10000))
  clear hd
  by_cases hlt : b + d1 < a + d0
  · rw [if_pos hlt] at hL
    have HL := Lib.hid hL
    clear hL
    go_enter Try.func7, Try.ntmps7
    go_wp2_with (first
      | (go_at_call 11; ((with_reducible refine (sanity_any _).mono ?_); rintro e w1 ⟨rfl, hb1⟩; have hr1 := hr.below hb1; have c0 := hr1.at 0 rfl; have c1 := hr1.at 1 rfl; have hT := Tbs.lit w1 [⟨false, 0, d0⟩, ⟨false, 0, d1⟩] #[.bool false, .int .i64 0, .int .i64 d0, .bool false, .int .i64 0, .int .i64 d1] 2 rfl rfl (by simp)))
      | (go_at_call 13; ((with_reducible refine (new_any _ 0 1 _ _ hT (by simp) (by decide)).mono ?_); intro e w2 hret; obtain ⟨p, rfl, hN⟩ := lawN_of_new (W := W) (R := [(W.heap.size, [.int .u16 d0, .int .u16 d1])]) ((hb0.trans (hb1.mono hb0.size)).alloc (by have := hb0.size; have := hb1.size; omega) _) hret (fun r hrr => by simp only [List.mem_singleton] at hrr; subst hrr; exact hr1.alloc _)))
      | (go_at_call 15; ((with_reducible refine (send_law b 2 0 ⟨#[]⟩ hA HS1.out (fun _ => HD.out)).mono ?_); rintro e w4 ⟨rfl, hB⟩))
      | (go_at_call 15; ((with_reducible refine (send_law a 1 0 ⟨#[]⟩ hN HS0.out (fun _ => HD0.out)).mono ?_); rintro e w3 ⟨rfl, hA⟩))
      | (go_at_call 19; ((with_reducible refine (next_law _ _ hB HL.out HS2.out).mono ?_); rintro e w5 ⟨rfl, hC⟩; have hC' := hC.new w5.heap.size rfl [.int .i64 2, .int .i64 0, .string ⟨#[]⟩] 31; have q0 := (hC'.row (.head _)).at 0 rfl; have q1 := (hC'.row (.tail _ (.head _))).at 0 rfl; have q2 := (hC'.row (.tail _ (.head _))).at 1 rfl)))
    have s1 : IntKind.i64.wrap (a + d0) = a + d0 := IntWalk.i64_in _ (by omega)
    have s2 : IntKind.i64.wrap (b + d1) = b + d1 := IntWalk.i64_in _ (by omega)
    go_quiet (fail)
    clear s1 s2
    go_wp2_with fail
    go_ret
    exact ⟨rfl, below_drewN hC'.bel _⟩
  · rw [if_neg hlt] at hL
    have HL := Lib.hid hL
    clear hL
    go_enter Try.func7, Try.ntmps7
    go_wp2_with (first
      | (go_at_call 11; ((with_reducible refine (sanity_any _).mono ?_); rintro e w1 ⟨rfl, hb1⟩; have hr1 := hr.below hb1; have c0 := hr1.at 0 rfl; have c1 := hr1.at 1 rfl; have hT := Tbs.lit w1 [⟨false, 0, d0⟩, ⟨false, 0, d1⟩] #[.bool false, .int .i64 0, .int .i64 d0, .bool false, .int .i64 0, .int .i64 d1] 2 rfl rfl (by simp)))
      | (go_at_call 13; ((with_reducible refine (new_any _ 0 1 _ _ hT (by simp) (by decide)).mono ?_); intro e w2 hret; obtain ⟨p, rfl, hN⟩ := lawN_of_new (W := W) (R := [(W.heap.size, [.int .u16 d0, .int .u16 d1])]) ((hb0.trans (hb1.mono hb0.size)).alloc (by have := hb0.size; have := hb1.size; omega) _) hret (fun r hrr => by simp only [List.mem_singleton] at hrr; subst hrr; exact hr1.alloc _)))
      | (go_at_call 15; ((with_reducible refine (send_law b 2 0 ⟨#[]⟩ hA HS1.out (fun _ => HD.out)).mono ?_); rintro e w4 ⟨rfl, hB⟩))
      | (go_at_call 15; ((with_reducible refine (send_law a 1 0 ⟨#[]⟩ hN HS0.out (fun _ => HD0.out)).mono ?_); rintro e w3 ⟨rfl, hA⟩))
      | (go_at_call 19; ((with_reducible refine (next_law _ _ hB HL.out HS2.out).mono ?_); rintro e w5 ⟨rfl, hC⟩; have hC' := hC.new w5.heap.size rfl [.int .i64 1, .int .i64 0, .string ⟨#[]⟩] 31; have q0 := (hC'.row (.head _)).at 0 rfl; have q1 := (hC'.row (.tail _ (.head _))).at 0 rfl; have q2 := (hC'.row (.tail _ (.head _))).at 1 rfl)))
    have s1 : IntKind.i64.wrap (a + d0) = a + d0 := IntWalk.i64_in _ (by omega)
    have s2 : IntKind.i64.wrap (b + d1) = b + d1 := IntWalk.i64_in _ (by omega)
    go_quiet (fail)
    clear s1 s2
    go_wp2_with fail
    go_ret
    exact ⟨rfl, below_drewN hC'.bel _⟩
end Go.Proofs.Ytffijemgcgbjoaa
