import Derived.Test.YtkejjbpdhinkkaaDoorProg
import Derived.Test.YtkejjbpdhinkkaaDoorPb
import Derived.WalkKit
import Derived.WalkSpells
import Derived.WalkLawsBesides
import Derived.Deep.QuietTactic
import Derived.BigQuiet
import Derived.Lib.Hide
namespace Go.Proofs.YtkejjbpdhinkkaaDoor
open Go.RowKit Pl

theorem ret_str {a b : ByteArray} (h : a = b) : Ending.returned (.string a) = .returned (.string b) := by rw [h]
theorem ret_int {k : IntKind} {a b : Int} (h : a = b) : Ending.returned (.int k a) = .returned (.int k b) := by rw [h]

set_option maxHeartbeats 400000 in
theorem canon_any (s : ByteArray) (w : World) (hs : s.size ≤ maxLen) :
    Calls Tryd.prog 63 #[.string s] w fun e w' => e = .returned (.string (nb (bv s))) ∧ w = w' := by
  unfold maxLen at hs
  go_enter Tryd.func63, Tryd.ntmps63
  go_wp2
  go_loop [3] (fun i => ∃ k : Nat, k ≤ s.size ∧ Zeros s k ∧ i = .int .i64 k) (fun i => s.size - (intOf i).toNat)
  case atStart => exact ⟨0, Nat.zero_le _, Zeros.zero s, rfl⟩
  case round =>
    obtain ⟨k, hk, hz, rfl⟩ := hrel
    by_cases hlt : k < s.size
    · go_wp2
      · go_round
        case rel => exact ⟨k + 1, by omega, hz.succ hlt (by assumption), by go_num⟩
        case measure => simp [intOf]; omega
      · go_ret
        exact ⟨ret_str (hz.stop hlt (by assumption)), rfl⟩
    · go_wp2
      go_ret
      exact ⟨ret_str (hz.full hlt), rfl⟩
end Go.Proofs.YtkejjbpdhinkkaaDoor
