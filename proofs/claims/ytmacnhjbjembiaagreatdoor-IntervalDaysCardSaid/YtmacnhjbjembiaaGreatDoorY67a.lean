/- Parts of the proofs about this seat's statements. -/
import Derived.Test.YtmacnhjbjembiaaGreatDoorY23567a
import Derived.Test.YtmacnhjbjembiaaGreatDoorY467a
namespace Go.Proofs.YtmacnhjbjembiaaGreatDoor
open Go.ChangeShapes Go.WideShapes Go.ChangeAt Go.RowKit Go.Joins
theorem open_n6 {P : Program} {W : World} {base : Nat} {t I : TypeId} {v : Value} (hs : (∃ fs, P.underlying t = some (.struct fs)) ∨ (∃ n e, P.underlying t = some (.array n e))) (hct : P.cellTypes P.depth t = some [I, I, I, I, I, I]) (hn : P.cellsOf t = 6) (hI : P.underlying I = some (.int .i64)) (hv : Value.okWide P W .any base t v) : ∃ (n0 : Int) (n1 : Int) (n2 : Int) (n3 : Int) (n4 : Int) (n5 : Int), v = .agg #[.int .i64 n0, .int .i64 n1, .int .i64 n2, .int .i64 n3, .int .i64 n4, .int .i64 n5] ∧ (-9223372036854775808 ≤ n0 ∧ n0 ≤ 9223372036854775807) ∧ (-9223372036854775808 ≤ n1 ∧ n1 ≤ 9223372036854775807) ∧ (-9223372036854775808 ≤ n2 ∧ n2 ≤ 9223372036854775807) ∧ (-9223372036854775808 ≤ n3 ∧ n3 ≤ 9223372036854775807) ∧ (-9223372036854775808 ≤ n4 ∧ n4 ≤ 9223372036854775807) ∧ (-9223372036854775808 ≤ n5 ∧ n5 ≤ 9223372036854775807) := by
 obtain ⟨l0, rfl, h0⟩ := open_cells hs hct hn hv; obtain ⟨n0, l1, rfl, b_n0, h1⟩ := fa_int hI h0; obtain ⟨n1, l2, rfl, b_n1, h2⟩ := fa_int hI h1; obtain ⟨n2, l3, rfl, b_n2, h3⟩ := fa_int hI h2; obtain ⟨n3, l4, rfl, b_n3, h4⟩ := fa_int hI h3; obtain ⟨n4, l5, rfl, b_n4, h5⟩ := fa_int hI h4; obtain ⟨n5, l6, rfl, b_n5, h6⟩ := fa_int hI h5; obtain rfl := fa_nil h6
 exact ⟨n0, n1, n2, n3, n4, n5, rfl, b_n0, b_n1, b_n2, b_n3, b_n4, b_n5⟩
end Go.Proofs.YtmacnhjbjembiaaGreatDoor
