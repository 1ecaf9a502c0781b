/- Parts of the proofs about this seat's statements. -/
import Derived.Test.YtmacnhjbjembiaaGreatDoorY2345a
namespace Go.Proofs.YtmacnhjbjembiaaGreatDoor
open Go.ChangeShapes Go.WideShapes Go.ChangeAt Go.RowKit Go.Joins
theorem open_n4 {P : Program} {W : World} {base : Nat} {t I : TypeId} {v : Value} (hs : (∃ fs, P.underlying t = some (.struct fs)) ∨ (∃ n e, P.underlying t = some (.array n e))) (hct : P.cellTypes P.depth t = some [I, I, I, I]) (hn : P.cellsOf t = 4) (hI : P.underlying I = some (.int .i64)) (hv : Value.okWide P W .any base t v) : ∃ (n0 : Int) (n1 : Int) (n2 : Int) (n3 : Int), v = .agg #[.int .i64 n0, .int .i64 n1, .int .i64 n2, .int .i64 n3] ∧ (-9223372036854775808 ≤ n0 ∧ n0 ≤ 9223372036854775807) ∧ (-9223372036854775808 ≤ n1 ∧ n1 ≤ 9223372036854775807) ∧ (-9223372036854775808 ≤ n2 ∧ n2 ≤ 9223372036854775807) ∧ (-9223372036854775808 ≤ n3 ∧ n3 ≤ 9223372036854775807) := by
 obtain ⟨l0, rfl, h0⟩ := open_cells hs hct hn hv; obtain ⟨n0, l1, rfl, b_n0, h1⟩ := fa_int hI h0; obtain ⟨n1, l2, rfl, b_n1, h2⟩ := fa_int hI h1; obtain ⟨n2, l3, rfl, b_n2, h3⟩ := fa_int hI h2; obtain ⟨n3, l4, rfl, b_n3, h4⟩ := fa_int hI h3; obtain rfl := fa_nil h4
 exact ⟨n0, n1, n2, n3, rfl, b_n0, b_n1, b_n2, b_n3⟩
end Go.Proofs.YtmacnhjbjembiaaGreatDoor
namespace Go.Proofs.YtmacnhjbjembiaaGreatDoor
open Go.RowKit W
open Pl (uv vn vs fitO makeO roundO p10 cmpI oN oS oB dtext)
open Pl (nb bv bv_nb nb_size_zero)
open Iv
theorem inP_uv (a b c d : Int) : InP (uv a b, uv c d) := ⟨inR_uv _ _, inR_uv _ _⟩
end Go.Proofs.YtmacnhjbjembiaaGreatDoor
