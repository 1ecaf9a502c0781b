/- Messages: comparing two; slices of them. -/
import Derived.Test.YtffijemgcgbjoaaNh
import Derived.Laws.StructEq
import Derived.Laws.Tables
namespace Go.Proofs.Ytffijemgcgbjoaa
open Go.RowKit Nt

theorem ne_same (f o : Int) (t : ByteArray) (w : World) : (binOp .neq 31 (.agg #[.int .i64 f, .int .i64 o, .string t]) (.agg #[.int .i64 f, .int .i64 o, .string t])).run Try.prog w = .ok (.bool false) w := by
  have u3 := Try.underlying3
  have u9 := Try.underlying9
  have hS : Try.prog.underlying 31 = some (.struct (Try.prog.fieldsOf 31)) := by kernel_rfl
  have hp : Try.prog.stoodInHeld 31 = false := by kernel_rfl
  rw [run_neq_struct, show (10000 : Nat) = 9999 + 1 from rfl, run_equalIn_agg w 9999 31 _ _ hS hp]
  simp only [Program.fieldsOf, Try.underlying31]
  go_simp
theorem guard_msg (x y : Operand) (xs ys : Array Value) (w : World) : (eqGuard .neq 31 x y (.agg xs) (.agg ys)).run Try.prog w = .ok () w := run_eqGuard_agg w .neq 31 x y xs ys (by kernel_rfl)
def mat (l : List Msg) (k : Nat) : Msg := l.getD k mz
/-- v is a slice of messages that reads as l -/
def MsgR (w : World) (v : Value) (l : List Msg) : Prop := ∃ a cap, v = .slice a l.length cap ∧ l.length ≤ cap ∧ cap ≤ 9223372036854775807 ∧ (0 < l.length → ∃ b off, a = some ⟨b, off, none⟩ ∧ b < w.heap.size ∧ ∀ i, i < l.length → w.cell? ⟨b, off + i * 3, none⟩ = some (.int .i64 (mat l i).fr) ∧ w.cell? ⟨b, off + i * 3 + 1, none⟩ = some (.int .i64 (mat l i).to) ∧ w.cell? ⟨b, off + i * 3 + 1 + 1, none⟩ = some (.string (mat l i).text))
theorem MsgR.below {w w' : World} {v : Value} {l : List Msg} (h : MsgR w v l) (hb : Below w.heap.size w w') : MsgR w' v l := by
  obtain ⟨a, cap, rfl, hl, hcap, hc⟩ := h
  refine ⟨a, cap, rfl, hl, hcap, fun h0 => ?_⟩
  obtain ⟨b, off, rfl, hbl, hcell⟩ := hc h0
  exact ⟨b, off, rfl, Nat.lt_of_lt_of_le hbl hb.size, fun i hi => ⟨hb.cell (p := ⟨b, _, none⟩) hbl |>.trans (hcell i hi).1, hb.cell (p := ⟨b, _, none⟩) hbl |>.trans (hcell i hi).2.1, hb.cell (p := ⟨b, _, none⟩) hbl |>.trans (hcell i hi).2.2⟩⟩
theorem MsgR.take {w : World} {a : Option Addr} {cap : Nat} {l : List Msg} (h : MsgR w (.slice a l.length cap) l) (n : Nat) (hn : n ≤ l.length) : MsgR w (.slice a n cap) (l.take n) := by
  obtain ⟨a', cap', e, hl, hcap, hc⟩ := h
  simp only [Value.slice.injEq, true_and] at e
  obtain ⟨rfl, rfl⟩ := e
  have hlen : (l.take n).length = n := by simp; omega
  refine ⟨a, cap, by rw [hlen], by omega, hcap, fun h0 => ?_⟩
  obtain ⟨b, off, rfl, hbl, hcell⟩ := hc (by omega)
  refine ⟨b, off, rfl, hbl, fun i hi => ?_⟩
  have e : mat (l.take n) i = mat l i := by
    have : i < n := by omega
    simp [mat, this]
  rw [e]
  exact hcell i (by omega)
end Go.Proofs.Ytffijemgcgbjoaa
