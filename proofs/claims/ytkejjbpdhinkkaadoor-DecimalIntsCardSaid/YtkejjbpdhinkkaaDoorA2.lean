import Derived.Test.YtkejjbpdhinkkaaDoorA1
namespace Go.Proofs.YtkejjbpdhinkkaaDoor
open Go.RowKit Pl

/-- v is a slice of ints that reads as l, in a block from B on -/
def Ints (w : World) (B : Nat) (v : Value) (l : List Int) : Prop := w.ownsRow B 3 1 v l.length (l.map (Value.int .i64))
/-- the call returned such a slice -/
def RetInts (B : Nat) (l : List Int) (e : Ending) (w : World) : Prop := ∃ v, e = .returned v ∧ Ints w B v l

theorem Ints.open {w : World} {B : Nat} {v : Value} {l : List Int} (h : Ints w B v l) :
    ∃ a cap, v = .slice a l.length cap ∧ l.length ≤ cap ∧ cap ≤ maxLen ∧ ∀ k (hk : k < l.length), ∃ g, B ≤ g ∧ g < w.heap.size ∧ a = some ⟨g, 0, none⟩ ∧ w.cell? ⟨g, k, none⟩ = some (.int .i64 l[k]) := by
  rcases h.2 with ⟨rfl, hn⟩ | ⟨g, cap, cur, rfl, hb, hg, hnc, hcm, hcs, htake⟩
  · exact ⟨none, 0, by rw [hn], by omega, by simp [maxLen], fun k hk => by omega⟩
  · refine ⟨some ⟨g, 0, none⟩, cap, rfl, hnc, hcm, fun k hk => ⟨g, hb, (Array.getElem?_eq_some_iff.1 hg).1, rfl, ?_⟩⟩
    have := h.cells (g := g) rfl k (.int .i64 l[k]) (by simp [hk])
    have hadd : (⟨g, 0, none⟩ : Addr).add k = ⟨g, k, none⟩ := by unfold Addr.add; split <;> simp_all
    rwa [hadd] at this

theorem Ints.take {w : World} {B : Nat} {a : Option Addr} {cap : Nat} {l : List Int} (h : Ints w B (.slice a l.length cap) l) (n : Nat) (hn : n ≤ l.length) (h0 : 0 < l.length) : Ints w B (.slice a n cap) (l.take n) := by
  rcases h.2 with ⟨hv, hz⟩ | ⟨g, cap', cur, hv, hb, hg, hnc, hcm, hcs, htake⟩
  · omega
  · simp only [Value.slice.injEq] at hv
    obtain ⟨rfl, _, rfl⟩ := hv
    have hlen : (l.take n).length = n := by simp; omega
    refine ⟨by simp, .inr ⟨g, cap, cur, by rw [hlen], hb, hg, by omega, hcm, hcs, ?_⟩⟩
    rw [hlen, List.map_take, ← htake, List.take_take]
    congr 1; omega

theorem Ints.nil (w : World) (B : Nat) : Ints w B (.slice none 0 0) [] := World.ownsRow_nil w B _ 1
theorem trimmed {w : World} {B : Nat} {a : Option Addr} {cap : Nat} {l l' : List Int} (h : Ints w B (.slice a l.length cap) l) (n : Nat) (hn : n ≤ l.length) (e : l.take n = l') : Ints w B (.slice a n cap) l' := by
  subst e
  by_cases h0 : 0 < l.length
  · exact h.take n hn h0
  · obtain rfl : n = l.length := by omega
    simpa using h
def lenV : Value → Nat | .slice _ n _ => n | _ => 0

set_option maxHeartbeats 400000 in
theorem trim_any (l : List Int) (v : Value) (B : Nat) (w : World) (hd : Dig l) (h : Ints w B v l) :
    Calls Tryd.prog 64 #[v] w fun e w' => RetInts B (digs (dv l).toNat) e w' ∧ w = w' := by
  obtain ⟨a, cap, rfl, hc, hm, hcell⟩ := h.open
  unfold maxLen at hm
  have hcell := Lib.hid hcell
  go_enter Tryd.func64, Tryd.ntmps64
  go_wp2
  go_loop [0] (fun x => ∃ n : Nat, n ≤ l.length ∧ dv (l.take n) = dv l ∧ x = .slice a n cap) lenV
  case atStart => exact ⟨l.length, by omega, by simp, rfl⟩
  case round =>
    obtain ⟨n, hn, hz, rfl⟩ := hrel
    have hz := Lib.hid hz
    cases n with
    | zero => 
      go_wp2
      go_ret
      exact ⟨⟨_, rfl, trimmed h 0 (by omega) (trim_zero hz.out)⟩, rfl⟩
    | succ n =>
      obtain ⟨g, hg1, hg2, rfl, hc1⟩ := hcell.out n (by omega)
      go_wp2
      · go_round
        case rel => exact ⟨n, by omega, trim_succ (by omega) hz.out (by assumption), rfl⟩
        case measure => simp [lenV]
      · go_ret
        exact ⟨⟨_, rfl, trimmed h (n + 1) hn (trim_stop hd (by omega) hz.out (by assumption))⟩, rfl⟩
end Go.Proofs.YtkejjbpdhinkkaaDoor
