/- The methods of the queue behind the heap's interface. -/
import Derived.Test.YtffijemgcgbjoaaHd
namespace Go.Proofs.Ytffijemgcgbjoaa
open Go.RowKit Nt

theorem m_len (a : Addr) (v : Value) (w : World) (h : w.cell? a = some v) :
    (method 202 69 (.pointer (some a)) "Len").run Try.prog w = .ok (46, v) w := by
  have e : (method 202 69 (.pointer (some a)) "Len").run Try.prog w = ((do let v ← load a; pure (46, v)) : Sem (FuncId × Value)).run Try.prog w := by kernel_rfl
  rw [e]
  simp [h]
theorem m_less (a : Addr) (v : Value) (w : World) (h : w.cell? a = some v) :
    (method 202 69 (.pointer (some a)) "Less").run Try.prog w = .ok (47, v) w := by
  have e : (method 202 69 (.pointer (some a)) "Less").run Try.prog w = ((do let v ← load a; pure (47, v)) : Sem (FuncId × Value)).run Try.prog w := by kernel_rfl
  rw [e]
  simp [h]
theorem m_swap (a : Addr) (v : Value) (w : World) (h : w.cell? a = some v) :
    (method 202 69 (.pointer (some a)) "Swap").run Try.prog w = .ok (50, v) w := by
  have e : (method 202 69 (.pointer (some a)) "Swap").run Try.prog w = ((do let v ← load a; pure (50, v)) : Sem (FuncId × Value)).run Try.prog w := by kernel_rfl
  rw [e]
  simp [h]
theorem m_push (a : Addr) (w : World) :
    (method 202 69 (.pointer (some a)) "Push").run Try.prog w = .ok (49, .pointer (some a)) w := by kernel_rfl
theorem m_pop (a : Addr) (w : World) :
    (method 202 69 (.pointer (some a)) "Pop").run Try.prog w = .ok (48, .pointer (some a)) w := by kernel_rfl

/-- the queue: a cell that holds the slice, and the slice's row -/
structure QAt (w : World) (gq : Nat) (v : Value) (l : List Wt) : Prop where
  cell : w.cell? ⟨gq, 0, none⟩ = some v
  row : Wts w 0 v l
  lt : gq < w.heap.size
  ne : ∀ g, v.ownBlock = some g → g ≠ gq
  free : w.frozen? ⟨gq, 0, none⟩ = false
theorem Wts.lt {w : World} {B g : Nat} {v : Value} {l : List Wt} (h : Wts w B v l) (hv : v.ownBlock = some g) : g < w.heap.size := by
  rcases h.2 with ⟨rfl, hn⟩ | ⟨g', cap, cur, rfl, hb, hg, hnc, hcm, hcs, htake⟩
  · cases hv
  · obtain rfl : g' = g := by simpa [Value.ownBlock] using hv
    exact (Array.getElem?_eq_some_iff.1 hg).1
theorem Wts.only {S : List Nat} {w w' : World} {B : Nat} {v : Value} {l : List Wt} (h : Wts w B v l) (ho : Only S w w') (hd : ∀ g, v.ownBlock = some g → g ∉ S) : Wts w' B v l := by
  refine ⟨h.1, ?_⟩
  rcases h.2 with hn | ⟨g', cap, cur, rfl, hb, hg, hnc, hcm, hcs, htake⟩
  · exact .inl hn
  · refine .inr ⟨g', cap, cur, rfl, hb, ?_, hnc, hcm, hcs, htake⟩
    rw [ho.block g' (Array.getElem?_eq_some_iff.1 hg).1 (hd g' (by simp [Value.ownBlock]))]; exact hg
theorem cell_only {S : List Nat} {w w' : World} {g o : Nat} {v : Value} (h : w.cell? ⟨g, o, none⟩ = some v) (ho : Only S w w') (hl : g < w.heap.size) (hg : g ∉ S) : w'.cell? ⟨g, o, none⟩ = some v := by
  have := ho.block g hl hg
  unfold World.cell? at *
  simp only [this]; exact h
theorem frozen_only {S : List Nat} {w w' : World} {g o : Nat} {v : Bool} (h : w.frozen? ⟨g, o, none⟩ = v) (ho : Only S w w') (hl : g < w.heap.size) (hg : g ∉ S) : w'.frozen? ⟨g, o, none⟩ = v := by
  have := ho.block g hl hg
  unfold World.frozen? at *
  simp only [this]; exact h
theorem QAt.only {S : List Nat} {w w' : World} {gq : Nat} {v : Value} {l : List Wt} (h : QAt w gq v l) (ho : Only S w w') (hq : gq ∉ S) (hd : ∀ g, v.ownBlock = some g → g ∉ S) : QAt w' gq v l :=
  ⟨cell_only h.cell ho h.lt hq, h.row.only ho hd, Nat.lt_of_lt_of_le h.lt ho.size, h.ne, frozen_only h.free ho h.lt hq⟩
theorem QAt.below {w w' : World} {gq : Nat} {v : Value} {l : List Wt} (h : QAt w gq v l) (ho : Below w.heap.size w w') : QAt w' gq v l := h.only (Only.of_below (S := []) ho) (by simp) (by simp)
theorem QAt.swapped {w w' : World} {gq g : Nat} {v : Value} {l l' : List Wt} (h : QAt w gq v l) (hv : v.ownBlock = some g) (ho : Only [g] w w') (hr : Wts w' 0 v l') : QAt w' gq v l' :=
  ⟨cell_only h.cell ho h.lt (by have := h.ne g hv; simp; omega), hr, Nat.lt_of_lt_of_le h.lt ho.size, h.ne, frozen_only h.free ho h.lt (by have := h.ne g hv; simp; omega)⟩

set_option maxRecDepth 100000 in
set_option maxHeartbeats 2000000 in
theorem up_any (l : List Wt) (v : Value) (gq g j : Nat) (w : World) (hq : QAt w gq v l) (hv : v.ownBlock = some g) (hj : j < l.length) (hs : l.length ≤ 1000000) (hu : UpI l l.length j) :
    Calls Try.prog 28 #[.iface 69 (.pointer (some ⟨gq, 0, none⟩)), .int .i64 j] w fun e w' => e = .returned (.tuple #[]) ∧ ∃ l', l'.Perm l ∧ Heap l' l'.length ∧ QAt w' gq v l' ∧ Only [g] w w' := by
  go_enter Try.func28, Try.ntmps28
  go_wp2_with fail
  go_loopw [1] (fun jv wr => ∃ (l' : List Wt) (k : Nat), l'.Perm l ∧ l'.length = l.length ∧ k < l.length ∧ UpI l' l.length k ∧ QAt wr gq v l' ∧ jv = .int .i64 k ∧ Only [g] w wr) (fun jv _ => (intOf jv).toNat)
  case atStart => exact ⟨l, j, .refl _, rfl, hj, hu, hq, rfl, Only.refl _ _⟩
  case round =>
    obtain ⟨l', k, hp, hlen, hk, hu', hq', rfl, ho⟩ := hrel
    have HP := Lib.hid hp
    clear hp
    by_cases h0 : k = 0
    · subst h0
      go_wp2_with fail
      go_end0
      exact ⟨rfl, l', HP.out, hlen ▸ hu'.done (.inl rfl), hq', ho⟩
    · obtain ⟨m, hm⟩ : ∃ m : Nat, m = par k := ⟨_, rfl⟩
      have hpi : ((k : Int) - 1) / 2 = (m : Int) := by rw [hm]; unfold par; omega
      have hmk : m < k := by rw [hm]; unfold par; omega
      have hne : ((m : Int) == (k : Int)) = false := by simp; omega
      have hml := m_less ⟨gq, 0, none⟩ v wr hq'.cell
      have HM := Lib.hid hm
      clear hm
      by_cases hl : lessB (at' l' k) (at' l' m) = true
      · go_wp2_with (first | (go_at_call 47; refine (less_any l' v 0 k m wr hq'.row (by omega) (by omega)).mono ?_; rw [hl]; rintro e w1 ⟨rfl, hb1⟩; have hq1 := hq'.below hb1; have hms := m_swap ⟨gq, 0, none⟩ v w1 hq1.cell) | (go_at_call 50; refine (swap_any l' v 0 m k w1 hq1.row (by omega) (by omega)).mono ?_; rintro e w2 ⟨rfl, hr2, ho2⟩))
        have hq2 := hq1.swapped hv (ho2 g hv) hr2
        go_roundw
        case rel => exact ⟨_, m, (swap_perm l' m k (by omega) (by omega)).trans HP.out, by rw [swap_len]; exact hlen, by omega, by rw [HM.out]; exact hu'.step hk (by omega) (by omega) (by rw [← HM.out]; exact hl), hq2, rfl, (ho.trans (Only.of_below hb1)).trans (ho2 g hv)⟩
        case measure => simp [intOf]; omega
      · have hl' : lessB (at' l' k) (at' l' m) = false := by simpa using hl
        go_wp2_with (go_at_call 47; refine (less_any l' v 0 k m wr hq'.row (by omega) (by omega)).mono ?_; rw [hl']; rintro e w1 ⟨rfl, hb1⟩)
        have hq1 := hq'.below hb1
        go_end0
        exact ⟨rfl, l', HP.out, hlen ▸ hu'.done (.inr (by rw [← HM.out]; exact le_of_not_less hl')), hq1, ho.trans (Only.of_below hb1)⟩
end Go.Proofs.Ytffijemgcgbjoaa
