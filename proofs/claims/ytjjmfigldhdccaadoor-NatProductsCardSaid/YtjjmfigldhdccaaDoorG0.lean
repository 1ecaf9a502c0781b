/- The laws of nat: arguments that are slices of bytes; Made; numbers of known values. -/
import Derived.Test.YtjjmfigldhdccaaDoorVc
namespace Go.Proofs.YtjjmfigldhdccaaDoor
open Go.RowKit W
open Pl (bval enc bv nb bv_nb nb_size_le nb_size_zero nb_size_mono nb_bv_size bv_lt)
/-- a block of cells of the call's own, that is read alone -/
def Rw (w : World) (g : Nat) (vs : List Value) : Prop := g < w.heap.size ∧ ∀ i v, vs[i]? = some v → w.cell? ⟨g, i, none⟩ = some v
theorem Rw.lt {w : World} {g : Nat} {vs : List Value} (h : Rw w g vs) : g < w.heap.size := h.1
theorem Rw.at {w : World} {g : Nat} {vs : List Value} (h : Rw w g vs) (i : Nat) {v : Value} (hv : vs[i]? = some v) : w.cell? ⟨g, i, none⟩ = some v := h.2 i v hv
theorem Rw.below {w w' : World} {g : Nat} {vs : List Value} (h : Rw w g vs) (hb : Below w.heap.size w w') : Rw w' g vs :=
  ⟨Nat.lt_of_lt_of_le h.1 hb.size, fun i _ hv => (hb.cell (p := ⟨g, i, none⟩) h.1).trans (h.at i hv)⟩
theorem Rw.alloc {w : World} {g : Nat} {vs : List Value} (h : Rw w g vs) (o : Obj) : Rw (w.alloc o) g vs := h.below ((Below.refl _ _).alloc (Nat.le_refl _) _)
theorem Rw.drew {w : World} {g : Nat} {vs : List Value} (h : Rw w g vs) : Rw w.drew g vs := h.below ((Below.refl _ _).drew)
theorem Rw.new (w : World) (g : Nat) (hg : g = w.heap.size) (vs : List Value) (t : TypeId) : Rw (w.alloc (.cells vs.toArray t)) g vs := by
  subst hg
  have h := heap_alloc_new w (.cells vs.toArray t)
  refine ⟨by simp, fun i v hv => ?_⟩
  rw [cell_of_row _ _ i _ _ _ h]
  simpa using hv
theorem Rw.other {w : World} {g : Nat} {vs : List Value} (h : Rw w g vs) {p : Addr} (hne : p.block ≠ g) (u : Value) : Rw (w.setCell p u) g vs := by
  refine ⟨by simpa using h.1, fun i v hv => ?_⟩
  rw [World.cell?_setCell_other (h := fun e => hne (by rw [e]))]
  exact h.at i hv
/-- a block that begins with n strings of at most B bytes -/
def SomeStrs (w : World) (g n B : Nat) : Prop := g < w.heap.size ∧ ∀ k, k < n → ∃ s : ByteArray, s.size ≤ B ∧ w.cell? ⟨g, k, none⟩ = some (.string s)
theorem SomeStrs.lt {w : World} {g n B : Nat} (h : SomeStrs w g n B) : g < w.heap.size := h.1
theorem SomeStrs.below {w w' : World} {g n B : Nat} (h : SomeStrs w g n B) (hb : Below w.heap.size w w') : SomeStrs w' g n B :=
  ⟨Nat.lt_of_lt_of_le h.1 hb.size, fun k hk => by obtain ⟨z, h1, hz⟩ := h.2 k hk; exact ⟨z, h1, (hb.cell (p := ⟨g, k, none⟩) h.1).trans hz⟩⟩
theorem SomeStrs.alloc {w : World} {g n B : Nat} (h : SomeStrs w g n B) (o : Obj) : SomeStrs (w.alloc o) g n B := h.below ((Below.refl _ _).alloc (Nat.le_refl _) _)
theorem SomeStrs.drew {w : World} {g n B : Nat} (h : SomeStrs w g n B) : SomeStrs w.drew g n B := h.below ((Below.refl _ _).drew)
theorem SomeStrs.newL (w : World) (g : Nat) (hg : g = w.heap.size) (ss : List ByteArray) (B : Nat) (hB : ∀ s ∈ ss, s.size ≤ B) (t : TypeId) : SomeStrs (w.alloc (.cells (ss.map Value.string).toArray t)) g ss.length B := by
  subst hg
  have h := heap_alloc_new w (.cells (ss.map Value.string).toArray t)
  refine ⟨by simp, fun k hk => ⟨ss[k], hB _ (List.getElem_mem _), ?_⟩⟩
  rw [cell_of_row _ _ k _ _ _ h]
  simp [hk]
/-- a slice of bytes that came in -/
def BysR (w : World) (v : Value) (l : List UInt8) : Prop := ∃ a cap, v = .slice a l.length cap ∧ l.length ≤ cap ∧ cap ≤ 9223372036854775807 ∧ (0 < l.length → ∃ b off, a = some ⟨b, off, none⟩ ∧ b < w.heap.size ∧ ∀ i (hi : i < l.length), w.cell? ⟨b, off + i, none⟩ = some (.int .u8 (l[i].toNat : Int)))
theorem BysR.below {w w' : World} {v : Value} {l : List UInt8} (h : BysR w v l) (hb : Below w.heap.size w w') : BysR w' v l := by
  obtain ⟨a, cap, rfl, h1, h2, h3⟩ := h
  refine ⟨a, cap, rfl, h1, h2, fun h0 => ?_⟩
  obtain ⟨b, off, e, hlt, hc⟩ := h3 h0
  exact ⟨b, off, e, Nat.lt_of_lt_of_le hlt hb.size, fun i hi => (hb.cell (p := ⟨b, off + i, none⟩) hlt).trans (hc i hi)⟩
/-- the first bytes of the slice, as a string -/
def cutS (l : List UInt8) (n : Nat) : ByteArray := ⟨(l.take n).toArray⟩
theorem cutS_size (l : List UInt8) (n : Nat) : (cutS l n).size ≤ n := by
  simp only [cutS, ByteArray.size, List.size_toArray, List.length_take]; omega
theorem conv_cut {w : World} {b off cap : Nat} {l : List UInt8} {k : Nat} (hk : k ≤ l.length) (hc : ∀ i (hi : i < l.length), w.cell? ⟨b, off + i, none⟩ = some (.int .u8 (l[i].toNat : Int))) (dst : TypeId) (hd : Tryd.prog.underlying dst = some .string) :
    (convert 22 dst (.slice (some ⟨b, off, none⟩) k cap)).run Tryd.prog w = .ok (.string (cutS l k)) w := by
  have h := run_convert_bytes_back (P := Tryd.prog) w 22 dst 5 ⟨b, off, none⟩ cap (l.take k) Tryd.underlying22 Tryd.underlying5 hd (fun j hj => by
    have hj2 : j < l.length := by rw [List.length_take] at hj; omega
    rw [List.getElem_take]
    have h := hc j hj2
    have e : (⟨b, off, none⟩ : Addr).add j = ⟨b, off + j, none⟩ := by unfold Addr.add; split <;> simp_all
    rw [e]; exact h)
  rw [List.length_take, Nat.min_eq_left hk] at h
  exact h
theorem conv_nil {w : World} {n cap : Nat} (dst : TypeId) (hd : Tryd.prog.underlying dst = some .string) :
    (convert 22 dst (.slice none n cap)).run Tryd.prog w = .ok (.string (cutS [] 0)) w := run_convert_bytes_nil w 22 5 Tryd.underlying22 Tryd.underlying5 n cap dst hd
/-- the slice as it came in: its length, and what a cut of it is as a string -/
theorem BysR.open {w : World} {v : Value} {l : List UInt8} (h : BysR w v l) : ∃ a cap, v = .slice a l.length cap ∧ l.length ≤ cap ∧ cap ≤ 9223372036854775807 ∧
    ∀ k, k ≤ l.length → ∀ dst, Tryd.prog.underlying dst = some .string → (convert 22 dst (.slice a k cap)).run Tryd.prog w = .ok (.string (cutS l k)) w := by
  obtain ⟨a, cap, rfl, h1, h2, h3⟩ := h
  refine ⟨a, cap, rfl, h1, h2, fun k hk dst hd => ?_⟩
  rcases Nat.eq_zero_or_pos l.length with h0 | h0
  · have hl : l = [] := List.eq_nil_of_length_eq_zero h0
    subst hl
    have hk0 : k = 0 := by simpa using hk
    subst hk0
    cases a with
    | none => exact conv_nil dst hd
    | some ad => exact run_convert_bytes_back (P := Tryd.prog) w 22 dst 5 ad cap [] Tryd.underlying22 Tryd.underlying5 hd (fun j hj => absurd hj (by simp))
  · obtain ⟨b, off, rfl, _, hc⟩ := h3 h0
    exact conv_cut hk hc dst hd
theorem cut_min (l : List UInt8) (n : Nat) : ∃ k : Nat, min (l.length : Int) n = k ∧ k ≤ l.length ∧ k ≤ n ∧ cutS l k = cutS l n := by
  rcases Nat.lt_or_ge l.length n with h | h
  · exact ⟨l.length, by omega, by omega, by omega, by unfold cutS; rw [List.take_length, List.take_of_length_le (by omega)]⟩
  · exact ⟨n, by omega, h, by omega, rfl⟩
set_option maxRecDepth 100000 in
set_option maxHeartbeats 1000000 in
theorem made_any (v : Value) (l : List UInt8) (w : World) (h : BysR w v l) :
    Calls Tryd.prog 14 #[v] w fun e w' => e = .returned (.string (cutS l 40)) ∧ w = w' := by
  obtain ⟨a, cap, rfl, h1, h2, h3⟩ := h.open
  obtain ⟨k, hk, hkl, hkn, hkc⟩ := cut_min l 40
  have HE := Lib.hid hkc
  clear hkc
  have hcv := h3 k hkl
  clear h3
  have hk2 : min (l.length : Int) 40 = k := hk
  go_enter Tryd.func14, Tryd.ntmps14
  go_wp2_with fail
  go_ret
  exact ⟨ret_str HE.out, rfl⟩
theorem BysR.take {w : World} {a : Option Addr} {cap : Nat} {l : List UInt8} (h : BysR w (.slice a l.length cap) l) {k : Nat} (hk : k ≤ l.length) : BysR w (.slice a k cap) (l.take k) := by
  obtain ⟨a', cap', e, h1, h2, h3⟩ := h
  injection e with e1 e2 e3
  subst e1 e3
  have hl : (l.take k).length = k := by rw [List.length_take]; omega
  refine ⟨a, cap, by rw [hl], by omega, h2, fun h0 => ?_⟩
  obtain ⟨b, off, e, hlt, hc⟩ := h3 (by omega)
  refine ⟨b, off, e, hlt, fun i hi => ?_⟩
  have := hc i (by omega)
  rw [List.getElem_take]; exact this
theorem cutS_take (l : List UInt8) (k n : Nat) (h : k ≤ n) : cutS (l.take k) n = cutS l k := by
  unfold cutS; rw [List.take_take, Nat.min_eq_right h]
/-- Made of a cut of an argument -/
theorem made_cut (a : Option Addr) (cap k n : Nat) (l : List UInt8) (w W : World) (h : BysR w (.slice a l.length cap) l) (hb : Below w.heap.size w W) (hk : k ≤ l.length) (hn : k ≤ 40) (hc : cutS l k = cutS l n) :
    Calls Tryd.prog 14 #[.slice a k cap] W fun e w' => e = .returned (.string (cutS l n)) ∧ w' = W := by
  have := made_any (.slice a k cap) (l.take k) W ((h.take hk).below hb)
  rw [cutS_take l k 40 hn, hc] at this
  exact this.mono fun _ _ h => ⟨h.1, h.2.symm⟩
theorem nbs {n k : Nat} (h : n < 256 ^ 8) (hk : 8 ≤ k) : (nb n).size ≤ k := Nat.le_trans (nb_size_le.2 h) hk
theorem nb_256 : nb 256 = ⟨#[1, 0]⟩ := by decide +kernel
theorem nb_0 : nb 0 = ⟨#[]⟩ := by decide +kernel
theorem nb_1 : nb 1 = ⟨#[1]⟩ := by decide +kernel
end Go.Proofs.YtjjmfigldhdccaaDoor
