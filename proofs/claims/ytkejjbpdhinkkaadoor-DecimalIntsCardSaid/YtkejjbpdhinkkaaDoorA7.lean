import Derived.Test.YtkejjbpdhinkkaaDoorA6
import Derived.Test.YtkejjbpdhinkkaaDoorPd
namespace Go.Proofs.YtkejjbpdhinkkaaDoor
open Go.RowKit Pl

theorem Ints.below {w w' : World} {B : Nat} {v : Value} {l : List Int} (h : Ints w B v l) (hb : Below w.heap.size w w') : Ints w' B v l := by
  refine ⟨h.1, ?_⟩
  rcases h.2 with h2 | ⟨g, cap, cur, hv, hg, hh, r⟩
  · exact .inl h2
  · exact .inr ⟨g, cap, cur, hv, hg, by rw [hb.block g (Array.getElem?_eq_some_iff.1 hh).1]; exact hh, r⟩
theorem Ints.low {w : World} {B B' : Nat} {v : Value} {l : List Int} (h : Ints w B v l) (hb : B' ≤ B) : Ints w B' v l := by
  refine ⟨h.1, ?_⟩
  rcases h.2 with h2 | ⟨g, cap, cur, hv, hg, r⟩
  · exact .inl h2
  · exact .inr ⟨g, cap, cur, hv, by omega, r⟩

set_option maxRecDepth 100000 in
set_option maxHeartbeats 1000000 in
theorem times_any (u : List Int) (v : Value) (d : Int) (B : Nat) (w : World) (hu : Dig u) (h : Ints w B v u) (hd0 : 0 ≤ d) (hd1 : d < 16777216) (hlen : u.length ≤ 4294967296) :
    Calls Tryd.prog 68 #[v, .int .i64 d] w fun e w' => RetInts w.heap.size (digs (dv u * d).toNat) e w' ∧ Below w.heap.size w w' := by
  obtain ⟨a, cap, rfl, hc, hm, hcell⟩ := h.open
  unfold maxLen at hm
  have Hcell := Lib.hid hcell
  clear hcell
  go_enter Tryd.func68, Tryd.ntmps68
  go_wp2
  go_loopw [5, 6, 7] (fun v c k wr => ∃ (out : List Int) (cc : Int) (kk : Nat), Ints wr w.heap.size v out ∧ TI u d kk out cc ∧ kk ≤ u.length ∧ c = .int .i64 cc ∧ k = .int .i64 kk ∧ Below w.heap.size w wr) (fun _ _ k _ => u.length - (intOf k).toNat)
  case atStart => exact ⟨[], 0, 0, Ints.nil _ _, TI.start u hd0, by omega, rfl, rfl, Below.refl _ _⟩
  case round =>
    obtain ⟨out, cc, kk, ho, hti, hkl, rfl, rfl, hbel⟩ := hrel
    have hol : out.length ≤ 4294967296 := by have := hti.2.1; omega
    have hcc := hti.2.2.1
    have hcd := hti.2.2.2.1
    by_cases hlt : kk < u.length
    · obtain ⟨g, hg1, hg2, rfl, hc1⟩ := Hcell.out kk hlt
      have hc2 : wr.cell? ⟨g, kk, none⟩ = some (.int .i64 u[kk]) := by rw [hbel.cell (p := ⟨g, kk, none⟩) hg2]; exact hc1
      have hbd := hti.bound hu hd1 hlt
      have hnx := hti.succ hu hd1 hlt
      obtain ⟨b1, b2, b3, b4⟩ := hbd
      generalize u[kk] = z at hc2 b1 b2 b3 b4 hnx
      clear hc1
      go_wp2_with (at_builtin; refine app_int (by rfl) (by rfl) (by rfl) (by rfl) w.heap.size ho (by omega) hbel.size ?_; intro v1 w1 ho1 hg1)
      go_roundw
      case rel => exact ⟨_, _, kk + 1, ho1, hnx, by omega, rfl, by go_num, hbel.grown hg1 hbel.size ho.own⟩
      case measure => simp [intOf]; omega
    · have hdone := TI.done (by rw [show u.length = kk by omega]; exact hti) hd1
      go_wp2_with (first | (at_builtin; refine app_int (by rfl) (by rfl) (by rfl) (by rfl) w.heap.size ho (by omega) hbel.size ?_; intro v1 w1 ho1 hg1) | (go_at_call 64; refine (trim_any _ _ _ _ hdone.1 ho1).mono ?_; rintro e w' ⟨⟨v2, rfl, hv2⟩, rfl⟩))
      go_ret
      exact ⟨⟨_, rfl, hv2.of_eq (by rw [hdone.2])⟩, hbel.grown hg1 hbel.size ho.own⟩

set_option maxRecDepth 100000 in
set_option maxHeartbeats 1000000 in
theorem minus_any (u v : List Int) (vu vv : Value) (B : Nat) (w : World) (hu : Dig u) (hv : Dig v) (h : Ints w B vu u) (h' : Ints w B vv v) (hl : v.length ≤ u.length) (hle : dv v ≤ dv u) (hlen : u.length ≤ 4294967296) :
    Calls Tryd.prog 67 #[vu, vv] w fun e w' => RetInts w.heap.size (digs (dv u - dv v).toNat) e w' ∧ Below w.heap.size w w' := by
  obtain ⟨a, cap, rfl, hc, hm, hcell⟩ := h.open
  obtain ⟨a', cap', rfl, hc', hm', hcell'⟩ := h'.open
  unfold maxLen at hm hm'
  have Hcell := Lib.hid hcell
  have Hcell' := Lib.hid hcell'
  have Hle := Lib.hid hle
  clear hcell hcell' hle
  go_enter Tryd.func67, Tryd.ntmps67
  go_wp2
  go_loopw [5, 6, 7] (fun x c k wr => ∃ (out : List Int) (b : Int) (kk : Nat), Ints wr w.heap.size x out ∧ MI u v kk out b ∧ kk ≤ u.length ∧ c = .int .i64 b ∧ k = .int .i64 kk ∧ Below w.heap.size w wr) (fun _ _ k _ => u.length - (intOf k).toNat)
  case atStart => exact ⟨[], 0, 0, Ints.nil _ _, MI.start u v, by omega, rfl, rfl, Below.refl _ _⟩
  case round =>
    obtain ⟨out, b, kk, ho, hmi, hkl, rfl, rfl, hbel⟩ := hrel
    have hol : out.length ≤ 4294967296 := by have := hmi.2.1; omega
    have hb0 := hmi.2.2.1
    have hb1 := hmi.2.2.2.1
    by_cases hlt : kk < u.length
    · obtain ⟨g, hg1, hg2, rfl, hc1⟩ := Hcell.out kk hlt
      have hc2 : wr.cell? ⟨g, kk, none⟩ = some (.int .i64 u[kk]) := by rw [hbel.cell (p := ⟨g, kk, none⟩) hg2]; exact hc1
      have hz := hu.get kk hlt
      have hg := gd_bound hv kk
      have hnx := fun d b' => hmi.succ (d := d) (b' := b') hlt
      have Hnx := Lib.hid hnx
      clear hnx
      obtain ⟨z0, z1⟩ := hz
      obtain ⟨y0, y1⟩ := hg
      clear hc1
      by_cases hlv : kk < v.length
      · obtain ⟨g', hg1', hg2', rfl, hc1'⟩ := Hcell'.out kk hlv
        have hc2' : wr.cell? ⟨g', kk, none⟩ = some (.int .i64 v[kk]) := by rw [hbel.cell (p := ⟨g', kk, none⟩) hg2']; exact hc1'
        rw [gd_lt hlv] at y0 y1
        rw [gd_lt hlv] at Hnx
        generalize v[kk] = y at hc2' y0 y1 Hnx
        generalize u[kk] = z at hc2 z0 z1 Hnx
        clear hc1'
        by_cases hneg : z - b - y < 0
        all_goals
          go_wp2_with (at_builtin; refine app_int (by rfl) (by rfl) (by rfl) (by rfl) w.heap.size ho (by omega) hbel.size ?_; intro v1 w1 ho1 hg1)
          go_roundw
          case rel => exact ⟨_, _, kk + 1, ho1, Hnx.out _ _ (by omega) (by omega) (by omega) (by omega) (by omega), by omega, rfl, by go_num, hbel.grown hg1 hbel.size ho.own⟩
          case measure => simp [intOf]; omega
      · rw [gd_ge hlv] at Hnx
        generalize u[kk] = z at hc2 z0 z1 Hnx
        by_cases hneg : z - b < 0
        all_goals
          go_wp2_with (at_builtin; refine app_int (by rfl) (by rfl) (by rfl) (by rfl) w.heap.size ho (by omega) hbel.size ?_; intro v1 w1 ho1 hg1)
          go_roundw
          case rel => exact ⟨_, _, kk + 1, ho1, Hnx.out _ _ (by omega) (by omega) (by omega) (by omega) (by omega), by omega, rfl, by go_num, hbel.grown hg1 hbel.size ho.own⟩
          case measure => simp [intOf]; omega
    · have hdone := MI.done (by rw [show u.length = kk by omega]; exact hmi) hl Hle.out
      obtain ⟨hd1, hd2⟩ := hdone
      have Hd2 := Lib.hid hd2
      clear hd2
      go_wp2_with (go_at_call 64; refine (trim_any _ _ _ _ hd1 ho).mono ?_; rintro e w' ⟨⟨v2, rfl, hv2⟩, rfl⟩)
      go_ret
      exact ⟨⟨_, rfl, hv2.of_eq (by rw [Hd2.out])⟩, hbel⟩
end Go.Proofs.YtkejjbpdhinkkaaDoor
