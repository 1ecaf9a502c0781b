import Derived.Test.YtkejjbpdhinkkaaDoorA2
namespace Go.Proofs.YtkejjbpdhinkkaaDoor
open Go.RowKit Pl

theorem info_int : (Tryd.prog.info? 3).map (fun i => (i.zero, i.size, i.bytes)) = some (some (.int .i64 0), 1, 8) := by kernel_rfl

theorem val_int {k : IntKind} {a b : Int} (h : a = b) : Value.int k a = .int k b := by rw [h]
theorem Ints.alloc {w : World} {B : Nat} {v : Value} {l : List Int} (h : Ints w B v l) (o : Obj) : Ints (w.alloc o) B v l := World.ownsRow.alloc h o
theorem Ints.of_eq {w : World} {B : Nat} {v : Value} {l l' : List Int} (h : Ints w B v l) (e : l = l') : Ints w B v l' := e ▸ h
theorem Ints.snoc {w : World} {B : Nat} {v : Value} {l : List Int} {x : Int} (h : w.ownsRow B 3 1 v (l.length + 1) (l.map (Value.int .i64) ++ [.int .i64 x])) : Ints w B v (l ++ [x]) := by
  unfold Ints; rw [List.length_append, List.map_append]; exact h

theorem grownBy_alloc_trans {w w' : World} {o : Obj} {r : Option Nat} (h : (w.alloc o).grownBy w' r) : w.grownBy w' r :=
  ⟨h.os, h.tape, h.output, by have := h.size; simp at this; omega, fun k hk hne => by
    rw [h.block k (by simp; omega) hne]; exact Below.heap_alloc _ _ _ hk⟩
theorem Ints.own {w : World} {B : Nat} {v : Value} {l : List Int} (h : Ints w B v l) : ∀ k, v.ownBlock = some k → B ≤ k := fun k hk => (World.ownsRow.lt h k hk).1
theorem cell_new (w : World) (v : Value) (t : TypeId) : (w.alloc (.cells #[v] t)).cell? ⟨w.heap.size, 0, none⟩ = some v := by
  exact cell_one_new w v t 0 v rfl
/-- 'out = append(out, z)' on ints: the slice of one element was just made -/
theorem app_int {w : World} {ops : Array Oper} {rest : List Oper} {o : Oper} {a : Act} {Q : Exit → Act → World → Prop} {s x : Operand} {v : Value} {l : List Int} {z : Int}
    (hgd : o.guard = none)
    (ho : o.op = .call { callee := .builtin .append, args := #[s, x], argTypes := #[26, 26] })
    (hs : a.eval s = v) (hx : a.eval x = .slice (some ⟨w.heap.size, 0, none⟩) 1 1) (B : Nat) (hown : Ints w B v l)
    (hlen : l.length < 8589934592) (hB : B ≤ w.heap.size)
    (h : ∀ v' w', Ints w' B v' (l ++ [z]) → w.grownBy w' v.ownBlock → wpList Tryd.prog ops Q rest (a.put o.dst v') w') : wpList Tryd.prog ops Q (o :: rest) a (w.alloc (.cells #[.int .i64 z] 3)) := by
  obtain ⟨i0, hi, hz0, hz1, hz2⟩ := info_parts info_int
  refine wpList_append_own _ hgd s x 26 ho B 3 i0 (.int .i64 0) 1 8 Tryd.underlying26 hi hz0 hz1 hz2 rfl (by decide) v _ _ hs (hown.alloc _) ⟨w.heap.size, 0, none⟩ 1 1 [.int .i64 z] hx rfl (cell_one_new _ _ _) ?_ (by unfold maxLen; omega) (by omega) (by simp; omega) ?_
  · intro u hu; simp at hu; subst hu; rfl
  · intro v' w' h1 h2 _
    exact h v' w' (Ints.snoc h1) (grownBy_alloc_trans h2)

set_option maxRecDepth 100000 in
set_option maxHeartbeats 1000000 in
theorem of_any (s : ByteArray) (w : World) (hs : s.size ≤ 4294967296) :
    Calls Tryd.prog 61 #[.string s] w fun e w' => RetInts w.heap.size (digs (bv s)) e w' ∧ Below w.heap.size w w' := by
  have hm : s.size ≤ maxLen := by unfold maxLen; omega
  have hn := nb_bv_size s
  obtain ⟨i0, hi, hz0, hz1, hz2⟩ := info_parts info_int
  go_enter Tryd.func61, Tryd.ntmps61
  go_wp2_with (go_at_call 63; refine (canon_any _ _ hm).mono ?_; rintro e w' ⟨rfl, rfl⟩)
  generalize hN : bv s = n at hn
  have HN := Lib.hid hN
  clear hN hm
  go_loopw [3, 4] (fun v en wr => ∃ (l : List Int) (m : Int), Ints wr w.heap.size v l ∧ digs n = l ++ digs (tk (nb n) m.toNat) ∧ m ≤ (nb n).size ∧ en = .int .i64 m ∧ -3 < m ∧ Below w.heap.size w wr) (fun _ en _ => (intOf en).toNat)
  case atStart => exact ⟨[], (nb n).size, Ints.nil _ _, by rw [Int.toNat_natCast, tk_size, bv_nb]; rfl, by omega, rfl, by omega, Below.refl _ _⟩
  case round =>
    obtain ⟨l, m, hl, hdig, hms, rfl, hm3, hbel⟩ := hrel
    have hll : l.length ≤ 4294967296 := by
      have h1 := digs_len_nb n
      have h2 := congrArg List.length hdig
      simp at h2; omega
    have Hdig := Lib.hid hdig
    clear hdig
    by_cases hpos : 0 < m
    · obtain ⟨m, rfl⟩ := Int.eq_ofNat_of_zero_le (Int.le_of_lt hpos)
      have htp : tk (nb n) m ≠ 0 := tk_pos (by omega) (by omega)
      have Htp := Lib.hid htp
      clear htp
      obtain ⟨s0, hs0⟩ : ∃ s0 : Nat, s0 = m - 3 := ⟨_, rfl⟩
      have hsa : s0 ≤ m := by omega
      have hsb : m ≤ s0 + 3 := by omega
      have hmx : (m : Int) - 3 = s0 ∨ ((0 : Int) = s0 ∧ m < 3) := by omega
      have Hs0 := Lib.hid hs0
      clear hs0
      rcases Nat.lt_or_ge m 3 with h3 | h3
      all_goals
        have Hmx := Lib.hid hmx
        clear hmx
        go_wp2
        go_loop [5, 6] (fun d k => ∃ kk dd : Nat, s0 ≤ kk ∧ kk ≤ m ∧ Mid (nb n) s0 kk dd ∧ d = .int .i64 dd ∧ k = .int .i64 kk) (fun _ k => m - (intOf k).toNat)
        case atStart => exact ⟨s0, 0, by omega, by omega, Mid.start _ _, rfl, val_int (by have := Hmx.out; omega)⟩
        case round =>
          obtain ⟨kk, dd, h1, h2, hM, rfl, rfl⟩ := hrel
          by_cases hlt : kk < m
          · have hd := hM.lt (by omega)
            have hk' : kk < (nb n).size := by omega
            have hb := (nb n)[kk].toNat_lt
            go_wp2
            go_round
            case rel => exact ⟨kk + 1, _, by omega, by omega, hM.succ h1 hk', by go_num, by go_num⟩
            case measure => simp [intOf]; omega
          · obtain rfl : kk = m := by omega
            have hd := hM.lt' (by omega)
            go_wp2_with (at_builtin; refine app_int (by rfl) (by rfl) (by rfl) (by rfl) w.heap.size hl (by omega) hbel.size ?_; intro v' w1 hl1 hg1)
            have hb1 := hbel.grown hg1 hbel.size hl.own
            go_wp2
            go_roundw
            case rel => exact ⟨l ++ [(dd : Int)], _, hl1, of_step Hdig.out (hM.done Hs0.out Htp.out) (by have := Hs0.out; omega), by omega, rfl, by omega, hb1⟩
            case measure => simp [intOf]; omega
    · have hf : digs n = l := by rw [Hdig.out, show m.toNat = 0 by omega, tk_zero, digs_zero, List.append_nil]
      have Hf := Lib.hid hf
      clear hf
      go_wp2
      go_ret
      exact ⟨⟨_, rfl, hl.of_eq (by rw [← Hf.out, HN.out])⟩, hbel⟩
end Go.Proofs.YtkejjbpdhinkkaaDoor
