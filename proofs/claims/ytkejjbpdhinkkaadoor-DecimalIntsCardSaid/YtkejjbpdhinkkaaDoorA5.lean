import Derived.Test.YtkejjbpdhinkkaaDoorA4
namespace Go.Proofs.YtkejjbpdhinkkaaDoor
open Go.RowKit Pl

/-- 'b = append(b, x)' on bytes: the slice of one element was just made -/
theorem app_u8 {w : World} {ops : Array Oper} {rest : List Oper} {o : Oper} {a : Act} {Q : Exit → Act → World → Prop} {s x : Operand} {v : Value} {l : List UInt8} {z : Int}
    (hgd : o.guard = none)
    (ho : o.op = .call { callee := .builtin .append, args := #[s, x], argTypes := #[89, 89] })
    (hs : a.eval s = v) (hx : a.eval x = .slice (some ⟨w.heap.size, 0, none⟩) 1 1) (B : Nat) (hown : Bys w B v l)
    (hz0 : 0 ≤ z) (hz1 : z < 256) (hlen : l.length < 8589934592) (hB : B ≤ w.heap.size)
    (h : ∀ v' w', Bys w' B v' (l ++ [u8 z]) → w.grownBy w' v.ownBlock → wpList Tryd.prog ops Q rest (a.put o.dst v') w') : wpList Tryd.prog ops Q (o :: rest) a (w.alloc (.cells #[.int .u8 z] 5)) := by
  obtain ⟨i0, hi, hy0, hy1, hy2⟩ := info_parts info_u8
  refine wpList_append_own _ hgd s x 89 ho B 5 i0 (.int .u8 0) 1 1 Tryd.underlying89 hi hy0 hy1 hy2 rfl (by decide) v _ _ hs (World.ownsRow.alloc hown _) ⟨w.heap.size, 0, none⟩ 1 1 [.int .u8 z] hx rfl (cell_one_new _ _ _) ?_ (by unfold maxLen; omega) (by omega) (by simp; omega) ?_
  · intro u hu; simp at hu; subst hu; rfl
  · intro v' w' h1 h2 _
    refine h v' w' ?_ (grownBy_alloc_trans h2)
    unfold Bys
    rw [List.length_append, List.map_append]
    have e : ((u8 z).toNat : Int) = z := by rw [u8_toNat]; omega
    simp only [List.map_cons, List.map_nil, e]
    exact h1

set_option maxRecDepth 100000 in
set_option maxHeartbeats 1000000 in
theorem ofn_any (n : Int) (w : World) (h0 : 0 ≤ n) (h1 : n ≤ 9223372036854775807) :
    Calls Tryd.prog 47 #[.int .i64 n] w fun e w' => e = .returned (.string (nb n.toNat)) ∧ Below w.heap.size w w' := by
  go_enter Tryd.func47, Tryd.ntmps47
  go_wp2
  go_loopw [3, 4] (fun v en wr => ∃ (bs : List UInt8) (m : Int), Bys wr w.heap.size v bs ∧ -8 ≤ m ∧ m ≤ 56 ∧ bs.length ≤ 8 ∧ (8 * bs.length : Int) = 56 - m ∧ (bval bs : Int) = n / 2 ^ (m + 8).toNat ∧ en = .int .i64 m ∧ Below w.heap.size w wr) (fun _ en _ => (intOf en + 8).toNat)
  case atStart => exact ⟨[], 56, Bys.nil _ _, by omega, by omega, by simp, by simp, by simp [bval]; omega, rfl, Below.refl _ _⟩
  case round =>
    obtain ⟨bs, m, hb, hm1, hm2, hbl, hbl2, hval, rfl, hbel⟩ := hrel
    have Hval := Lib.hid hval
    have Hbl := Lib.hid hbl2
    clear hval hbl2
    have hcv := hb.conv
    have hsz : (⟨bs.toArray⟩ : ByteArray).size ≤ maxLen := by simp [ByteArray.size, maxLen]; omega
    have hv : (¬ 0 ≤ m ∨ ¬ 0 < n) → bv ⟨bs.toArray⟩ = n.toNat := by
      intro hor
      have h1 := Hval.out
      have h2 := Hbl.out
      simp only [bv]
      rcases hor with h | h
      · obtain rfl : m = -8 := by omega
        simp at h1; omega
      · obtain rfl : n = 0 := by omega
        simp at h1; simp [h1]
    have HV := Lib.hid hv
    clear hv
    by_cases hm : 0 ≤ m
    · by_cases hn : 0 < n
      · have hq : 0 ≤ n / 2 ^ m.toNat % 256 := by omega
        have hq1 : n / 2 ^ m.toNat % 256 < 256 := by omega
        go_wp2_with (at_builtin; refine app_u8 (by rfl) (by rfl) (by rfl) (by rfl) w.heap.size hb hq hq1 (by omega) hbel.size ?_; intro v1 w1 hb1 hg1)
        go_roundw
        case rel => exact ⟨_, m - 8, hb1, by omega, by omega, by have := Hbl.out; simp; omega, by have := Hbl.out; simp; omega, ofn_step hm Hval.out, rfl, hbel.grown hg1 hbel.size hb.own⟩
        case measure => simp [intOf]; omega
      · have HW := HV.out (.inr hn)
        have HX := Lib.hid HW
        clear HW
        go_wp2_with (go_at_call 63; refine (canon_any _ _ hsz).mono ?_; rintro e w' ⟨rfl, rfl⟩)
        go_ret
        exact ⟨ret_str (by rw [HX.out]), hbel⟩
    · have HW := HV.out (.inl hm)
      have HX := Lib.hid HW
      clear HW
      go_wp2_with (go_at_call 63; refine (canon_any _ _ hsz).mono ?_; rintro e w' ⟨rfl, rfl⟩)
      go_ret
      exact ⟨ret_str (by rw [HX.out]), hbel⟩
end Go.Proofs.YtkejjbpdhinkkaaDoor
