import Derived.Test.YtkejjbpdhinkkaaDoorA11
import Derived.Test.YtkejjbpdhinkkaaDoorPh
import Derived.Laws.AppendOwnNone
namespace Go.Proofs.YtkejjbpdhinkkaaDoor
open Go.RowKit Pl

/-- 'append(x, y...)' on ints -/
theorem app_ints {w : World} {ops : Array Oper} {rest : List Oper} {o : Oper} {a : Act} {Q : Exit → Act → World → Prop} {s x : Operand} {v v2 : Value} {l l2 : List Int}
    (hgd : o.guard = none)
    (ho : o.op = .call { callee := .builtin .append, args := #[s, x], argTypes := #[26, 26] })
    (hs : a.eval s = v) (hx : a.eval x = v2) (B B2 : Nat) (hown : Ints w B v l) (h2 : Ints w B2 v2 l2)
    (hlen : l.length + l2.length < 8589934592) (hB : B ≤ w.heap.size)
    (h : ∀ v' w', Ints w' B v' (l ++ l2) → w.grownBy w' v.ownBlock → wpList Tryd.prog ops Q rest (a.put o.dst v') w') : wpList Tryd.prog ops Q (o :: rest) a w := by
  obtain ⟨i0, hi, hz0, hz1, hz2⟩ := info_parts info_int
  rcases h2.2 with ⟨rfl, hn⟩ | ⟨g, cap, cur, rfl, hb, hg, hnc, hcm, hcs, htake⟩
  · have : l2 = [] := List.eq_nil_of_length_eq_zero hn
    subst this
    refine wpList_append_own_none hgd s x 26 ho B 3 i0 1 Tryd.underlying26 hi v _ _ hs hown hx ?_
    exact h v w (by simpa using hown) ⟨rfl, rfl, rfl, Nat.le_refl _, fun _ _ _ => rfl⟩
  · refine wpList_append_own w hgd s x 26 ho B 3 i0 (.int .i64 0) 1 8 Tryd.underlying26 hi hz0 hz1 hz2 rfl (by decide) v _ _ hs hown ⟨g, 0, none⟩ l2.length cap (l2.map (Value.int .i64)) hx (by simp) (h2.cells (g := g) rfl) ?_ (by unfold maxLen; omega) (by omega) hB ?_
    · intro u hu; simp at hu; obtain ⟨z, _, rfl⟩ := hu; rfl
    · intro v' w' h1 h3 _
      refine h v' w' ?_ h3
      unfold Ints
      rw [List.length_append, List.map_append]
      exact h1
theorem Ints.lit (w : World) (B : Nat) (z : Int) (hB : B ≤ w.heap.size) : Ints (w.alloc (.cells #[.int .i64 z] 3)) B (.slice (some ⟨w.heap.size, 0, none⟩) 1 1) [z] :=
  World.ownsRow_lit (e := 3) (size := 1) w #[.int .i64 z] 1 hB (by simp [maxLen]) rfl

set_option maxRecDepth 100000 in
set_option maxHeartbeats 2000000 in
theorem quo_zero (s t : ByteArray) (w : World) (ht : t.size ≤ 4294967296) (h : bv t = 0) :
    Calls Tryd.prog 48 #[.string s, .string t] w fun e w' => e = .returned (.tuple #[.string (nb 0), .string (nb 0), .bool false]) ∧ w = w' := by
  have hmt : t.size ≤ maxLen := by unfold maxLen; omega
  have h0 : (nb (bv t)).size = 0 := nb_size_zero.2 h
  have h1 : (((nb (bv t)).size : Int) == 0) = true := by simp [h0]
  have H := Lib.hid h
  clear h h0
  go_enter Tryd.func48, Tryd.ntmps48
  go_wp2_with fail
  refine (canon_any t _ hmt).mono ?_
  rintro e w' ⟨rfl, rfl⟩
  go_wp2_with fail
  go_ret3
  exact ⟨by simp [nb, enc_zero], rfl⟩

set_option maxRecDepth 100000 in
set_option maxHeartbeats 2000000 in
theorem quo_quick (s t : ByteArray) (w : World) (hs : s.size ≤ 4294967296) (ht : t.size ≤ 4294967296) (h0 : 0 < bv t) (h1 : bv s < 72057594037927936) (h2 : bv t < 72057594037927936) :
    Calls Tryd.prog 48 #[.string s, .string t] w fun e w' => e = .returned (.tuple #[.string (nb (bv s / bv t)), .string (nb (bv s % bv t)), .bool true]) ∧ Below w.heap.size w w' := by
  have hmt : t.size ≤ maxLen := by unfold maxLen; omega
  have q1 := size7.2 h1
  have q2 := size7.2 h2
  have q0 : (nb (bv t)).size ≠ 0 := fun h => by have := nb_size_zero.1 h; omega
  have q3 : (((nb (bv t)).size : Int) == 0) = false := by simp [q0]
  have hb' := bv_nb (bv t)
  have Hb' := Lib.hid hb'
  have hsz : (nb (bv t)).size ≤ 4294967296 := by omega
  have hd0 : 0 ≤ (bv s : Int) / (bv t : Int) := by exact_mod_cast Nat.zero_le (bv s / bv t)
  have hd1 : (bv s : Int) / (bv t : Int) ≤ 9223372036854775807 := by
    have : bv s / bv t ≤ bv s := Nat.div_le_self _ _
    have e : ((bv s / bv t : Nat) : Int) = (bv s : Int) / (bv t : Int) := by simp
    omega
  have hm0 : 0 ≤ (bv s : Int) % (bv t : Int) := by exact_mod_cast Nat.zero_le (bv s % bv t)
  have hm1 : (bv s : Int) % (bv t : Int) ≤ 9223372036854775807 := by
    have : bv s % bv t ≤ bv s := Nat.mod_le _ _
    have e : ((bv s % bv t : Nat) : Int) = (bv s : Int) % (bv t : Int) := by simp
    omega
  have kw : IntKind.i64.wrap ((bv s : Int) / (bv t : Int)) = (bv s : Int) / (bv t : Int) := IntWalk.i64_in _ (by omega)
  have KW := Lib.hid kw
  clear hb' q0 kw
  go_enter Tryd.func48, Tryd.ntmps48
  go_wp2_with fail
  refine (canon_any t _ hmt).mono ?_
  rintro e w' ⟨rfl, rfl⟩
  go_wp2_with fail
  refine (small_yes s 7 _ hs (by omega) (by omega)).mono ?_
  rintro e w' ⟨rfl, rfl⟩
  go_wp2_with fail
  refine (small_yes (nb (bv t)) 7 _ hsz (by rw [Hb'.out]; omega) (by rw [Hb'.out]; omega)).mono ?_
  rw [Hb'.out]
  rintro e w' ⟨rfl, rfl⟩
  go_wp2_with fail
  have kw := KW.out
  have hacc : Below w.heap.size w w.drew := (Below.refl _ _).drew
  clear hs ht h1 h2 q1 q2 hsz hmt q3 KW Hb'
  go_region_with (go_at_call 47; refine (ofn_any _ _ (by assumption) (by assumption)).mono ?_; rintro e w1 ⟨rfl, hb⟩; have hacc := hacc.trans (hb.mono hacc.size); clear hb)
  all_goals
    clear kw
    go_wp2_with fail
    go_ret3
    exact ⟨rfl, hacc⟩
end Go.Proofs.YtkejjbpdhinkkaaDoor
