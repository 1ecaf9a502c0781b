import Derived.Test.YtkejjbpdhinkkaaDoorA10
import Derived.Test.YtkejjbpdhinkkaaDoorPg
import Derived.IntWalk
namespace Go.Proofs.YtkejjbpdhinkkaaDoor
open Go.RowKit Pl

/-- n zeros, as they lie in memory -/
def zrow (n : Nat) : Array Value := ((List.replicate n (0 : Int)).map (Value.int .i64)).toArray
theorem zrow_made (n : Nat) : madeCells (Value.int .i64 0).cells (n * 1) = zrow n := by
  unfold madeCells zrow
  apply Array.ext
  · simp
  · intro k h1 h2
    simp [Value.cells, Nat.mod_one]
theorem run_mk (c : Int) (n : Nat) (h : c = n) (hn : n ≤ 8589934592) (w : World) : (Instr.makeSlice 26 (.int .i64 c) (.int .i64 c)).run Tryd.prog w = .ok (.slice (some ⟨w.heap.size, 0, none⟩) n n) (w.alloc (.cells (zrow n) 3)) := by
  subst h
  obtain ⟨i0, hi, hz0, hz1, hz2⟩ := info_parts info_int
  have := run_make (P := Tryd.prog) w 26 3 i0 (.int .i64 0) Tryd.underlying26 hi hz0 .i64 .i64 n n (by omega) (by omega) (by rw [hz2]; omega) (by omega)
  rw [this, hz1, Int.toNat_natCast, zrow_made]
theorem Ints.made (w : World) (n : Nat) (hn : n ≤ 8589934592) : Ints (w.alloc (.cells (zrow n) 3)) w.heap.size (.slice (some ⟨w.heap.size, 0, none⟩) n n) (List.replicate n 0) := by
  refine ⟨by simp, .inr ⟨w.heap.size, n, zrow n, by simp, Nat.le_refl _, heap_alloc_new w _, by simp, by unfold maxLen; omega, by simp [zrow], ?_⟩⟩
  simp [zrow]
theorem Ints.at {w : World} {B g n cap : Nat} {l : List Int} (h : Ints w B (.slice (some ⟨g, 0, none⟩) n cap) l) (k : Nat) (hk : k < l.length) :
    w.cell? ⟨g, k, none⟩ = some (.int .i64 l[k]) ∧ w.frozen? ⟨g, k, none⟩ = false := by
  rcases h.2 with ⟨hv, _⟩ | ⟨g', cap', cur, hv, hb, hg, hnc, hcm, hcs, htake⟩
  · cases hv
  · simp only [Value.slice.injEq, Option.some.injEq, Addr.mk.injEq] at hv
    obtain ⟨⟨rfl, _⟩, _, rfl⟩ := hv
    refine ⟨?_, ?_⟩
    · have := h.cells (g := g) rfl k (.int .i64 l[k]) (by simp [hk])
      have hadd : (⟨g, 0, none⟩ : Addr).add k = ⟨g, k, none⟩ := by unfold Addr.add; split <;> simp_all
      rwa [hadd] at this
    · simp [World.frozen?, hg]
theorem Ints.drewN {w : World} {B : Nat} {v : Value} {l : List Int} (h : Ints w B v l) (n : Nat) : Ints (w.drewN n) B v l := h.below (below_drewN (Below.refl _ _) n)
theorem Ints.set {w : World} {B g n cap : Nat} {l : List Int} (h : Ints w B (.slice (some ⟨g, 0, none⟩) n cap) l) (k : Nat) (z : Int) :
    Ints (w.setCell ⟨g, k, none⟩ (.int .i64 z)) B (.slice (some ⟨g, 0, none⟩) n cap) (l.set k z) := by
  rcases h.2 with ⟨hv, _⟩ | ⟨g', cap', cur, hv, hb, hg, hnc, hcm, hcs, htake⟩
  · cases hv
  · simp only [Value.slice.injEq, Option.some.injEq, Addr.mk.injEq] at hv
    obtain ⟨⟨rfl, _⟩, rfl, rfl⟩ := hv
    refine ⟨by simp, .inr ⟨g, cap, cur.setIfInBounds k (.int .i64 z), by simp, hb, ?_, by simpa using hnc, hcm, by simpa using hcs, ?_⟩⟩
    · simp only [World.setCell, Array.getElem?_modify]
      simp [hg]
    · rw [Array.toList_setIfInBounds, List.length_set, List.map_set, ← htake]
      simp [List.take_set]

set_option maxRecDepth 100000 in
set_option maxHeartbeats 2000000 in
theorem mul_quick (s t : ByteArray) (w : World) (hs : s.size ≤ 4294967296) (ht : t.size ≤ 4294967296) (h1 : bv s < 16777216) (h2 : bv t < 4294967296) :
    Calls Tryd.prog 44 #[.string s, .string t] w fun e w' => e = .returned (.string (nb (bv s * bv t))) ∧ Below w.heap.size w w' := by
  have q1 := size3.2 h1
  have q2 := size4.2 h2
  have p1 : (0 : Int) ≤ (bv s : Int) * (bv t : Int) := Int.mul_nonneg (by omega) (by omega)
  have p2 : (bv s : Int) * (bv t : Int) ≤ 16777215 * (bv t : Int) := Int.mul_le_mul_of_nonneg_right (by omega) (by omega)
  go_enter Tryd.func44, Tryd.ntmps44
  go_wp2_with fail
  refine (small_yes s 3 _ hs (by omega) (by omega)).mono ?_
  rintro e w' ⟨rfl, rfl⟩
  go_wp2_with fail
  refine (small_yes t 4 _ ht (by omega) (by omega)).mono ?_
  rintro e w' ⟨rfl, rfl⟩
  go_wp2_with fail
  refine (ofn_any _ _ (by omega) (by omega)).mono ?_
  rintro e w' ⟨rfl, hb⟩
  go_wp2_with fail
  go_ret
  exact ⟨ret_str (by congr 1), hb⟩

set_option maxRecDepth 100000 in
set_option maxHeartbeats 4000000 in
theorem mul_long (s t : ByteArray) (w : World) (hs : s.size ≤ 134217728) (ht : t.size ≤ 134217728) (h1 : ¬ (bv s < 16777216 ∧ bv t < 4294967296)) :
    Calls Tryd.prog 44 #[.string s, .string t] w fun e w' => e = .returned (.string (nb (bv s * bv t))) ∧ Below w.heap.size w w' := by
  have q1 := size3 (n := bv s)
  have q2 := size4 (n := bv t)
  have hcase : ((nb (bv s)).size ≤ 3 ∧ 4 < (nb (bv t)).size) ∨ (3 < (nb (bv s)).size ∧ (nb (bv t)).size ≤ 4) ∨ (3 < (nb (bv s)).size ∧ 4 < (nb (bv t)).size) := by omega
  have c1 : (nb (bv s)).size ≤ 3 → bv s < 9223372036854775808 := by omega
  have c2 : (nb (bv t)).size ≤ 4 → bv t < 9223372036854775808 := by omega
  have C1 := Lib.hid c1
  have C2 := Lib.hid c2
  have l1 := digs_len_bv s
  have l2 := digs_len_bv t
  clear q1 q2 h1 c1 c2
  go_enter Tryd.func44, Tryd.ntmps44
  rcases hcase with ⟨q1, q2⟩ | ⟨q1, q2⟩ | ⟨q1, q2⟩
  all_goals
    go_wp2_with fail
    first | refine (small_yes s 3 _ (by omega) (C1.out q1) (by omega)).mono ?_ | refine (small_no s 3 _ (by omega) (by omega)).mono ?_
    rintro e w' ⟨rfl, rfl⟩
    go_wp2_with fail
    first | refine (small_yes t 4 _ (by omega) (C2.out q2) (by omega)).mono ?_ | refine (small_no t 4 _ (by omega) (by omega)).mono ?_
    rintro e w' ⟨rfl, rfl⟩
    go_wp2_with fail
    refine (of_any s _ (by omega)).mono ?_
    rintro e w1 ⟨⟨v1, rfl, hv1⟩, hb1⟩
    go_wp2_with fail
    refine (of_any t _ (by omega)).mono ?_
    rintro e w2 ⟨⟨v2, rfl, hv2⟩, hb2⟩
    have hb := hb1.trans (hb2.mono hb1.size)
    have hv1' := hv1.below hb2
    clear hv1
    obtain ⟨a, cap, rfl, hc, hm, hcell⟩ := hv1'.open
    obtain ⟨a', cap', rfl, hc', hm', hcell'⟩ := hv2.open
    unfold maxLen at hm hm'
    have Hcell := Lib.hid hcell
    have Hcell' := Lib.hid hcell'
    clear hcell hcell'
    have hu := digs_dig (bv s)
    have hv := digs_dig (bv t)
    have e1 := dv_digs (bv s)
    have e2 := dv_digs (bv t)
    have E1 := Lib.hid e1
    have E2 := Lib.hid e2
    clear e1 e2
    generalize digs (bv s) = u at *
    generalize digs (bv t) = v at *
    have hmk := run_mk ((u.length : Int) + (v.length : Int)) (u.length + v.length) (by simp) (by omega)
    have hmade := Ints.made w2 (u.length + v.length) (by omega)
    have Hmade := Lib.hid hmade
    clear hmade
    go_wp2_with fail
    clear hmk
    generalize hg : w2.heap.size = g at *
    have hbw : Below g w2 (w2.alloc (.cells (zrow (u.length + v.length)) 3)) := (Below.refl _ _).alloc (by omega) _
    go_loopw [12] (fun i wr => ∃ (ii : Nat) (out : List Int), ii ≤ u.length ∧ Ints wr g (.slice (some ⟨g, 0, none⟩) (u.length + v.length) (u.length + v.length)) out ∧ (∀ x, XI u v ii 0 x out 0) ∧ i = .int .i64 ii ∧ Below g w2 wr ∧ g < wr.heap.size) (fun i _ => u.length - (intOf i).toNat)
    case atStart => exact ⟨0, _, by omega, Hmade.out, fun x => XI.start u v x, rfl, hbw, by simp [hg]⟩
    case round =>
      obtain ⟨i, out, hiu, ho, hxi, rfl, hbel, hgr⟩ := hrel
      have hol := (hxi 0).len
      have Hol := Lib.hid hol
      have Hxi := Lib.hid hxi
      clear hol hxi
      by_cases hlt : i < u.length
      · obtain ⟨gu, _, hgu, rfl, hcu⟩ := Hcell.out i hlt
        have hcu' : wr.cell? ⟨gu, i, none⟩ = some (.int .i64 u[i]) := by rw [hbel.cell (p := ⟨gu, i, none⟩) hgu]; exact hcu
        have hx := hu.get i hlt
        generalize hxe : u[i] = x at hcu hcu' hx
        have HXE := Lib.hid hxe
        obtain ⟨hx0, hx1⟩ := hx
        have Hcu := Lib.hid hcu
        clear hcu hxe hcu'
        obtain ⟨wo, rfl⟩ : ∃ wo : World, wo = wr := ⟨_, rfl⟩
        go_wp2_with fail
        go_loopw [13, 14, 15] (fun c j s wr => ∃ (jj : Nat) (cc : Int) (out : List Int), jj ≤ v.length ∧ Ints wr g (.slice (some ⟨g, 0, none⟩) (u.length + v.length) (u.length + v.length)) out ∧ XI u v i jj x out cc ∧ c = .int .i64 cc ∧ j = .int .i64 jj ∧ Below g w2 wr ∧ g < wr.heap.size) (fun _ j _ _ => v.length - (intOf j).toNat)
        case atStart => exact ⟨0, 0, out, by omega, ho, Hxi.out x, rfl, rfl, hbel, hgr⟩
        case round =>
          obtain ⟨j, c, out, hjv, ho, hX, rfl, rfl, hbel, hgr⟩ := hrel
          have hol := hX.len
          have Hol := Lib.hid hol
          clear hol
          have hc0 := hX.c0
          have hc1 := hX.c1
          by_cases hlt2 : j < v.length
          · obtain ⟨gv, _, hgv, rfl, hcv⟩ := Hcell'.out j hlt2
            have hcv' : wr.cell? ⟨gv, j, none⟩ = some (.int .i64 v[j]) := by rw [hbel.cell (p := ⟨gv, j, none⟩) (by omega)]; exact hcv
            have hcu'' : wr.cell? ⟨gu, i, none⟩ = some (.int .i64 x) := by rw [hbel.cell (p := ⟨gu, i, none⟩) (by omega)]; exact Hcu.out
            have hij : i + j < out.length := by have := Hol.out; omega
            obtain ⟨hcell, hfr⟩ := ho.at (i + j) hij
            have hy := hv.get j hlt2
            generalize hye : v[j] = y at hcv hcv' hy
            obtain ⟨hy0, hy1⟩ := hy
            have hnx := hX.step hx0 hx1 hlt2 hye hy0 hy1 hij
            have hbd := hX.bound hx0 hx1 hy0 hy1 hij
            have hset := fun nq => (ho.drewN nq).set (i + j) ((out[i + j] + x * y + c) % 16777216)
            generalize out[i + j] = o at hcell hnx hbd hset
            obtain ⟨o0, o1, o2, o3, o4, o5⟩ := hbd
            have Hset := Lib.hid hset
            have Hnx := Lib.hid hnx
            clear hcv hye hset hnx
            have k0 : (0 : Int) ≤ (i : Int) + (j : Int) := by omega
            have k1 : (i : Int) + (j : Int) < ((u.length + v.length : Nat) : Int) := by omega
            have k1' : (i : Int) + (j : Int) < (u.length : Int) + (v.length : Int) := by omega
            have k2 : ((i : Int) + (j : Int)).toNat = i + j := by omega
            have k3 : IntKind.i64.wrap ((i : Int) + (j : Int)) = (i : Int) + (j : Int) := IntWalk.i64_in _ (by omega)
            go_wp2_with fail
            go_quiet (fail)
            clear k3
            go_wp2
            go_roundw
            case rel => exact ⟨j + 1, _, _, by omega, Hset.out nq, Hnx.out, rfl, by go_num, (below_drewN hbel nq).setCell (Nat.le_refl _) _, by simp [World.setCell]; exact hgr⟩
            case measure => simp [intOf]; omega
          · have hij : i + v.length < out.length := by have := Hol.out; omega
            obtain ⟨hcell, hfr⟩ := ho.at (i + v.length) hij
            have hX' : XI u v i v.length x out c := by rw [show v.length = j by omega]; exact hX
            have hnx := fun x' => hX'.next (x' := x') hlt HXE.out hij
            have hset := ho.set (i + v.length) c
            generalize out[i + v.length] = o at hcell
            have Hset := Lib.hid hset
            have Hnx := Lib.hid hnx
            clear hset hnx
            have k0 : (0 : Int) ≤ (i : Int) + (v.length : Int) := by omega
            have k1 : (i : Int) + (v.length : Int) < ((u.length + v.length : Nat) : Int) := by omega
            have k1' : (i : Int) + (v.length : Int) < (u.length : Int) + (v.length : Int) := by omega
            have k2 : ((i : Int) + (v.length : Int)).toNat = i + v.length := by omega
            go_wp2
            go_roundw
            case rel => exact ⟨i + 1, _, by omega, Hset.out, Hnx.out, by go_num, hbel.setCell (Nat.le_refl _) _, by simp [World.setCell]; exact hgr⟩
            case measure => simp [intOf]; omega
      · have hX := Hxi.out 0
        have hdone := XI.done (by rw [show u.length = i by omega]; exact hX) rfl
        have HD := Lib.hid hdone
        have hdg := hX.dig
        clear hdone hX
        have hbz := hb.size
        go_wp2_with (go_at_call 62; refine (number_any _ _ _ _ hdg ho (by have := Hol.out; omega)).mono ?_; rintro e w3 ⟨rfl, hb3⟩)
        go_ret
        exact ⟨ret_str (by congr 1; rw [HD.out, E1.out, E2.out, ← Int.natCast_mul]; omega), (hb.trans (hbel.mono (by omega))).trans (hb3.mono (by omega))⟩

theorem add_any (s t : ByteArray) (w : World) (hs : s.size ≤ 134217728) (ht : t.size ≤ 134217728) :
    Calls Tryd.prog 46 #[.string s, .string t] w fun e w' => e = .returned (.string (nb (bv s + bv t))) ∧ Below w.heap.size w w' := by
  by_cases h : bv s < 72057594037927936 ∧ bv t < 72057594037927936
  · exact add_quick s t w (by omega) (by omega) h.1 h.2
  · exact add_long s t w (by omega) (by omega) h
theorem mul_any (s t : ByteArray) (w : World) (hs : s.size ≤ 134217728) (ht : t.size ≤ 134217728) :
    Calls Tryd.prog 44 #[.string s, .string t] w fun e w' => e = .returned (.string (nb (bv s * bv t))) ∧ Below w.heap.size w w' := by
  by_cases h : bv s < 16777216 ∧ bv t < 4294967296
  · exact mul_quick s t w (by omega) (by omega) h.1 h.2
  · exact mul_long s t w hs ht h
end Go.Proofs.YtkejjbpdhinkkaaDoor
