/- Slices of uint32 (printed by gen_u32.py out of XA); trim. -/
import Derived.Test.YtfbjboehniakcaaGreatDoorA
import Derived.Test.YtfbjboehniakcaaGreatDoorW
namespace Go.Proofs.YtfbjboehniakcaaGreatDoor
open Go.RowKit W
open Pl (bval enc bv nb bval_append bval_cons bval_nil bval_snoc u8 u8_toNat tk tk_zero tk_size tk_succ tk_lt tk_pos nb_size_le bv_nb bv_lt nb_bv_size nb_size_zero Zeros cmpN cmpN_lt cmpN_gt cmpN_eq nb_less nb_eq nb_inj nb_toList nb_size strip0 ext_of_data extract_list nb_size_lt)
def U32s (w : World) (B : Nat) (v : Value) (l : List Int) : Prop := w.ownsRow B 84 1 v l.length (l.map (Value.int .u32))
def RetU32 (B : Nat) (l : List Int) (e : Ending) (w : World) : Prop := ∃ v, e = .returned v ∧ U32s w B v l
theorem U32s.open {w : World} {B : Nat} {v : Value} {l : List Int} (h : U32s w B v l) :
    ∃ a cap, v = .slice a l.length cap ∧ l.length ≤ cap ∧ cap ≤ maxLen ∧ ∀ k (hk : k < l.length), ∃ g, B ≤ g ∧ g < w.heap.size ∧ a = some ⟨g, 0, none⟩ ∧ w.cell? ⟨g, k, none⟩ = some (.int .u32 l[k]) := by
  rcases h.2 with ⟨rfl, hn⟩ | ⟨g, cap, cur, rfl, hb, hg, hnc, hcm, hcs, htake⟩
  · exact ⟨none, 0, by rw [hn], by omega, by simp [maxLen], fun k hk => by omega⟩
  · refine ⟨some ⟨g, 0, none⟩, cap, rfl, hnc, hcm, fun k hk => ⟨g, hb, (Array.getElem?_eq_some_iff.1 hg).1, rfl, ?_⟩⟩
    have := h.cells (g := g) rfl k (.int .u32 l[k]) (by simp [hk])
    have hadd : (⟨g, 0, none⟩ : Addr).add k = ⟨g, k, none⟩ := by unfold Addr.add; split <;> simp_all
    rwa [hadd] at this
theorem U32s.take {w : World} {B : Nat} {a : Option Addr} {cap : Nat} {l : List Int} (h : U32s w B (.slice a l.length cap) l) (n : Nat) (hn : n ≤ l.length) (h0 : 0 < l.length) : U32s w B (.slice a n cap) (l.take n) := by
  rcases h.2 with ⟨hv, hz⟩ | ⟨g, cap', cur, hv, hb, hg, hnc, hcm, hcs, htake⟩
  · omega
  · simp only [Value.slice.injEq] at hv
    obtain ⟨rfl, _, rfl⟩ := hv
    have hlen : (l.take n).length = n := by simp; omega
    refine ⟨by simp, .inr ⟨g, cap, cur, by rw [hlen], hb, hg, by omega, hcm, hcs, ?_⟩⟩
    rw [hlen, List.map_take, ← htake, List.take_take]
    congr 1; omega
theorem U32s.nil (w : World) (B : Nat) : U32s w B (.slice none 0 0) [] := World.ownsRow_nil w B _ 1
theorem utrimmed {w : World} {B : Nat} {a : Option Addr} {cap : Nat} {l l' : List Int} (h : U32s w B (.slice a l.length cap) l) (n : Nat) (hn : n ≤ l.length) (e : l.take n = l') : U32s w B (.slice a n cap) l' := by
  subst e
  by_cases h0 : 0 < l.length
  · exact h.take n hn h0
  · obtain rfl : n = l.length := by omega
    simpa using h
set_option maxHeartbeats 400000 in
theorem utrim_any (l : List Int) (v : Value) (B : Nat) (w : World) (hd : Dig l) (h : U32s w B v l) :
    Calls Tryz.prog 92 #[v] w fun e w' => RetU32 B (digs (dv l).toNat) e w' ∧ w = w' := by
  obtain ⟨a, cap, rfl, hc, hm, hcell⟩ := h.open
  unfold maxLen at hm
  have hcell := Lib.hid hcell
  go_enter Tryz.func92, Tryz.ntmps92
  go_wp2
  go_loop [0] (fun x => ∃ n : Nat, n ≤ l.length ∧ dv (l.take n) = dv l ∧ x = .slice a n cap) lenV
  case atStart => exact ⟨l.length, by omega, by simp, rfl⟩
  case round =>
    obtain ⟨n, hn, hz, rfl⟩ := hrel
    have hz := Lib.hid hz
    cases n with
    | zero => 
      go_wp2
      go_ret
      exact ⟨⟨_, rfl, utrimmed h 0 (by omega) (trim_zero hz.out)⟩, rfl⟩
    | succ n =>
      obtain ⟨g, hg1, hg2, rfl, hc1⟩ := hcell.out n (by omega)
      go_wp2
      · go_round
        case rel => exact ⟨n, by omega, trim_succ (by omega) hz.out (by assumption), rfl⟩
        case measure => simp [lenV]
      · go_ret
        exact ⟨⟨_, rfl, utrimmed h (n + 1) hn (trim_stop hd (by omega) hz.out (by assumption))⟩, rfl⟩
theorem info_u32 : (Tryz.prog.info? 84).map (fun i => (i.zero, i.size, i.bytes)) = some (some (.int .u32 0), 1, 4) := by kernel_rfl
theorem U32s.alloc {w : World} {B : Nat} {v : Value} {l : List Int} (h : U32s w B v l) (o : Obj) : U32s (w.alloc o) B v l := World.ownsRow.alloc h o
theorem U32s.of_eq {w : World} {B : Nat} {v : Value} {l l' : List Int} (h : U32s w B v l) (e : l = l') : U32s w B v l' := e ▸ h
theorem U32s.snoc {w : World} {B : Nat} {v : Value} {l : List Int} {x : Int} (h : w.ownsRow B 84 1 v (l.length + 1) (l.map (Value.int .u32) ++ [.int .u32 x])) : U32s w B v (l ++ [x]) := by
  unfold U32s; rw [List.length_append, List.map_append]; exact h
theorem U32s.own {w : World} {B : Nat} {v : Value} {l : List Int} (h : U32s w B v l) : ∀ k, v.ownBlock = some k → B ≤ k := fun k hk => (World.ownsRow.lt h k hk).1
theorem app_u32 {w : World} {ops : Array Oper} {rest : List Oper} {o : Oper} {a : Act} {Q : Exit → Act → World → Prop} {s x : Operand} {v : Value} {l : List Int} {z : Int}
    (hgd : o.guard = none)
    (ho : o.op = .call { callee := .builtin .append, args := #[s, x], argTypes := #[82, 82] })
    (hs : a.eval s = v) (hx : a.eval x = .slice (some ⟨w.heap.size, 0, none⟩) 1 1) (B : Nat) (hown : U32s w B v l)
    (hlen : l.length < 8589934592) (hB : B ≤ w.heap.size)
    (h : ∀ v' w', U32s w' B v' (l ++ [z]) → w.grownBy w' v.ownBlock → wpList Tryz.prog ops Q rest (a.put o.dst v') w') : wpList Tryz.prog ops Q (o :: rest) a (w.alloc (.cells #[.int .u32 z] 84)) := by
  obtain ⟨i0, hi, hz0, hz1, hz2⟩ := info_parts info_u32
  refine wpList_append_own _ hgd s x 82 ho B 84 i0 (.int .u32 0) 1 4 Tryz.underlying82 hi hz0 hz1 hz2 rfl (by decide) v _ _ hs (hown.alloc _) ⟨w.heap.size, 0, none⟩ 1 1 [.int .u32 z] hx rfl (cell_one_new _ _ _) ?_ (by unfold maxLen; omega) (by omega) (by simp; omega) ?_
  · intro u hu; simp at hu; subst hu; rfl
  · intro v' w' h1 h2 _
    exact h v' w' (U32s.snoc h1) (grownBy_alloc_trans h2)
theorem U32s.below {w w' : World} {B : Nat} {v : Value} {l : List Int} (h : U32s w B v l) (hb : Below w.heap.size w w') : U32s w' B v l := by
  refine ⟨h.1, ?_⟩
  rcases h.2 with h2 | ⟨g, cap, cur, hv, hg, hh, r⟩
  · exact .inl h2
  · exact .inr ⟨g, cap, cur, hv, hg, by rw [hb.block g (Array.getElem?_eq_some_iff.1 hh).1]; exact hh, r⟩
theorem U32s.low {w : World} {B B' : Nat} {v : Value} {l : List Int} (h : U32s w B v l) (hb : B' ≤ B) : U32s w B' v l := by
  refine ⟨h.1, ?_⟩
  rcases h.2 with h2 | ⟨g, cap, cur, hv, hg, r⟩
  · exact .inl h2
  · exact .inr ⟨g, cap, cur, hv, by omega, r⟩
def uzrow (n : Nat) : Array Value := ((List.replicate n (0 : Int)).map (Value.int .u32)).toArray
theorem uzrow_made (n : Nat) : madeCells (Value.int .u32 0).cells (n * 1) = uzrow n := by
  unfold madeCells uzrow
  apply Array.ext
  · simp
  · intro k h1 h2
    simp [Value.cells, Nat.mod_one]
theorem urun_mk (c : Int) (n : Nat) (h : c = n) (hn : n ≤ 8589934592) (w : World) : (Instr.makeSlice 82 (.int .i64 c) (.int .i64 c)).run Tryz.prog w = .ok (.slice (some ⟨w.heap.size, 0, none⟩) n n) (w.alloc (.cells (uzrow n) 84)) := by
  subst h
  obtain ⟨i0, hi, hz0, hz1, hz2⟩ := info_parts info_u32
  have := run_make (P := Tryz.prog) w 82 84 i0 (.int .u32 0) Tryz.underlying82 hi hz0 .i64 .i64 n n (by omega) (by omega) (by rw [hz2]; omega) (by omega)
  rw [this, hz1, Int.toNat_natCast, uzrow_made]
theorem U32s.made (w : World) (n : Nat) (hn : n ≤ 8589934592) : U32s (w.alloc (.cells (uzrow n) 84)) w.heap.size (.slice (some ⟨w.heap.size, 0, none⟩) n n) (List.replicate n 0) := by
  refine ⟨by simp, .inr ⟨w.heap.size, n, uzrow n, by simp, Nat.le_refl _, heap_alloc_new w _, by simp, by unfold maxLen; omega, by simp [uzrow], ?_⟩⟩
  simp [uzrow]
theorem U32s.at {w : World} {B g n cap : Nat} {l : List Int} (h : U32s w B (.slice (some ⟨g, 0, none⟩) n cap) l) (k : Nat) (hk : k < l.length) :
    w.cell? ⟨g, k, none⟩ = some (.int .u32 l[k]) ∧ w.frozen? ⟨g, k, none⟩ = false := by
  rcases h.2 with ⟨hv, _⟩ | ⟨g', cap', cur, hv, hb, hg, hnc, hcm, hcs, htake⟩
  · cases hv
  · simp only [Value.slice.injEq, Option.some.injEq, Addr.mk.injEq] at hv
    obtain ⟨⟨rfl, _⟩, _, rfl⟩ := hv
    refine ⟨?_, ?_⟩
    · have := h.cells (g := g) rfl k (.int .u32 l[k]) (by simp [hk])
      have hadd : (⟨g, 0, none⟩ : Addr).add k = ⟨g, k, none⟩ := by unfold Addr.add; split <;> simp_all
      rwa [hadd] at this
    · simp [World.frozen?, hg]
theorem U32s.drewN {w : World} {B : Nat} {v : Value} {l : List Int} (h : U32s w B v l) (n : Nat) : U32s (w.drewN n) B v l := h.below (below_drewN (Below.refl _ _) n)
theorem U32s.set {w : World} {B g n cap : Nat} {l : List Int} (h : U32s w B (.slice (some ⟨g, 0, none⟩) n cap) l) (k : Nat) (z : Int) :
    U32s (w.setCell ⟨g, k, none⟩ (.int .u32 z)) B (.slice (some ⟨g, 0, none⟩) n cap) (l.set k z) := by
  rcases h.2 with ⟨hv, _⟩ | ⟨g', cap', cur, hv, hb, hg, hnc, hcm, hcs, htake⟩
  · cases hv
  · simp only [Value.slice.injEq, Option.some.injEq, Addr.mk.injEq] at hv
    obtain ⟨⟨rfl, _⟩, rfl, rfl⟩ := hv
    refine ⟨by simp, .inr ⟨g, cap, cur.setIfInBounds k (.int .u32 z), by simp, hb, ?_, by simpa using hnc, hcm, by simpa using hcs, ?_⟩⟩
    · simp only [World.setCell, Array.getElem?_modify]
      simp [hg]
    · rw [Array.toList_setIfInBounds, List.length_set, List.map_set, ← htake]
      simp [List.take_set]
def bzrow (n : Nat) : Array Value := ((List.replicate n (0 : Int)).map (Value.int .u8)).toArray
theorem bzrow_made (n : Nat) : madeCells (Value.int .u8 0).cells (n * 1) = bzrow n := by
  unfold madeCells bzrow
  apply Array.ext
  · simp
  · intro k h1 h2
    simp [Value.cells, Nat.mod_one]
theorem urun_mk0 (c : Int) (n : Nat) (h : c = n) (hn : n ≤ 8589934592) (w : World) : (Instr.makeSlice 82 (.int .i64 0) (.int .i64 c)).run Tryz.prog w = .ok (.slice (some ⟨w.heap.size, 0, none⟩) 0 n) (w.alloc (.cells (uzrow n) 84)) := by
  subst h
  obtain ⟨i0, hi, hz0, hz1, hz2⟩ := info_parts info_u32
  have := run_make (P := Tryz.prog) w 82 84 i0 (.int .u32 0) Tryz.underlying82 hi hz0 .i64 .i64 0 n (by omega) (by omega) (by rw [hz2]; omega) (by omega)
  rw [this, hz1, Int.toNat_natCast, uzrow_made]; rfl
theorem U32s.made0 (w : World) (n : Nat) (hn : n ≤ 8589934592) : U32s (w.alloc (.cells (uzrow n) 84)) w.heap.size (.slice (some ⟨w.heap.size, 0, none⟩) 0 n) [] := by
  refine ⟨by simp, .inr ⟨w.heap.size, n, uzrow n, by simp, Nat.le_refl _, heap_alloc_new w _, by simp, by unfold maxLen; omega, by simp [uzrow], by simp⟩⟩
theorem brun_mk0 (c : Int) (n : Nat) (h : c = n) (hn : n ≤ 8589934592) (w : World) : (Instr.makeSlice 33 (.int .i64 0) (.int .i64 c)).run Tryz.prog w = .ok (.slice (some ⟨w.heap.size, 0, none⟩) 0 n) (w.alloc (.cells (bzrow n) 5)) := by
  subst h
  obtain ⟨i0, hi, hz0, hz1, hz2⟩ := info_parts info_u8
  have := run_make (P := Tryz.prog) w 33 5 i0 (.int .u8 0) Tryz.underlying33 hi hz0 .i64 .i64 0 n (by omega) (by omega) (by rw [hz2]; omega) (by omega)
  rw [this, hz1, Int.toNat_natCast, bzrow_made]; rfl
theorem Bys.made0 (w : World) (n : Nat) (hn : n ≤ 8589934592) : Bys (w.alloc (.cells (bzrow n) 5)) w.heap.size (.slice (some ⟨w.heap.size, 0, none⟩) 0 n) [] := by
  refine ⟨by simp, .inr ⟨w.heap.size, n, bzrow n, by simp, Nat.le_refl _, heap_alloc_new w _, by simp, by unfold maxLen; omega, by simp [bzrow], by simp⟩⟩
theorem step_app4 {w : World} {ops : Array Oper} {o : Oper} {a : Act} {K : Act → World → Prop} {Q : Exit → Act → World → Prop} {E : Prop} {s x : Operand} {v : Value} {l : List UInt8} {x1 x2 x3 x4 : Int}
    (hgd : o.guard = none)
    (ho : o.op = .call { callee := .builtin .append, args := #[s, x], argTypes := #[33, 33] })
    (hs : a.eval s = v) (hx : a.eval x = .slice (some ⟨w.heap.size, 0, none⟩) 4 4) (B : Nat) (hown : Bys w B v l)
    (hlen : l.length < 8589934592) (hB : B ≤ w.heap.size)
    (h : ∀ g cap w', Bys w' B (.slice (some ⟨g, 0, none⟩) (l.length + 4) cap) (l ++ [u8 x1, u8 x2, u8 x3, u8 x4]) → w.grownBy w' v.ownBlock → K (a.put o.dst (.slice (some ⟨g, 0, none⟩) (l.length + 4) cap)) w') :
    if Region.wanted o (yielded ops a.tmps) = true then Oper.wp Tryz.prog o a (w.alloc (.cells #[.int .u8 (IntKind.u8.wrap x1), .int .u8 (IntKind.u8.wrap x2), .int .u8 (IntKind.u8.wrap x3), .int .u8 (IntKind.u8.wrap x4)] 5)).drew K Q else E := by
  obtain ⟨i0, hi, hz0, hz1, hz2⟩ := info_parts info_u8
  have hb := heap_alloc_new w (.cells #[.int .u8 (IntKind.u8.wrap x1), .int .u8 (IntKind.u8.wrap x2), .int .u8 (IntKind.u8.wrap x3), .int .u8 (IntKind.u8.wrap x4)] 5)
  refine step_append_lies _ hgd s x 33 ho B 5 i0 (.int .u8 0) 1 1 Tryz.underlying33 hi hz0 hz1 hz2 rfl (by decide) v _ _ hs ((World.ownsRow.alloc hown _).drew) ⟨w.heap.size, 0, none⟩ 4 4 [.int .u8 (IntKind.u8.wrap x1), .int .u8 (IntKind.u8.wrap x2), .int .u8 (IntKind.u8.wrap x3), .int .u8 (IntKind.u8.wrap x4)] hx rfl (World.news_of_block hb) ?_ (by decide) (by unfold maxLen; omega) (by omega) (by simp; omega) (w.heap.size + 1) (by simp) ?_
  · intro u hu; simp at hu; rcases hu with rfl | rfl | rfl | rfl <;> rfl
  · intro g cap w' h1 h2 _ _
    refine h g cap w' ?_ (grownBy_drew_alloc h2)
    unfold Bys
    rw [List.length_append, List.map_append]
    simp only [u8_wrap] at h1
    exact h1
end Go.Proofs.YtfbjboehniakcaaGreatDoor
