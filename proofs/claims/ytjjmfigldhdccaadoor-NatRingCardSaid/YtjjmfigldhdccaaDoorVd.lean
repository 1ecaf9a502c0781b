/- Walks of package nat: padded. -/
import Derived.Test.YtjjmfigldhdccaaDoorV9
import Derived.Test.YtjjmfigldhdccaaDoorZc
import Derived.Laws.CopyOwn
namespace Go.Proofs.YtjjmfigldhdccaaDoor
open Go.RowKit W
open Pl (bv nb bv_nb nb_bv_size bv_lt cmpN)
theorem size_u32 : (Tryd.prog.info? 52).map (·.size) = some 1 := by
  obtain ⟨i0, hi, hz0, hz1, hz2⟩ := info_parts info_u32
  rw [hi]; simp [hz1]
theorem pad_splice (x : List Int) (n : Nat) : splice ((List.replicate n (0 : Int)).map (Value.int .u32)) 0 (x.map (Value.int .u32)) = (x ++ List.replicate (n - x.length) 0).map (Value.int .u32) := by
  unfold splice
  simp
theorem pad_dv (x : List Int) (k : Nat) : dv (x ++ List.replicate k 0) = dv x := by rw [dv_append, dv_replicate]; simp
set_option maxRecDepth 100000 in
set_option maxHeartbeats 2000000 in
theorem npadded_any (x : List Int) (vx : Value) (n : Nat) (w : World) (h : U32s w 0 vx x) (hl : x.length ≤ n) (hn : n ≤ 1073741824) :
    Calls Tryd.prog 75 #[vx, .int .i64 n] w fun e w' => (∃ v, e = .returned v ∧ U32s w' w.heap.size v (x ++ List.replicate (n - x.length) 0)) ∧ Below w.heap.size w w' := by
  obtain ⟨a, cap, rfl, hc, hm, hcell⟩ := h.open
  have hmk := urun_mk (n : Int) n rfl (by omega)
  have hnew := heap_alloc_new w (.cells (uzrow n) 52)
  have hbw : Below w.heap.size w (w.alloc (.cells (uzrow n) 52)) := (Below.refl _ _).alloc (Nat.le_refl _) _
  have hpos : 0 < (x.map (Value.int .u32)).length → ∃ ad, a = some ad ∧ ∀ j v, (x.map (Value.int .u32))[j]? = some v → (w.alloc (.cells (uzrow n) 52)).cell? (ad.add j) = some v := by
    intro h0
    rw [List.length_map] at h0
    obtain ⟨g, _, hg2, rfl, _⟩ := hcell 0 h0
    refine ⟨_, rfl, fun j v hv => ?_⟩
    rw [List.getElem?_map, Option.map_eq_some_iff] at hv
    obtain ⟨z, hz, rfl⟩ := hv
    obtain ⟨hj, hz'⟩ := List.getElem?_eq_some_iff.1 hz
    obtain ⟨g', _, hg3, he, hcz⟩ := hcell j hj
    obtain rfl : g = g' := by simpa using he
    have hadd : (⟨g, 0, none⟩ : Addr).add j = ⟨g, j, none⟩ := by unfold Addr.add; split <;> simp_all
    rw [hadd, hbw.cell (p := ⟨g, j, none⟩) hg3, hcz, hz']
  clear hcell
  have HP := Lib.hid hpos
  have HN := Lib.hid hnew
  have HB := Lib.hid hbw
  clear hpos hnew hbw
  go_enter Tryd.func75, Tryd.ntmps75
  go_wp2_with (refine wpList_copy_splice (o := ⟨some 10, _, _, _, _, _⟩) (by rfl) (.tmp 8) (.tmp 9) 56 56 (by rfl) 52 Tryd.underlying56 size_u32 _ _ _ _ _ _ (by rfl) (by rfl) w.heap.size 0 ((List.replicate n (0 : Int)).map (Value.int .u32)) 52 (by exact HN.out) (x.map (Value.int .u32)) (by rw [List.length_map]; exact (Nat.min_eq_left hl).symm) (fun h9 => ⟨rfl, HP.out h9⟩) (by simp; omega) (by intro u hu; obtain ⟨z, _, rfl⟩ := List.mem_map.1 hu; rfl) w.heap.size w HB.out (Nat.le_refl _) ?_; intro w2 HG2 hB2)
  have hg := HG2.out
  rw [pad_splice x n] at hg
  go_wp2_with fail
  go_ret
  refine ⟨⟨_, rfl, by simp, .inr ⟨w.heap.size, n, ((x ++ List.replicate (n - x.length) 0).map (Value.int .u32)).toArray, ?_, Nat.le_refl _, hg, ?_, ?_, ?_, ?_⟩⟩, hB2⟩
  · simp; omega
  · simp; omega
  · unfold maxLen; omega
  · simp; omega
  · simp only [Nat.mul_one]
    rw [List.take_of_length_le (by simp)]
end Go.Proofs.YtjjmfigldhdccaaDoor
