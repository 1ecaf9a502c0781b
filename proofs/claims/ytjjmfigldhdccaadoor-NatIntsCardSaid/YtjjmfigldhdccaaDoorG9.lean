/- The walk of NatInts. -/
import Derived.Test.YtjjmfigldhdccaaDoorG4
namespace Go.Proofs.YtjjmfigldhdccaaDoor
open Go.RowKit W
open Pl (bval enc bv nb bv_nb nb_size_le nb_size_zero nb_size_mono nb_bv_size bv_lt cmpN tk tk_zero tk_succ tk_pos)
/-- a block that begins with n ints of 64 bits -/
def SomeI64 (w : World) (g n : Nat) : Prop := g < w.heap.size ∧ ∀ k, k < n → ∃ z : Int, (-9223372036854775808 ≤ z ∧ z ≤ 9223372036854775807) ∧ w.cell? ⟨g, k, none⟩ = some (.int .i64 z)
theorem SomeI64.lt {w : World} {g n : Nat} (h : SomeI64 w g n) : g < w.heap.size := h.1
theorem SomeI64.below {w w' : World} {g n : Nat} (h : SomeI64 w g n) (hb : Below w.heap.size w w') : SomeI64 w' g n :=
  ⟨Nat.lt_of_lt_of_le h.1 hb.size, fun k hk => by obtain ⟨z, h1, hz⟩ := h.2 k hk; exact ⟨z, h1, (hb.cell (p := ⟨g, k, none⟩) h.1).trans hz⟩⟩
theorem SomeI64.newL (w : World) (g : Nat) (hg : g = w.heap.size) (zs : List Int) (hB : ∀ z ∈ zs, -9223372036854775808 ≤ z ∧ z ≤ 9223372036854775807) (t : TypeId) : SomeI64 (w.alloc (.cells (zs.map (Value.int .i64)).toArray t)) g zs.length := by
  subst hg
  have h := heap_alloc_new w (.cells (zs.map (Value.int .i64)).toArray t)
  refine ⟨by simp, fun k hk => ⟨zs[k], hB _ (List.getElem_mem _), ?_⟩⟩
  rw [cell_of_row _ _ k _ _ _ h]
  simp [hk]
theorem wrap64_within (n : Int) : -9223372036854775808 ≤ wrap64 n ∧ wrap64 n ≤ 9223372036854775807 := by
  unfold wrap64; omega
theorem intN_max {z : Int} (h : z ≤ 9223372036854775807) : intN z.toNat = max z 0 := by unfold intN; rw [if_pos (by omega)]; omega
theorem intB_max {z : Int} (h : z ≤ 9223372036854775807) : intB z.toNat = true := by unfold intB; rw [decide_eq_true (by omega)]
set_option maxRecDepth 100000 in
set_option maxHeartbeats 8000000 in
theorem ints_walk (n : Int) (v1 : Value) (x : List UInt8) (w : World) (hn0 : -9223372036854775808 ≤ n) (hn1 : n ≤ 9223372036854775807) (hx : BysR w v1 x) (hG : GT w) :
    Calls Tryd.prog 8 #[.int .i64 n, v1] w fun e w' => e = .returned (.bool true) ∧ Below w.heap.size w w' := by
  have hacc : Below w.heap.size w w := Below.refl _ _
  go_enter Tryd.func8, Tryd.ntmps8
  go_wp2_with fail
  with_reducible refine (sanity_any _ (hG.below hacc)).mono ?_
  rintro e wZ ⟨rfl, hbX⟩
  have hacc := hacc.trans (hbX.mono hacc.size)
  clear hbX
  go_wp2_with fail
  with_reducible refine (made_any v1 x _ (hx.below hacc)).mono ?_
  rintro e w' ⟨rfl, rfl⟩
  have hA := cutS_size x 40
  generalize cutS x 40 = A at *
  go_upto_region 3 with fail
  go_cut [28, 29, 30] (fun s28 s29 s30 wx => ∃ gL, s28 = .slice (some ⟨gL, 0, none⟩) 6 6 ∧ s29 = .int .i64 6 ∧ s30 = .int .i64 0 ∧ SomeI64 wx gL 6 ∧ Below w.heap.size w wx)
  case first =>
    have hb0 := Lib.hid (bits_within .and .i64 n 255)
    have hb1 := Lib.hid (wrap64_within (-n))
    go_wp2_with fail
    go_meet
    exact ⟨_, rfl, rfl, rfl, SomeI64.newL wZ _ rfl [n, wrap64 (-n), n / 256, bits BinOp.and IntKind.i64 n 255, 9223372036854775807, -9223372036854775808] (by simp only [List.forall_mem_cons]; exact ⟨⟨hn0, hn1⟩, hb1.out, ⟨by omega, by omega⟩, hb0.out, by omega, by omega, by simp⟩) 3, hacc.alloc hacc.size _⟩
  case rest =>
    obtain ⟨gL, rfl, rfl, rfl, bL, hacc⟩ := hcut
    go_wp2_with fail
    go_loopw [30] (fun i wr => ∃ k : Nat, k ≤ 6 ∧ i = .int .i64 k ∧ SomeI64 wr gL 6 ∧ Below w.heap.size w wr) (fun i _ => 6 - (intOf i).toNat)
    case atStart => exact ⟨0, by omega, rfl, bL, hacc⟩
    case round =>
      clear bL hacc
      obtain ⟨k, hk, rfl, bL, hacc⟩ := hrel
      by_cases hlt : k < 6
      · have hk0 : (0 : Int) ≤ (k : Int) := by omega
        have hk4 : (k : Int) < 6 := by omega
        obtain ⟨z, ⟨z0, z1⟩, h1⟩ := bL.2 k (by omega)
        have E1 := Lib.hid (intN_max (z := z) z1)
        have E2 := Lib.hid (intB_max (z := z) z1)
        have sz : (nb z.toNat).size ≤ 8 := nbs (by omega) (by decide)
        go_wp2_with fail
        with_reducible refine (nofT _ z z1).mono ?_
        rintro e wZ ⟨rfl, hbX⟩
        have hacc := hacc.trans (hbX.mono hacc.size)
        have bL := bL.below hbX
        clear hbX
        clear h1
        go_wp2_with fail
        with_reducible refine (nintT (nb z.toNat) _ (by omega)).mono ?_
        rw [bv_nb, E1.out, E2.out]
        rintro e w' ⟨rfl, rfl⟩
        go_wp2_with fail
        with_reducible refine (rofT _ z z1).mono ?_
        rintro e wZ ⟨rfl, hbX⟩
        have hacc := hacc.trans (hbX.mono hacc.size)
        have bL := bL.below hbX
        clear hbX
        go_wp2_with fail
        go_roundw
        case rel => exact ⟨k + 1, by omega, by go_num, bL, hacc⟩
        case measure => simp [intOf]; omega
      · have hk4 : ¬ (k : Int) < 6 := by omega
        go_wp2_with fail
        clear bL
        have bL : SomeStrs (wr.alloc (.cells #[.string A, .string ⟨#[128, 0, 0, 0, 0, 0, 0, 0]⟩, .string ⟨#[127, 255, 255, 255, 255, 255, 255, 255]⟩, .string ((⟨#[0]⟩ : ByteArray) ++ A)] 24)) wr.heap.size 4 41 := SomeStrs.newL wr _ rfl [A, ⟨#[128, 0, 0, 0, 0, 0, 0, 0]⟩, ⟨#[127, 255, 255, 255, 255, 255, 255, 255]⟩, ((⟨#[0]⟩ : ByteArray) ++ A)] 41 (by simp only [List.forall_mem_cons]; exact ⟨by omega, by decide, by decide, by rw [ByteArray.size_append]; exact Nat.le_trans (Nat.add_le_add_left hA 1) (by decide), by simp⟩) 24
        have hacc := hacc.alloc hacc.size (.cells #[.string A, .string ⟨#[128, 0, 0, 0, 0, 0, 0, 0]⟩, .string ⟨#[127, 255, 255, 255, 255, 255, 255, 255]⟩, .string ((⟨#[0]⟩ : ByteArray) ++ A)] 24)
        go_wp2_with fail
        generalize wr.heap.size = gL at *
        generalize wr.alloc (.cells #[.string A, .string ⟨#[128, 0, 0, 0, 0, 0, 0, 0]⟩, .string ⟨#[127, 255, 255, 255, 255, 255, 255, 255]⟩, .string ((⟨#[0]⟩ : ByteArray) ++ A)] 24) = WL at *
        go_loopw [61] (fun i wr => ∃ k : Nat, k ≤ 4 ∧ i = .int .i64 k ∧ SomeStrs wr gL 4 41 ∧ Below w.heap.size w wr) (fun i _ => 4 - (intOf i).toNat)
        case atStart => exact ⟨0, by omega, rfl, bL, hacc⟩
        case round =>
          clear bL hacc
          obtain ⟨k, hk, rfl, bL, hacc⟩ := hrel
          by_cases hlt : k < 4
          · have hk0 : (0 : Int) ≤ (k : Int) := by omega
            have hk4 : (k : Int) < 4 := by omega
            obtain ⟨s1, z1, h1⟩ := bL.2 k (by omega)
            go_wp2_with fail
            with_reducible refine (nintT s1 _ (by omega)).mono ?_
            rintro e w' ⟨rfl, rfl⟩
            go_wp2_with fail
            with_reducible refine (rintT s1 _ (by omega)).mono ?_
            rintro e w' ⟨rfl, rfl⟩
            clear h1
            go_wp2_with fail
            with_reducible refine (nbits_any s1 _ (by omega)).mono ?_
            rintro e w' ⟨rfl, rfl⟩
            go_wp2_with fail
            with_reducible refine (rbits_any s1 _ (by omega)).mono ?_
            rintro e w' ⟨rfl, rfl⟩
            go_wp2_with fail
            with_reducible refine (nright_any s1 _ (by omega)).mono ?_
            rintro e w' ⟨rfl, rfl⟩
            go_wp2_with fail
            with_reducible refine (rright_any s1 _ (by omega)).mono ?_
            rintro e w' ⟨rfl, rfl⟩
            go_wp2_with fail
            go_roundw
            case rel => exact ⟨k + 1, by omega, by go_num, bL, hacc⟩
            case measure => simp [intOf]; omega
          · have hk4 : ¬ (k : Int) < 4 := by omega
            go_wp2_with fail
            go_ret
            exact ⟨rfl, hacc⟩
end Go.Proofs.YtjjmfigldhdccaaDoor
