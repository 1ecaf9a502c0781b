import Derived.Test.YtkejjbpdhinkkaaDoorA3
import Derived.Deep.RegionHeld3
import Derived.Deep.AppendLies
namespace Go.Proofs.YtkejjbpdhinkkaaDoor
open Go.RowKit Pl

theorem info_u8 : (Tryd.prog.info? 5).map (fun i => (i.zero, i.size, i.bytes)) = some (some (.int .u8 0), 1, 1) := by kernel_rfl
/-- v is a slice of bytes that reads as l, in a block from B on -/
def Bys (w : World) (B : Nat) (v : Value) (l : List UInt8) : Prop := w.ownsRow B 5 1 v l.length (l.map fun b => .int .u8 (b.toNat : Int))

theorem u8_wrap (x : Int) : IntKind.u8.wrap x = ((u8 x).toNat : Int) := by rw [u8_toNat]; rfl
theorem Bys.nil (w : World) (B : Nat) : Bys w B (.slice none 0 0) [] := World.ownsRow_nil w B _ 1
theorem Bys.own {w : World} {B : Nat} {v : Value} {l : List UInt8} (h : Bys w B v l) : ∀ k, v.ownBlock = some k → B ≤ k := fun k hk => (World.ownsRow.lt h k hk).1
theorem Bys.ne_own {w : World} {B : Nat} {v : Value} {l : List UInt8} (h : Bys w B v l) {g : Nat} (hg : g < B) : some g ≠ v.ownBlock := fun e => by have := h.own g e.symm; omega
/-- a slice of bytes as a string -/
theorem Bys.conv {w : World} {B : Nat} {v : Value} {l : List UInt8} (h : Bys w B v l) (dst : TypeId) (hd : Tryd.prog.underlying dst = some .string) :
    (convert 89 dst v).run Tryd.prog w = .ok (.string ⟨l.toArray⟩) w := by
  rcases h.2 with ⟨rfl, hn⟩ | ⟨g, cap, cur, rfl, hb, hg, hnc, hcm, hcs, htake⟩
  · have : l = [] := List.eq_nil_of_length_eq_zero hn
    subst this
    exact run_convert_bytes_nil w 89 5 Tryd.underlying89 Tryd.underlying5 0 0 dst hd
  · refine run_convert_bytes_back w 89 dst 5 ⟨g, 0, none⟩ cap l Tryd.underlying89 Tryd.underlying5 hd ?_
    intro j hj
    exact h.cells (g := g) rfl j _ (by simp [hj])
theorem grownBy_drew_alloc {w w' : World} {o : Obj} {r : Option Nat} (h : (w.alloc o).drew.grownBy w' r) : w.grownBy w' r :=
  grownBy_alloc_trans ⟨h.os, h.tape, h.output, h.size, h.block⟩
/-- 'b = append(b, x, y, z)' on bytes, as a step of a region that draws its order -/
theorem step_app3 {w : World} {ops : Array Oper} {o : Oper} {a : Act} {K : Act → World → Prop} {Q : Exit → Act → World → Prop} {E : Prop} {s x : Operand} {v : Value} {l : List UInt8} {x1 x2 x3 : Int}
    (hgd : o.guard = none)
    (ho : o.op = .call { callee := .builtin .append, args := #[s, x], argTypes := #[89, 89] })
    (hs : a.eval s = v) (hx : a.eval x = .slice (some ⟨w.heap.size, 0, none⟩) 3 3) (B : Nat) (hown : Bys w B v l)
    (hlen : l.length < 8589934592) (hB : B ≤ w.heap.size)
    (h : ∀ g cap w', Bys w' B (.slice (some ⟨g, 0, none⟩) (l.length + 3) cap) (l ++ [u8 x1, u8 x2, u8 x3]) → w.grownBy w' v.ownBlock → K (a.put o.dst (.slice (some ⟨g, 0, none⟩) (l.length + 3) cap)) w') :
    if Region.wanted o (yielded ops a.tmps) = true then Oper.wp Tryd.prog o a (w.alloc (.cells #[.int .u8 (IntKind.u8.wrap x1), .int .u8 (IntKind.u8.wrap x2), .int .u8 (IntKind.u8.wrap x3)] 5)).drew K Q else E := by
  obtain ⟨i0, hi, hz0, hz1, hz2⟩ := info_parts info_u8
  have hb := heap_alloc_new w (.cells #[.int .u8 (IntKind.u8.wrap x1), .int .u8 (IntKind.u8.wrap x2), .int .u8 (IntKind.u8.wrap x3)] 5)
  refine step_append_lies _ hgd s x 89 ho B 5 i0 (.int .u8 0) 1 1 Tryd.underlying89 hi hz0 hz1 hz2 rfl (by decide) v _ _ hs ((World.ownsRow.alloc hown _).drew) ⟨w.heap.size, 0, none⟩ 3 3 [.int .u8 (IntKind.u8.wrap x1), .int .u8 (IntKind.u8.wrap x2), .int .u8 (IntKind.u8.wrap x3)] hx rfl (World.news_of_block hb) ?_ (by decide) (by unfold maxLen; omega) (by omega) (by simp; omega) (w.heap.size + 1) (by simp) ?_
  · intro u hu; simp at hu; rcases hu with rfl | rfl | rfl <;> rfl
  · intro g cap w' h1 h2 _ _
    refine h g cap w' ?_ (grownBy_drew_alloc h2)
    unfold Bys
    rw [List.length_append, List.map_append]
    simp only [u8_wrap] at h1
    exact h1

set_option maxRecDepth 100000 in
set_option maxHeartbeats 1000000 in
theorem number_any (l : List Int) (v : Value) (B : Nat) (w : World) (hd : Dig l) (h : Ints w B v l) (hlen : l.length ≤ 1073741824) :
    Calls Tryd.prog 62 #[v] w fun e w' => e = .returned (.string (nb (dv l).toNat)) ∧ Below w.heap.size w w' := by
  obtain ⟨a, cap, rfl, hc, hm, hcell⟩ := h.open
  unfold maxLen at hm
  have Hcell := Lib.hid hcell
  clear hcell
  go_enter Tryd.func62, Tryd.ntmps62
  go_wp2
  go_loopw [3, 4] (fun v en wr => ∃ (bs : List UInt8) (m : Nat), Bys wr w.heap.size v bs ∧ m ≤ l.length ∧ (bval bs : Int) = dv (l.drop m) ∧ bs.length = 3 * (l.length - m) ∧ en = .int .i64 ((m : Int) - 1) ∧ Below w.heap.size w wr) (fun _ en _ => (intOf en + 1).toNat)
  case atStart => exact ⟨[], l.length, Bys.nil _ _, by omega, by simp [bval, dv], by simp, rfl, Below.refl _ _⟩
  case round =>
    obtain ⟨bs, m, hb, hml, hval, hbl, rfl, hbel⟩ := hrel
    have Hval := Lib.hid hval
    have Hbl := Lib.hid hbl
    clear hval hbl
    cases m with
    | zero =>
      have hcv := hb.conv
      have hsz : (⟨bs.toArray⟩ : ByteArray).size ≤ maxLen := by have := Hbl.out; simp [ByteArray.size, maxLen]; omega
      have hv : bv ⟨bs.toArray⟩ = (dv l).toNat := by
        have := Hval.out
        simp only [List.drop_zero] at this
        simp only [bv]; omega
      have HV := Lib.hid hv
      clear hv
      go_wp2_with (go_at_call 63; refine (canon_any _ _ hsz).mono ?_; rintro e w' ⟨rfl, rfl⟩)
      go_ret
      exact ⟨ret_str (by rw [HV.out]), hbel⟩
    | succ m =>
      obtain ⟨g, hg1, hg2, rfl, hc1⟩ := Hcell.out m (by omega)
      have hc2 : wr.cell? ⟨g, m, none⟩ = some (.int .i64 l[m]) := by rw [hbel.cell (p := ⟨g, m, none⟩) hg2]; exact hc1
      have hdm := hd.get m (by omega)
      have em : ((m + 1 : Nat) : Int) - 1 = m := by omega
      rw [em]
      clear em
      have h0 : (0 : Int) ≤ m := by omega
      have h1 : (m : Int) < l.length := by omega
      generalize hz : l[m] = z at hc2 hdm
      have HZ := Lib.hid hz
      clear hz
      clear hc1
      go_wp2_with fail
      go_region_held3 (fun w' => w'.cell? ⟨g, m, none⟩ = some (.int .i64 z)) (first | go_keep | exact hg1.cell hc2 (hb.ne_own hg2)) (first | (refine step_app3 (by rfl) (by rfl) (by rfl) (by rfl) w.heap.size hb (by have := Hbl.out; omega) hbel.size ?_; intro g1 cap1 w1 hb1 hg1))
      go_wp2
      go_roundw
      case rel => exact ⟨_, m, hb1, by omega, number_step (by omega) HZ.out hdm.1 hdm.2 Hval.out, by have := Hbl.out; simp; omega, rfl, hbel.grown hg1 hbel.size hb.own⟩
      case measure => first | (simp [intOf]; done) | (simp [intOf]; omega)
end Go.Proofs.YtkejjbpdhinkkaaDoor
