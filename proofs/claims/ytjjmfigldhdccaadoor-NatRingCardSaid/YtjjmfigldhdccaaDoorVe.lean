/- The binary digits of an exponent: package nat's iterator. -/
import Derived.RangeFuncNested
import Derived.RangeFuncBound
import Derived.RangeFuncCalls
import Derived.RangeFuncLeaves
import Derived.Shelf.Abstract
import Derived.Shelf.RegionOpen
import Derived.OwnWalkIn
import Derived.TacticsInMore
import Derived.LoopNIn
import Derived.LoopIn
import Derived.Test.YtjjmfigldhdccaaDoorV9
namespace Go.Proofs.YtjjmfigldhdccaaDoor
open Go.RowKit W Go.Shelf
attribute [local go_sem] Oper.semAt_some
/-- bit k of a digit -/
def bitOf (d : Int) (k : Nat) : Bool := bits BinOp.and IntKind.u32 (d / 2 ^ k) 1 == 1
/-- the first j bits of a digit, the greatest one first -/
def dbits (d : Int) (j : Nat) : List Bool := (List.range j).map fun i => bitOf d (31 - i)
def ebits : List Int → List Bool
  | [] => []
  | d :: t => ebits t ++ dbits d 32
theorem dbits_succ (d : Int) (j : Nat) : dbits d (j + 1) = dbits d j ++ [bitOf d (31 - j)] := by simp [dbits, List.range_succ]
theorem ebits_drop {l : List Int} {m : Nat} (h : m < l.length) : ebits (l.drop m) = ebits (l.drop (m + 1)) ++ dbits l[m] 32 := by rw [List.drop_eq_getElem_cons h]; rfl
theorem dbits_len (d : Int) (j : Nat) : (dbits d j).length = j := by simp [dbits]
theorem ebits_len : ∀ l : List Int, (ebits l).length = 32 * l.length
  | [] => rfl
  | d :: t => by rw [ebits, List.length_append, ebits_len t, dbits_len, List.length_cons]; omega
set_option maxHeartbeats 1000000 in
theorem nexponent_any (a : Option Addr) (n cap : Nat) (w : World) :
    Calls Tryd.prog 54 #[.slice a n cap] w fun e w' => e = .returned (.func (.func 77) #[] #[.pointer (some ⟨w.heap.size, 0, none⟩)]) ∧ w' = w.alloc (.cells #[.slice a n cap] 56) := by
  go_enter Tryd.func54, Tryd.ntmps54
  go_wp2
  go_ret
  exact ⟨rfl, rfl⟩
/-- what a round must keep: these blocks -/
def KeptAt (S : Nat → Prop) (W W' : World) : Prop := ∀ k, S k → W'.heap[k]? = W.heap[k]?
theorem KeptAt.t {S : Nat → Prop} {A B C : World} (h : KeptAt S A B) (k : KeptAt S B C) : KeptAt S A C := fun i hi => (k i hi).trans (h i hi)
theorem KeptAt.refl {S : Nat → Prop} (A : World) : KeptAt S A A := fun _ _ => rfl
theorem KeptAt.b {S : Nat → Prop} {w : World} (hS : ∀ k, S k → k < w.heap.size) (W : World) (l : Nat) (o o' : Obj) (hl : w.heap.size ≤ l) (_ : W.heap[l]? = some o) (_ : o.isCells = false) (_ : o.isWalk = false) : KeptAt S W (W.putObj l o') :=
  fun k hk => World.putObj_heap_other (by have := hS k hk; omega)
set_option maxRecDepth 100000 in
set_option maxHeartbeats 4000000 in
theorem exp1_in (F : Fence) (n : Nat) (hF : F.fn 77) (hro : F.round = none) (hn : 1 ≤ n) (l Bs : Nat) (v : Value) (es : List Int) (J Jx : List Bool → World → Prop) (hd : Dig es) (hlen : es.length ≤ 536870912)
    (hY : ∀ pre x W, J pre W → pre.length < 32 * es.length → YieldAt F (n - 1) Tryd.prog l #[.bool x] W fun e W' =>
      (e = .returned (.bool true) ∧ J (pre ++ [x]) W' ∧ KeptAt (fun k => k = Bs ∨ v.ownBlock = some k) W W') ∨ (e = .returned (.bool false) ∧ Jx (pre ++ [x]) W'))
    (W : World) (hB : W.cell? ⟨Bs, 0, none⟩ = some v) (hv : U32s W 0 v es) (h0 : J [] W) :
    CallsIn F n Tryd.prog 77 #[.func (.yield l) #[] #[], .pointer (some ⟨Bs, 0, none⟩)] W fun e W' => (∃ v, e = .returned v) ∧
      ((∃ ys, ys = ebits es ∧ J ys W') ∨ (∃ pre, True ∧ Jx pre W')) := by
  obtain ⟨a, cap, rfl, hc, hm, hcell⟩ := hv.open
  unfold maxLen at hm
  have Hcell := Lib.hid hcell
  clear hcell
  refine callsIn_of_wp Tryd.func77 rfl hF ?_ hro
  simp only [Tryd.ntmps77, List.size_toArray, List.length_cons, List.length_nil, Nat.reduceAdd, Nat.reduceSub, Array.replicate_succ, Array.replicate_zero, List.push_toArray, List.append_toArray, List.nil_append, List.cons_append]
  gi_wp2
  gi_loopw [3] (fun i wr => ∃ m : Nat, m ≤ es.length ∧ i = .int .i64 ((m : Int) - 1) ∧ J (ebits (es.drop m)) wr ∧ KeptAt (fun k => k = Bs ∨ (Value.slice a es.length cap).ownBlock = some k) W wr)
    (fun i _ => (intOf i + 1).toNat)
  case atStart => exact ⟨es.length, Nat.le_refl _, by simp, by rw [List.drop_length]; exact h0, KeptAt.refl _⟩
  case round =>
    obtain ⟨m, hml, rfl, hJ, hK⟩ := hrel
    have HJ := Lib.hid hJ
    have HK := Lib.hid hK
    clear hJ hK
    cases m with
    | zero =>
      gi_wp2
      go_end0
      exact ⟨⟨_, rfl⟩, .inl ⟨_, rfl, HJ.out⟩⟩
    | succ m =>
      have em : ((m + 1 : Nat) : Int) - 1 = m := by omega
      rw [em]
      clear em
      have h0' : (0 : Int) ≤ m := by omega
      have h1' : (m : Int) < es.length := by omega
      obtain ⟨g, hg1, hg2, rfl, hc1⟩ := Hcell.out m (by omega)
      have hz := hd.get m (by omega)
      have hed := ebits_drop (l := es) (m := m) (by omega)
      have hel := ebits_len (es.drop (m + 1))
      obtain ⟨z, hze⟩ : ∃ z, es[m] = z := ⟨_, rfl⟩
      rw [hze] at hc1 hz hed
      have HE := Lib.hid hed
      have HL := Lib.hid hel
      clear hze hed hel
      gi_wp2
      gi_loopw [4] (fun k wr => ∃ j : Nat, j ≤ 32 ∧ k = .int .i64 (31 - (j : Int)) ∧ J (ebits (es.drop (m + 1)) ++ dbits z j) wr ∧ KeptAt (fun k => k = Bs ∨ (Value.slice (some ⟨g, 0, none⟩) es.length cap).ownBlock = some k) W wr)
        (fun k _ => (intOf k + 1).toNat)
      case atStart => exact ⟨0, by omega, by simp, by simpa [dbits] using HJ.out, HK.out⟩
      case round =>
        obtain ⟨j, hj, rfl, hJ, hK⟩ := hrel
        have HJ2 := Lib.hid hJ
        have HK2 := Lib.hid hK
        have cB : wr.cell? ⟨Bs, 0, none⟩ = some (.slice (some ⟨g, 0, none⟩) es.length cap) := by
          rw [World.cell?_of_block (w := W) (hK Bs (.inl rfl))]; exact hB
        have cz : wr.cell? ⟨g, m, none⟩ = some (.int .u32 z) := by
          rw [World.cell?_of_block (w := W) (a := ⟨g, m, none⟩) (hK g (.inr rfl))]; exact hc1
        by_cases hlt : j < 32
        · obtain ⟨fn, tmps, assign, body, hy, hR⟩ := hY _ (bits BinOp.and IntKind.u32 (z / 2 ^ (31 - j)) 1 == 1) wr hJ (by rw [List.length_append, HL.out, dbits_len, List.length_drop]; omega)
          clear hJ hK
          have k0 : (0 : Int) ≤ 31 - (j : Int) := by omega
          have k1 : ((31 : Int) - (j : Int)).toNat = 31 - j := by omega
          gi_wp2
          refine hR.mono ?_
          rintro e W3 (⟨rfl, hJ3, hK3⟩ | ⟨rfl, hJx3⟩)
          · have HJ3 := Lib.hid (show J (ebits (es.drop (m + 1)) ++ dbits z (j + 1)) W3 from by rw [dbits_succ, ← List.append_assoc]; exact hJ3)
            have HK3 := Lib.hid (HK2.out.t hK3)
            clear hJ3 hK3
            gi_wp2
            go_roundw
            case rel => exact ⟨j + 1, by omega, by go_num, HJ3.out, HK3.out⟩
            case measure => simp [intOf]; omega
          · gi_wp2
            refine bodyPost_ret (results_none rfl _ _ _) rfl ?_
            exact ⟨⟨_, rfl⟩, .inr ⟨_, trivial, hJx3⟩⟩
        · clear hJ hK
          obtain rfl : j = 32 := by omega
          have HJ4 := Lib.hid (show J (ebits (es.drop m)) wr from by rw [HE.out]; exact HJ2.out)
          gi_wp2
          go_roundw
          case rel => exact ⟨m, by omega, rfl, HJ4.out, HK2.out⟩
          case measure => first | (simp [intOf]; done) | (simp [intOf]; omega)
/-- the iterator's contract -/
theorem exp_stops (F : Fence) (n : Nat) (hF : F.fn 77) (hro : F.round = none) (hn : 1 ≤ n) (Bs : Nat) (v : Value) (es : List Int) (hd : Dig es) (hlen : es.length ≤ 536870912) (w : World)
    (hB : w.cell? ⟨Bs, 0, none⟩ = some v) (hBs : Bs < w.heap.size) (hv : U32s w 0 v es) :
    SeqStopsK F n Tryd.prog 77 #[.pointer (some ⟨Bs, 0, none⟩)] (fun x : Bool => #[.bool x]) (KeptAt (fun k => k = Bs ∨ v.ownBlock = some k)) (fun xs => xs = ebits es) (fun _ => True) (32 * es.length) w :=
  fun l J Jx W hb _ _ hY h0 => exp1_in F n hF hro hn l Bs v es J Jx hd hlen hY W (by rw [hb.cell (p := ⟨Bs, 0, none⟩) hBs]; exact hB) (hv.below hb) h0
theorem bitOf_eq {d : Int} {k : Nat} (h0 : 0 ≤ d) (h1 : d < 4294967296) : bitOf d k = (d / 2 ^ k % 2 == 1) := by
  have hP : (0 : Int) < 2 ^ k := Int.pow_pos (by omega)
  have a0 : 0 ≤ d / 2 ^ k := Int.ediv_nonneg h0 (Int.le_of_lt hP)
  have a1 : d / 2 ^ k ≤ d := Int.ediv_le_self _ h0
  unfold bitOf
  have e := bits_mask .u32 32 (by decide) wraps_u32 1 (by decide) (d / 2 ^ k) a0 (by omega)
  rw [show (2 : Int) ^ 1 - 1 = 1 from rfl, show (2 : Int) ^ 1 = 2 from rfl] at e
  rw [e]
def bnat (l : List Bool) : Nat := l.foldl (fun a b => 2 * a + b.toNat) 0
theorem bnat_snoc (l : List Bool) (b : Bool) : bnat (l ++ [b]) = 2 * bnat l + b.toNat := by simp [bnat]
theorem bnat_dbits {l : List Bool} {d : Int} (h0 : 0 ≤ d) (h1 : d < 4294967296) : ∀ j : Nat, j ≤ 32 → (bnat (l ++ dbits d j) : Int) = 2 ^ j * bnat l + d / 2 ^ (32 - j)
  | 0, _ => by
    have : d / 2 ^ (32 - 0) = 0 := Int.ediv_eq_zero_of_lt h0 (by simpa using h1)
    rw [this]; simp [dbits]
  | j + 1, hj => by
    rw [dbits_succ, ← List.append_assoc, bnat_snoc, bitOf_eq h0 h1]
    have ih := bnat_dbits (l := l) h0 h1 j (by omega)
    have hP : (0 : Int) < 2 ^ (31 - j) := Int.pow_pos (by omega)
    have e1 : d / 2 ^ (32 - j) = d / 2 ^ (31 - j) / 2 := by
      rw [Int.ediv_ediv_of_nonneg (Int.le_of_lt hP), ← Int.pow_succ, show (31 - j).succ = 32 - j by omega]
    rw [show 32 - (j + 1) = 31 - j by omega, Int.natCast_add, Int.natCast_mul, ih, e1, Int.pow_succ]
    generalize d / 2 ^ (31 - j) = q
    have hb : (((q % 2 == 1).toNat : Nat) : Int) = q % 2 := by
      rcases (by omega : q % 2 = 0 ∨ q % 2 = 1) with h | h <;> rw [h] <;> rfl
    rw [hb]
    have e2 : ((2 : Nat) : Int) * (2 ^ j * ↑(bnat l) + q / 2) + q % 2 = 2 * (2 ^ j * ↑(bnat l)) + q := by
      have := Int.mul_ediv_add_emod q 2
      have e3 : ((2 : Nat) : Int) * (2 ^ j * ↑(bnat l) + q / 2) = 2 * (2 ^ j * ↑(bnat l)) + 2 * (q / 2) := by grind
      rw [e3]; omega
    rw [e2]; grind
theorem bnat_ebits : ∀ l : List Int, Dig l → (bnat (ebits l) : Int) = dv l
  | [], _ => rfl
  | d :: t, h => by
    have hh := h.head
    rw [ebits, bnat_dbits hh.1 hh.2 32 (Nat.le_refl _), bnat_ebits t h.tail]
    simp only [dv]
    simp
    omega
end Go.Proofs.YtjjmfigldhdccaaDoor
