/- Walks of package nat: Pow at even moduli. -/
import Derived.Test.YtjjmfigldhdccaaDoorVe
namespace Go.Proofs.YtjjmfigldhdccaaDoor
open Go.RowKit W Go.Shelf
open Pl (bv nb bv_nb nb_bv_size bv_lt cmpN)
attribute [local go_sem] Oper.semAt_some
/-- a variable's box that holds a row of digits -/
def HB (W : World) (b : Nat) (l : List Int) : Prop := ∃ v, Boxed W b 56 v ∧ U32s W 0 v l ∧ True
theorem HB.below {W W' : World} {b : Nat} {l : List Int} (h : HB W b l) (hb : Below W.heap.size W W') : HB W' b l := by
  obtain ⟨v, h1, h2, _⟩ := h
  exact ⟨v, (hb.block b h1.lt).trans h1, h2.below hb, trivial⟩
theorem HB.alloc {W : World} {b : Nat} {l : List Int} (h : HB W b l) (o : Obj) : HB (W.alloc o) b l := h.below ((Below.refl _ W).alloc (Nat.le_refl _) o)
theorem HB.lt {W : World} {b : Nat} {l : List Int} (h : HB W b l) : b < W.heap.size := by obtain ⟨v, h1, _⟩ := h; exact h1.lt
theorem box_ne_row {W : World} {b B : Nat} {u v : Value} {l : List Int} (h : Boxed W b 56 u) (hr : U32s W B v l) : some b ≠ v.ownBlock := h.not_row (by decide) hr
theorem HB.other {W : World} {b b' : Nat} {l : List Int} {u v : Value} (h : HB W b l) (hne : b ≠ b') (h' : Boxed W b' 56 u) : HB (W.setCell ⟨b', 0, none⟩ v) b l := by
  obtain ⟨x, h1, h2, _⟩ := h
  exact ⟨x, h1.other hne v, h2.kept (grownBy_setCell' W b' v) (.inr (box_ne_row h' h2).symm), trivial⟩
theorem HB.put {W : World} {b : Nat} {l : List Int} {u v : Value} (h' : Boxed W b 56 u) (hv : U32s W 0 v l) : HB (W.setCell ⟨b, 0, none⟩ v) b l :=
  ⟨v, h'.set v, hv.kept (grownBy_setCell' W b v) (.inr (box_ne_row h' hv).symm), trivial⟩
theorem U32s.other {W : World} {B b : Nat} {l : List Int} {u v x : Value} (h : U32s W B x l) (h' : Boxed W b 56 u) : U32s (W.setCell ⟨b, 0, none⟩ v) B x l := h.kept (grownBy_setCell' W b v) (.inr (box_ne_row h' h).symm)
theorem box_below {W W' : World} {b : Nat} {u : Value} (h : Boxed W b 56 u) (hb : Below W.heap.size W W') : Boxed W' b 56 u := (hb.block b h.lt).trans h
/-- the modulus in its box, the exponent, and the world behind -/
structure PF (w W : World) (b8 : Nat) (vm ve : Value) (lm le : List Int) : Prop where
  box : Boxed W b8 56 vm
  rm : U32s W 0 vm lm
  re : U32s W 0 ve le
  bel : Below w.heap.size w W
theorem PF.plain {w W W' : World} {b8 : Nat} {vm ve : Value} {lm le : List Int} (h : PF w W b8 vm ve lm le) (hb : Below W.heap.size W W') : PF w W' b8 vm ve lm le :=
  ⟨box_below h.box hb, h.rm.below hb, h.re.below hb, h.bel.trans (hb.mono h.bel.size)⟩
theorem PF.al {w W : World} {b8 : Nat} {vm ve : Value} {lm le : List Int} (h : PF w W b8 vm ve lm le) (o : Obj) : PF w (W.alloc o) b8 vm ve lm le := h.plain ((Below.refl _ W).alloc (Nat.le_refl _) o)
theorem PF.other {w W : World} {b8 b : Nat} {vm ve u : Value} {lm le : List Int} (h : PF w W b8 vm ve lm le) (hb : Boxed W b 56 u) (hne : b8 ≠ b) (hw : w.heap.size ≤ b) (v : Value) : PF w (W.setCell ⟨b, 0, none⟩ v) b8 vm ve lm le :=
  ⟨h.box.other hne v, h.rm.other hb, h.re.other hb, h.bel.setCell (p := ⟨b, 0, none⟩) hw v⟩
/-- a box made in between -/
structure NB (w W : World) (b8 b : Nat) : Prop where
  box : Boxed W b 56 (.slice none 0 0)
  ne : b8 ≠ b
  low : w.heap.size ≤ b
theorem NB.plain {w W W' : World} {b8 b : Nat} (h : NB w W b8 b) (hb : Below W.heap.size W W') : NB w W' b8 b := ⟨box_below h.box hb, h.ne, h.low⟩
theorem NB.new {w W : World} {b8 : Nat} {vm ve : Value} {lm le : List Int} (h : PF w W b8 vm ve lm le) : NB w (W.alloc (.cells #[.slice none 0 0] 56)) b8 W.heap.size :=
  ⟨Boxed.new W _ _, Nat.ne_of_lt h.box.lt, h.bel.size⟩
theorem grownBy_of_below {W W' : World} {row : Option Nat} (h : Below W.heap.size W W') : W.grownBy W' row := ⟨h.os, h.tape, h.output, h.size, fun k hk _ => h.block k hk⟩
/-- what the loop's body holds in a world -/
structure BF (w0 W W' : World) (b13 b8 b11 : Nat) (v13 vm vb : Value) (N M A : Nat) : Prop where
  br : Boxed W' b13 56 v13
  bm : Boxed W' b8 56 vm
  bb : Boxed W' b11 56 vb
  rr : U32s W' 0 v13 (digs N)
  rm : U32s W' 0 vm (digs M)
  rb : U32s W' 0 vb (digs A)
  bel : Below w0.heap.size w0 W'
  gr : W.grownBy W' (some b13)
theorem BF.below {w0 W W' W2 : World} {b13 b8 b11 N M A : Nat} {v13 vm vb : Value} (h : BF w0 W W' b13 b8 b11 v13 vm vb N M A) (hb : Below W'.heap.size W' W2) : BF w0 W W2 b13 b8 b11 v13 vm vb N M A :=
  ⟨box_below h.br hb, box_below h.bm hb, box_below h.bb hb, h.rr.below hb, h.rm.below hb, h.rb.below hb, h.bel.trans (hb.mono h.bel.size), grownBy_trans h.gr (grownBy_of_below hb)⟩
theorem BF.store {w0 W W' : World} {b13 b8 b11 N N' M A : Nat} {v13 vm vb v : Value} (h : BF w0 W W' b13 b8 b11 v13 vm vb N M A) (hv : U32s W' 0 v (digs N')) (h8 : b8 ≠ b13) (h11 : b11 ≠ b13) (hw : w0.heap.size ≤ b13) :
    BF w0 W (W'.setCell ⟨b13, 0, none⟩ v) b13 b8 b11 v vm vb N' M A :=
  ⟨h.br.set v, h.bm.other h8 v, h.bb.other h11 v, hv.other h.br, h.rm.other h.br, h.rb.other h.br, h.bel.setCell (p := ⟨b13, 0, none⟩) hw v, grownBy_trans h.gr (grownBy_setCell' W' b13 v)⟩
theorem BF.fin {w0 W W2 : World} {b13 b8 b11 N M A : Nat} {v13 vm vb u : Value} (h : BF w0 W W2 b13 b8 b11 v13 vm vb N M A) (hb : Boxed W b13 56 u) {S : Nat → Prop} (hS : ∀ k, S k → k < W.heap.size ∧ k ≠ b13) : KeepsOthers W W2 ∧ KeptAt S W W2 :=
  ⟨KeepsOthers.of_grownBy h.gr (fun j o ej hj => by cases ej; rw [show W.heap[b13]? = _ from hb] at hj; cases hj; rfl), fun k hk => h.gr.block k (hS k hk).1 (fun e => (hS k hk).2 (by cases e; rfl))⟩
theorem pw_sq (a n m : Nat) : a ^ (2 * n + false.toNat) % m = (a ^ n % m) * (a ^ n % m) % m := by
  rw [← Nat.mul_mod, ← Nat.pow_add]; congr 2; simp; omega
theorem pw_odd (a n m : Nat) : a ^ (2 * n + true.toNat) % m = (a ^ n % m) * (a ^ n % m) % m * (a % m) % m := by
  rw [← pw_sq, ← Nat.mul_mod, ← Nat.pow_succ]; rfl
theorem wpIn_cut5 {F : Fence} {n : Nat} {P : Program} {c : Code} {Q : Exit → Act → World → Prop} {a : Act} {w : World} (i1 i2 i3 i4 i5 : Nat) (R : World → Prop)
    (h1 : c.wpIn F n P (fun e a' w' => e = .normal ∧ (∃ t1 t2 t3 t4 t5 : Value, a' = { tmps := ((((a.tmps.setIfInBounds i1 t1).setIfInBounds i2 t2).setIfInBounds i3 t3).setIfInBounds i4 t4).setIfInBounds i5 t5, defers := a.defers }) ∧ R w') a w)
    (h2 : ∀ (t1 t2 t3 t4 t5 : Value) (w' : World), R w' → Q .normal { tmps := ((((a.tmps.setIfInBounds i1 t1).setIfInBounds i2 t2).setIfInBounds i3 t3).setIfInBounds i4 t4).setIfInBounds i5 t5, defers := a.defers } w') : c.wpIn F n P Q a w :=
  wpIn_mono h1 (fun e a' w' h => by obtain ⟨rfl, ⟨t1, t2, t3, t4, t5, rfl⟩, hR⟩ := h; exact h2 t1 t2 t3 t4 t5 w' hR)
theorem digit0 {m : Nat} (h : m ≠ 0) : ∃ h0 : 0 < (digs m).length, (digs m)[0] = ((m % 4294967296 : Nat) : Int) := by
  have e := digs_pos h
  have hl : 0 < (digs m).length := by rw [e]; simp
  refine ⟨hl, ?_⟩
  have : (digs m)[0]? = some ((m % 4294967296 : Nat) : Int) := by rw [e]; rfl
  rw [List.getElem?_eq_getElem hl] at this
  exact Option.some.inj this
theorem prod_len {X Y : Nat} (hx : (digs X).length ≤ 33554432) (hy : (digs Y).length ≤ 33554432) : (digs (X * Y)).length ≤ 536870912 := by
  have h1 := digs_length_le.1 (Nat.le_refl (digs X).length)
  have h2 := digs_length_le.1 (Nat.le_refl (digs Y).length)
  have h3 : (digs (X * Y)).length ≤ (digs X).length + (digs Y).length := by
    refine digs_length_le.2 ?_
    rw [Nat.pow_add]
    exact Nat.mul_lt_mul_of_lt_of_lt h1 h2
  omega
set_option maxRecDepth 100000 in
set_option maxHeartbeats 4000000 in
theorem npow_even (s e m : ByteArray) (w : World) (hs : s.size ≤ 33554432) (he : e.size ≤ 33554432) (hm : m.size ≤ 33554432) (h0 : 0 < bv m) (hev : bv m % 2 = 0) :
    Calls Tryd.prog 24 #[.string s, .string e, .string m] w fun en w' => en = .returned (.tuple #[.string (nb (bv s ^ bv e % bv m)), .bool true]) ∧ Below w.heap.size w w' := by
  have l1 := digs_len_bv s
  have l2 := digs_len_bv e
  have l3 := digs_len_bv m
  obtain ⟨hp, hd0⟩ := digit0 (show bv m ≠ 0 by omega)
  have HD0 := Lib.hid hd0
  clear hd0
  refine (callsIn_wide (n := 9)).1 ?_
  refine callsIn_of_wp_marks Tryd.func24 rfl trivial ?_ rfl
  simp only [Tryd.ntmps24, List.size_toArray, List.length_cons, List.length_nil, Nat.reduceAdd, Nat.reduceSub, Array.replicate_succ, Array.replicate_zero, List.push_toArray, List.append_toArray, List.nil_append, List.cons_append]
  refine wpIn_wide.2 ?_
  go_wp2_with fail
  refine (limbs_any m _ (by omega)).mono ?_
  rintro en w1 ⟨⟨vm, rfl, hvm⟩, hb1⟩
  go_wp2_with fail
  refine (limbs_any e _ (by omega)).mono ?_
  rintro en w2 ⟨⟨ve, rfl, hve⟩, hb2⟩
  obtain ⟨ae, ce, rfl, hce1, hce2, hce3⟩ := hve.open
  clear hce3
  have hb12 := hb1.trans (hb2.mono hb1.size)
  have hvm2 := hvm.extend hb2
  obtain ⟨am, cm, rfl, hcm, hmm, hcellm⟩ := hvm2.open
  obtain ⟨gm, hgm1, hgm2, rfl, hcm0⟩ := hcellm 0 hp
  rw [HD0.out] at hcm0
  clear hcellm
  have hb3 := hb12.alloc hb12.size (.cells #[.slice (some ⟨gm, 0, none⟩) (digs (bv m)).length cm] 56)
  have hvm3 := hvm2.alloc (.cells #[.slice (some ⟨gm, 0, none⟩) (digs (bv m)).length cm] 56)
  have hve3 := hve.alloc (.cells #[.slice (some ⟨gm, 0, none⟩) (digs (bv m)).length cm] 56)
  have hmod : bits BinOp.and IntKind.u32 ((bv m % 4294967296 : Nat) : Int) 1 = 0 := by
    have e := bits_mask .u32 32 (by decide) wraps_u32 1 (by decide) ((bv m % 4294967296 : Nat) : Int) (by omega) (by omega)
    rw [show (2 : Int) ^ 1 - 1 = 1 from rfl, show (2 : Int) ^ 1 = 2 from rfl] at e
    rw [e]; omega
  have hlt := World.size_alloc w2 (.cells #[.slice (some ⟨gm, 0, none⟩) (digs (bv m)).length cm] 56)
  have hc8 := cell_new w2 (.slice (some ⟨gm, 0, none⟩) (digs (bv m)).length cm) 56
  have hcm3 : (w2.alloc (.cells #[.slice (some ⟨gm, 0, none⟩) (digs (bv m)).length cm] 56)).cell? ⟨gm, 0, none⟩ = some (.int .u32 ((bv m % 4294967296 : Nat) : Int)) := by
    rw [((Below.refl _ w2).alloc (Nat.le_refl _) (.cells #[.slice (some ⟨gm, 0, none⟩) (digs (bv m)).length cm] 56)).cell (p := ⟨gm, 0, none⟩) hgm2]; exact hcm0
  obtain ⟨q, hq⟩ : ∃ q : Int, ((bv m % 4294967296 : Nat) : Int) = q := ⟨_, rfl⟩
  rw [hq] at hcm3 hmod
  have hq0 : 0 ≤ q := by omega
  have hq1 : q < 4294967296 := by omega
  clear hq hcm0
  have hbx8 := Boxed.new w2 56 (.slice (some ⟨gm, 0, none⟩) (digs (bv m)).length cm)
  go_upto_region 6 with fail
  clear hcm3 hc8 hlt hmod
  generalize w2.alloc (.cells #[.slice (some ⟨gm, 0, none⟩) (digs (bv m)).length cm] 56) = w3 at *
  have hve4 := hve3.low (Nat.zero_le _)
  have h8w : w.heap.size ≤ w2.heap.size := hb12.size
  generalize w2.heap.size = b8 at *
  clear hve3 hvm2 hve hvm
  have hwd : Below w3.heap.size w3 w3.drew := (Below.refl _ _).drew
  have hpf : PF w w3.drew b8 (.slice (some ⟨gm, 0, none⟩) (digs (bv m)).length cm) (.slice ae (digs (bv e)).length ce) (digs (bv m)) (digs (bv e)) := ⟨box_below hbx8 hwd, hvm3.below hwd, hve4.below hwd, hb3.drew⟩
  have hpf3 : PF w w3 b8 (.slice (some ⟨gm, 0, none⟩) (digs (bv m)).length cm) (.slice ae (digs (bv e)).length ce) (digs (bv m)) (digs (bv e)) := ⟨hbx8, hvm3, hve4, hb3⟩
  have hpfz : PF w (w3.alloc (.cells #[.slice none 0 0] 56)).drew b8 (.slice (some ⟨gm, 0, none⟩) (digs (bv m)).length cm) (.slice ae (digs (bv e)).length ce) (digs (bv m)) (digs (bv e)) := (hpf3.al _).plain (Below.refl _ _).drew
  have hnbz : NB w (w3.alloc (.cells #[.slice none 0 0] 56)).drew b8 w3.heap.size := (NB.new hpf3).plain (Below.refl _ _).drew
  clear hvm3 hve4 hbx8
  go_cut [10, 11] from 21 to 39 (fun _ s11 wx => ∃ b11 : Nat, s11 = .pointer (some ⟨b11, 0, none⟩) ∧ HB wx b11 (digs (bv s % bv m)) ∧ b8 ≠ b11 ∧ w.heap.size ≤ b11 ∧ PF w wx b8 (.slice (some ⟨gm, 0, none⟩) (digs (bv m)).length cm) (.slice ae (digs (bv e)).length ce) (digs (bv m)) (digs (bv e)))
  case first =>
    go_region_held3 (fun w' => w'.cell? ⟨b8, 0, none⟩ = some (.slice (some ⟨gm, 0, none⟩) (digs (bv m)).length cm)) (first | with_reducible exact hpf.box.cell | with_reducible exact hpfz.box.cell | with_reducible exact (hpf.al _).box.cell | with_reducible exact (hpf.other hnb.box hnb.ne hnb.low _).box.cell | go_keep) (first | (go_at_call 42; refine (limbs_any s _ (by omega)).mono ?_; rintro en wA ⟨⟨vA, rfl, hvA⟩, hbA⟩; (first | (have hpf := (by with_reducible exact hpf.plain hbA)) | (have hnb := (by with_reducible exact hnbz.plain hbA); have hzc := hnb.box.cell; have hzf := hnb.box.frozen; have hpf := hpfz.plain hbA))) | (go_at_call 48; refine (ndivide_any (bv s) (bv m) _ _ _ (by first | with_reducible exact hvA.low (Nat.zero_le _) | with_reducible exact (hvA.low (Nat.zero_le _)).alloc _) (by first | with_reducible exact hpf.rm | with_reducible exact (hpf.al _).rm) h0 (by omega)).mono ?_; rintro en wB ⟨⟨vQ, vR, rfl, hvQ, hvR⟩, hbB⟩; obtain ⟨aR, cR, rfl, hcR1, hcR2, hcR3⟩ := hvR.open; clear hcR3; (first | (have hpf := (by with_reducible exact hpf.plain hbB); (first | (have hnb : NB w wB b8 w3.heap.size := hnb.plain hbB; have hzc := hnb.box.cell; have hzf := hnb.box.frozen) | skip)) | (have hnb : NB w wB b8 wA.heap.size := (NB.new hpf).plain hbB; have hzc := hnb.box.cell; have hzf := hnb.box.frozen; have hpf := (hpf.al (.cells #[.slice none 0 0] 56)).plain hbB))))
    all_goals go_wp2
    all_goals go_meet
    all_goals case rel => first
      | exact ⟨wB.heap.size, rfl, ⟨_, Boxed.new _ _ _, hvR.alloc _, trivial⟩, Nat.ne_of_lt hpf.box.lt, hpf.bel.size, hpf.al _⟩
      | exact ⟨_, rfl, HB.put hnb.box hvR, hnb.ne, hnb.low, hpf.other hnb.box hnb.ne hnb.low _⟩
  case rest =>
    clear hpf hpf3 hpfz hnbz hwd hb3
    obtain ⟨b11, rfl, hB11, hne11, hlow11, hpf⟩ := hcut
    have e1 : digs 1 = [(1 : Int)] := by rw [digs_pos (by omega)]; simp [digs_zero]
    have hlit := U32s.lit1 wc 0 1 (Nat.zero_le _)
    have hl1 : (digs 1).length ≤ 536870912 := by rw [e1]; simp
    rw [← e1] at hlit
    have hpf1 := hpf.al (.cells #[.int .u32 1] 52)
    have hcc := hpf1.box.cell
    have hB1 := hB11.alloc (.cells #[.int .u32 1] 52)
    clear e1
    go_wp2_with fail
    refine (ndivide_any 1 (bv m) _ _ _ hlit hpf1.rm h0 hl1).mono ?_
    rintro en wD ⟨⟨vQ, vR, rfl, hvQ, hvR⟩, hbD⟩
    obtain ⟨aR, cR, rfl, hcR1, hcR2, hcR3⟩ := hvR.open
    clear hcR3 hlit hcc
    have hpf2 := hpf1.plain hbD
    have hB2 := hB1.below hbD
    clear hpf hpf1 hB11 hB1
    go_wp2_with (go_at_call 54; refine (nexponent_any _ _ _ _).mono ?_; rintro en wE ⟨rfl, rfl⟩)
    have hlow8 := h8w
    have hne13 : b8 ≠ wD.heap.size := Nat.ne_of_lt hpf2.box.lt
    have hne13' : b11 ≠ wD.heap.size := Nat.ne_of_lt hB2.lt
    have hlow13 := hpf2.bel.size
    have hpf3 := hpf2.al (.cells #[.slice aR (digs (1 % bv m)).length cR] 56)
    have hB3 := hB2.alloc (.cells #[.slice aR (digs (1 % bv m)).length cR] 56)
    have hR3 : HB (wD.alloc (.cells #[.slice aR (digs (1 % bv m)).length cR] 56)) wD.heap.size (digs (1 % bv m)) := ⟨_, Boxed.new _ _ _, hvR.alloc _, trivial⟩
    have hsz3 := World.size_alloc wD (.cells #[.slice aR (digs (1 % bv m)).length cR] 56)
    clear hpf2 hB2
    generalize wD.heap.size = b13 at *
    generalize wD.alloc (.cells #[.slice aR (digs (1 % bv m)).length cR] 56) = wE at *
    have hpf4 := hpf3.al (.cells #[.slice ae (digs (bv e)).length ce] 56)
    have hB4 := hB3.alloc (.cells #[.slice ae (digs (bv e)).length ce] 56)
    have hR4 := hR3.alloc (.cells #[.slice ae (digs (bv e)).length ce] 56)
    have hE4 := Boxed.new wE 56 (.slice ae (digs (bv e)).length ce)
    rw [hsz3] at hE4
    clear hpf3 hB3 hR3
    generalize wE.alloc (.cells #[.slice ae (digs (bv e)).length ce] 56) = wF at *
    refine (wpIn_wide (n := 9)).1 ?_
    have hneE := box_ne_row hR4.choose_spec.1 hpf4.re
    apply wpIn_rangeFunc_ownF (F := Fence.wide) rfl (by omega) (gf := 77) (lb := #[.pointer (some ⟨b13 + 1, 0, none⟩)]) rfl trivial (enters_of Tryd.func77 (by kernel_rfl) rfl)
      (exp_stops Fence.wide (9 - 1) trivial rfl (by omega) (b13 + 1) (.slice ae (digs (bv e)).length ce) (digs (bv e)) (digs_dig _) (by omega) wF hE4.cell hE4.lt hpf4.re)
      KeptAt.t (KeptAt.b (fun k hk => by rcases hk with rfl | hk; exact hE4.lt; exact hpf4.re.lt k hk)) (Below.refl _ _) (fun _ => rfl)
      (fun pre W => (HB W b13 (digs (bv s ^ bnat pre % bv m)) ∧ HB W b8 (digs (bv m))) ∧ ((HB W b11 (digs (bv s % bv m)) ∧ Below w.heap.size w W) ∧ wF.heap.size ≤ W.heap.size))
      (fun _ _ _ => False)
      (OwnFrom.and (OwnFrom.and (Own.from (holdsRow_own 0 b13 _ _ 1 (fun pre => (digs (bv s ^ bnat pre % bv m)).length) (fun pre => (digs (bv s ^ bnat pre % bv m)).map (Value.int .u32)) (fun _ _ => True)) _) (Own.from (holdsRow_own 0 b8 _ _ 1 (fun _ => (digs (bv m)).length) (fun _ => (digs (bv m)).map (Value.int .u32)) (fun _ _ => True)) _)) (OwnFrom.and (OwnFrom.and (Own.from (holdsRow_own 0 b11 _ _ 1 (fun _ => (digs (bv s % bv m)).length) (fun _ => (digs (bv s % bv m)).map (Value.int .u32)) (fun _ _ => True)) _) (ownFrom_below (Nat.le_refl _) hpf4.bel.size)) (fun _ _ _ _ hs hg _ => Nat.le_trans hs hg.size)))
      (fun _ _ _ _ _ hs _ _ => hs)
      ⟨⟨hR4, ⟨_, hpf4.box, hpf4.rm, trivial⟩⟩, ⟨hB4, hpf4.bel⟩, Nat.le_refl _⟩
    case hassign =>
      intro l x W K hK
      gi_wp2
      exact hK
    case hbody =>
      rintro l pre x W ⟨⟨hR, hM⟩, ⟨hBs, hbel⟩, hszW⟩ hpre
      obtain ⟨vr, br, hr, _⟩ := hR
      obtain ⟨vm, bm, hm5, _⟩ := hM
      obtain ⟨vb, bb, hb5, _⟩ := hBs
      obtain ⟨N, hN⟩ : ∃ N, N = bv s ^ bnat pre % bv m := ⟨_, rfl⟩
      rw [← hN] at hr
      have hNl : (digs N).length ≤ 33554432 := by
        have := digs_len_mono (show N ≤ bv m by rw [hN]; exact Nat.le_of_lt (Nat.mod_lt _ h0))
        omega
      have hAl : (digs (bv s % bv m)).length ≤ 33554432 := by have := digs_len_mono (Nat.mod_le (bv s) (bv m)); omega
      have hM2 : ∀ X : Nat, X ≤ bv m → (digs X).length ≤ 33554432 := fun X hX => by have := digs_len_mono hX; omega
      have HN := Lib.hid hN
      clear hN
      have hbf : BF w W W b13 b8 b11 vr vm vb N (bv m) (bv s % bv m) := ⟨br, bm, bb, hr, hm5, hb5, hbel, World.grownBy.refl _ _⟩
      have hbd := hbf.below (Below.refl _ W).drew
      have cc1 := br.cell
      have cc2 := br.frozen
      have cc3 := bm.cell
      have cc4 := bb.cell
      have hSk : ∀ k, (k = b13 + 1 ∨ (Value.slice ae (digs (bv e)).length ce).ownBlock = some k) → k < W.heap.size ∧ k ≠ b13 := fun k hk => by
        rcases hk with rfl | hk
        · exact ⟨Nat.lt_of_lt_of_le hE4.lt hszW, by omega⟩
        · exact ⟨Nat.lt_of_lt_of_le (hpf4.re.lt k hk) hszW, fun e9 => hneE (by rw [hk, e9])⟩
      have hmx : Tryd.prog.follows .mixedOrders = true := by kernel_rfl
      have hd : 1 ≤ 9 - 1 - 1 := by omega
      clear br bm bb hr hm5 hb5 hbel
      gi_wp2
      refine wpIn_cut5 49 50 51 52 53 (fun w' => ∃ v', BF w W w' b13 b8 b11 v' vm vb (N * N % bv m) (bv m) (bv s % bv m)) ?_ ?_
      · gi_region_with_o (first | (refine ⟨trivial, ?_⟩; gi_at_call 56; refine (CallsIn.inRound l (callsIn_wide.2 (nproduct_any N N _ _ _ hbd.rr hbd.rr hNl hNl))).mono ?_; rintro en wP ⟨⟨vP, rfl, hvP⟩, hbP⟩; have hbfP := hbd.below hbP; have e1 := hbfP.br.cell; have e2 := hbfP.br.frozen; have e3 := hbfP.bm.cell) | (refine ⟨trivial, ?_⟩; gi_at_call 55; refine (CallsIn.inRound l (callsIn_wide.2 (nrest_any (N * N) (bv m) _ _ _ hvP hbfP.rm h0 (prod_len hNl hNl)))).mono ?_; rintro en wR ⟨⟨vR2, rfl, hvR2⟩, hbR⟩; have hbfR := hbfP.below hbR; have f1 := hbfR.br.cell; have f2 := hbfR.br.frozen; obtain ⟨aX, cX, rfl, hcX1, hcX2, hcX3⟩ := hvR2.open; clear hcX3))
        all_goals exact ⟨rfl, ⟨_, _, _, _, _, rfl⟩, _, hbfR.store hvR2 hne13 hne13' hlow13⟩
      · rintro t1 t2 t3 t4 t5 w2' ⟨v', hbf2⟩
        obtain ⟨aY, cY, rfl, hcY1, hcY2, hcY3⟩ := hbf2.rr.open
        clear hcY3 cc1 cc2 cc3 cc4
        simp only [List.setIfInBounds_toArray, List.set_cons_succ, List.set_cons_zero]
        cases x with
        | false =>
          have hpw : bv s ^ (2 * bnat pre + false.toNat) % bv m = N * N % bv m := by rw [HN.out]; exact pw_sq _ _ _
          gi_wp2
          exact ⟨(hbf2.fin hbf.br hSk).1, (hbf2.fin hbf.br hSk).2, ⟨⟨_, hbf2.br, by rw [bnat_snoc, hpw]; exact hbf2.rr, trivial⟩, ⟨_, hbf2.bm, hbf2.rm, trivial⟩⟩, ⟨⟨_, hbf2.bb, hbf2.rb, trivial⟩, hbf2.bel⟩, Nat.le_trans hszW hbf2.gr.size⟩
        | true =>
          have hpw : bv s ^ (2 * bnat pre + true.toNat) % bv m = N * N % bv m * (bv s % bv m) % bv m := by rw [HN.out]; exact pw_odd _ _ _
          have hN2l : (digs (N * N % bv m)).length ≤ 33554432 := hM2 _ (Nat.le_of_lt (Nat.mod_lt _ h0))
          obtain ⟨N2, hN2⟩ : ∃ N2, N2 = N * N % bv m := ⟨_, rfl⟩
          obtain ⟨A, hA⟩ : ∃ A, A = bv s % bv m := ⟨_, rfl⟩
          rw [← hN2] at hN2l
          rw [← hA] at hAl
          rw [← hN2, ← hA] at hbf2 hpw
          have HPW := Lib.hid hpw
          have HA := Lib.hid hA
          clear hpw hN2 hA
          have hbd2 := hbf2.below (Below.refl _ w2').drew
          have cc1 := hbf2.br.cell
          have cc2 := hbf2.br.frozen
          have cc3 := hbf2.bm.cell
          have cc4 := hbf2.bb.cell
          clear hbd
          gi_wp2
          gi_region_with_o (first | (refine ⟨trivial, ?_⟩; gi_at_call 56; refine (CallsIn.inRound l (callsIn_wide.2 (nproduct_any N2 A _ _ _ hbd2.rr hbd2.rb hN2l hAl))).mono ?_; rintro en wP ⟨⟨vP, rfl, hvP⟩, hbP⟩; have hbfP := hbd2.below hbP; have e1 := hbfP.br.cell; have e2 := hbfP.br.frozen; have e3 := hbfP.bm.cell) | (refine ⟨trivial, ?_⟩; gi_at_call 55; refine (CallsIn.inRound l (callsIn_wide.2 (nrest_any (N2 * A) (bv m) _ _ _ hvP hbfP.rm h0 (prod_len hN2l hAl)))).mono ?_; rintro en wR ⟨⟨vR2, rfl, hvR2⟩, hbR⟩; have hbfR := hbfP.below hbR; have f1 := hbfR.br.cell; have f2 := hbfR.br.frozen; obtain ⟨aX, cX, rfl, hcX1, hcX2, hcX3⟩ := hvR2.open; clear hcX3))
          all_goals gi_wp2
          all_goals have hbf2 := hbfR.store hvR2 hne13 hne13' hlow13
          all_goals exact ⟨(hbf2.fin hbf.br hSk).1, (hbf2.fin hbf.br hSk).2, ⟨⟨_, hbf2.br, by rw [bnat_snoc, HPW.out]; exact hbf2.rr, trivial⟩, ⟨_, hbf2.bm, hbf2.rm, trivial⟩⟩, ⟨⟨_, hbf2.bb, by rw [← HA.out]; exact hbf2.rb, trivial⟩, hbf2.bel⟩, Nat.le_trans hszW hbf2.gr.size⟩
    case hdone =>
      rintro D xs W hD rfl ⟨⟨⟨vr, br, hr, _⟩, hM⟩, ⟨hBs, hbel⟩, hszW⟩ hK
      have cc1 := br.cell
      have hrd := digs_dig (bv s ^ bnat (ebits (digs (bv e))) % bv m)
      have hrl := digs_len_mono (Nat.le_of_lt (Nat.mod_lt (bv s ^ bnat (ebits (digs (bv e)))) h0))
      have HE := Lib.hid (show (dv (digs (bv s ^ bnat (ebits (digs (bv e))) % bv m))).toNat = bv s ^ bv e % bv m from by
        have e7 := bnat_ebits _ (digs_dig (bv e))
        rw [dv_digs] at e7
        rw [dv_digs, Int.toNat_natCast, Int.ofNat_inj.1 e7])
      go_wp2_with (go_at_call 43; refine (nnumber_any _ _ _ _ hrd hr (by omega)).mono ?_; rintro en wN ⟨rfl, hbN⟩)
      have hK' : wN.heap[D]? = some (.deferred (some [])) := (hbN.block D (Array.getElem?_eq_some_iff.1 hK).1).trans hK
      refine ⟨by simp, .inl ⟨_, _, rfl, run_takeDeferred hK', ?_⟩⟩
      refine ⟨.tuple #[.string (nb (bv s ^ bv e % bv m)), .bool true], by simp [results, Tryd.results24, go_sem, HE.out], rfl, ?_⟩
      have hbW := hbel.trans (hbN.mono hbel.size)
      exact hbW.trans (belowK_b (w := w) (Nat.le_refl _) wN D _ _ (by have := hpf4.bel.size; omega) hK' rfl rfl)
    case hstop =>
      rintro D c pre W _ _ h _
      exact h.elim
end Go.Proofs.YtjjmfigldhdccaaDoor
