/- Parts of the proofs about this seat's statements. -/
import Derived.Test.YtmacnhjbjembiaaGreatDoorY1234567d
import Derived.Lib.Repeat
import Derived.Deep.Cut
import Derived.Deep.DeepCutAuto
namespace Go.Proofs.YtmacnhjbjembiaaGreatDoor
open Go.RowKit W
open Pl (bv nb bv_nb nb_bv_size bv_lt cmpN)
theorem ndivide_any (X Y : Nat) (vx vy : Value) (w : World) (hx : U32s w 0 vx (digs X)) (hy : U32s w 0 vy (digs Y)) (h0 : 0 < Y) (hlen : (digs X).length ≤ 536870912) :
  Calls Tryz.prog 155 #[vx, vy] w fun e w' => RetDiv X Y e w' ∧ Below w.heap.size w w' := by
 rcases Nat.lt_or_ge X Y with h | h
 ·exact ndivide_less X Y vx vy w hx hy h
 ·have hn : digs Y ≠ [] := fun e => by have := digs_eq_nil.1 e; omega
  have hp : 0 < (digs Y).length := List.length_pos_iff.2 hn
  rcases (by omega : (digs Y).length = 1 ∨ 2 ≤ (digs Y).length) with h1 | h1
  ·have := digs_length_le (n := Y) (k := 1)
   exact ndivide_one X Y vx vy w hx hy h h0 (by rw [h1] at this; simpa using this) (by omega)
  ·exact ndivide_many X Y ((digs Y).length - 2) vx vy w hx hy h (by omega) hlen
theorem digs_zero_len {Y : Nat} (h : Y = 0) : (digs Y).length = 0 := by rw [h, digs_zero]; rfl
set_option maxRecDepth 100000 in
set_option maxHeartbeats 2000000 in
theorem nquo_any (s t : ByteArray) (w : World) (hs : s.size ≤ 536870912) (ht : t.size ≤ 4294967296) (h0 : 0 < bv t) :
  Calls Tryz.prog 141 #[.string s, .string t] w fun e w' => e = .returned (.tuple #[.string (nb (bv s / bv t)), .string (nb (bv s % bv t)), .bool true]) ∧ Below w.heap.size w w' := by
 have l1 := digs_len_bv s
 have hn : digs (bv t) ≠ [] := fun e => by have := digs_eq_nil.1 e; omega
 have hp : 0 < (digs (bv t)).length := List.length_pos_iff.2 hn; have q1 := digs_len_mono (Nat.div_le_self (bv s) (bv t)); have q2 := digs_len_mono (Nat.mod_le (bv s) (bv t)); have d1 := digs_dig (bv s / bv t); have d2 := digs_dig (bv s % bv t); have e1 := Lib.hid (dv_digs (bv s / bv t)); have e2 := Lib.hid (dv_digs (bv s % bv t)); clear hn
 go_enter Tryz.func141, Tryz.ntmps141
 go_wp2_with fail
 refine (limbs_any t _ ht).mono ?_
 rintro e w1 ⟨⟨v1, rfl, hv1⟩, hb1⟩; obtain ⟨a, cap, rfl, hc, hm, hcell⟩ := hv1.open; clear hcell
 go_wp2_with fail
 refine (limbs_any s _ (by omega)).mono ?_
 rintro e w2 ⟨⟨v2, rfl, hv2⟩, hb2⟩; have hb12 := hb1.trans (hb2.mono hb1.size); have hv1' := hv1.extend hb2; have hv2' := hv2.low (Nat.zero_le _); clear hv1 hv2
 go_wp2_with fail
 refine (ndivide_any (bv s) (bv t) v2 _ _ hv2' hv1' h0 (by omega)).mono ?_
 rintro e w3 ⟨⟨vq, vr, rfl, hq, hr⟩, hb3⟩; have hb13 := hb12.trans (hb3.mono hb12.size)
 go_wp2_with fail
 refine (nnumber_any _ _ _ _ d1 hq (by omega)).mono ?_
 rintro e w4 ⟨rfl, hb4⟩; have hb14 := hb13.trans (hb4.mono hb13.size); have hr' := hr.extend hb4
 go_wp2_with fail
 refine (nnumber_any _ _ _ _ d2 hr' (by omega)).mono ?_
 rintro e w5 ⟨rfl, hb5⟩; have hb15 := hb14.trans (hb5.mono hb14.size)
 go_wp2_with fail
 go_ret3
 exact ⟨ret3 (val_str (by rw [e1.out]; rfl)) (val_str (by rw [e2.out]; rfl)) rfl, hb15⟩
def u32V (w : World) (v : Value) : Nat := match v with
  | .slice (some a) n _ => match w.heap[a.block]? with
    | some (.cells cur _ _) => (dv ((cur.toList.take n).map intOf)).toNat
    | _ => 0
  | _ => 0
theorem u32V_eq {w : World} {B : Nat} {v : Value} {l : List Int} (h : U32s w B v l) : u32V w v = (dv l).toNat := by
 rcases h.2 with ⟨rfl, hz⟩ | ⟨g, cap, cur, rfl, hb, hg, hnc, hcm, hcs, htake⟩
 ·rw [List.eq_nil_of_length_eq_zero hz]; rfl
 ·have e : l.map (Value.int .u32) = cur.toList.take l.length := by rw [← htake]; simp
  have e2 : ((l.map (Value.int .u32)).map intOf) = l := by rw [List.map_map]; exact (List.map_congr_left (fun _ _ => rfl)).trans (List.map_id _)
  unfold u32V
  simp only [hg]
  rw [← e, e2]
theorem u32V_digs {w : World} {B : Nat} {v : Value} {n : Nat} (h : U32s w B v (digs n)) : u32V w v = n := by rw [u32V_eq h, dv_digs, Int.toNat_natCast]
set_option maxRecDepth 100000 in
set_option maxHeartbeats 2000000 in
theorem ngcd_any (s t : ByteArray) (w : World) (hs : s.size ≤ 536870912) (ht : t.size ≤ 536870912) :
  Calls Tryz.prog 140 #[.string s, .string t] w fun e w' => e = .returned (.string (nb (Nat.gcd (bv s) (bv t)))) ∧ Below w.heap.size w w' := by
 have l1 := digs_len_bv s; have l2 := digs_len_bv t
 go_enter Tryz.func140, Tryz.ntmps140
 go_wp2_with fail
 refine (limbs_any s _ (by omega)).mono ?_
 rintro e w1 ⟨⟨v1, rfl, hv1⟩, hb1⟩
 go_wp2_with fail
 refine (limbs_any t _ (by omega)).mono ?_
 rintro e w2 ⟨⟨v2, rfl, hv2⟩, hb2⟩; have hb12 := hb1.trans (hb2.mono hb1.size); have hv1' := hv1.extend hb2; have hv2' := hv2.low (Nat.zero_le _); clear hv1 hv2
 go_wp2_with fail
 go_loopw [5, 6] (fun x y wr => ∃ X Y : Nat, Nat.gcd X Y = Nat.gcd (bv s) (bv t) ∧ (digs X).length ≤ 536870912 ∧ (digs Y).length ≤ 536870912 ∧ U32s wr 0 x (digs X) ∧ U32s wr 0 y (digs Y) ∧ Below w.heap.size w wr) (fun _ y wr => u32V wr y)
 case atStart => exact ⟨bv s, bv t, rfl, by omega, by omega, hv1', hv2', hb12⟩
 case round =>
  obtain ⟨X, Y, hg, hlx, hly, hx, hy, hbel⟩ := hrel; have HG := Lib.hid hg; clear hg; have hdx := digs_dig X; have hmx := u32V_digs hy; obtain ⟨a, cap, rfl, hc, hm, hcell⟩ := hy.open; clear hcell
  rcases Nat.eq_zero_or_pos Y with h0 | h0
  ·have hl := digs_zero_len h0
   have HX := Lib.hid (show X = Nat.gcd (bv s) (bv t) from by rw [← HG.out, h0, Nat.gcd_zero_right])
   have HE := Lib.hid (dv_digs X); clear h0 hmx
   go_wp2_with fail
   refine (nnumber_any _ _ _ _ hdx hx (by omega)).mono ?_
   rintro e w4 ⟨rfl, hb4⟩
   go_wp2_with fail
   go_ret
   exact ⟨ret_str (by rw [HE.out, Int.toNat_natCast, HX.out]), hbel.trans (hb4.mono hbel.size)⟩
  ·have hp : 0 < (digs Y).length := List.length_pos_iff.2 (fun e => by have := digs_eq_nil.1 e; omega)
   have hlr := digs_len_mono (Nat.mod_le X Y)
   have HR := Lib.hid (show Nat.gcd Y (X % Y) = Nat.gcd (bv s) (bv t) from by rw [← HG.out, Nat.gcd_comm, ← Nat.gcd_rec, Nat.gcd_comm])
   have Hlt := Lib.hid (Nat.mod_lt X h0); have HM := Lib.hid hmx
   have hly3 : (digs (X % Y)).length ≤ 536870912 := by omega
   clear hmx
   go_wp2_with fail
   refine (ndivide_any X Y _ _ _ hx hy h0 hlx).mono ?_
   rintro e w3 ⟨⟨vq, vr, rfl, hq, hr⟩, hb3⟩; have hy3 := hy.extend hb3; have hb13 := hbel.trans (hb3.mono hbel.size); have hmr := Lib.hid (u32V_digs hr)
   go_wp2_with fail
   go_roundw
   case rel => exact ⟨Y, X % Y, HR.out, hly, hly3, hy3, hr, hb13⟩
   case measure => rw [hmr.out, HM.out]; exact Hlt.out
end Go.Proofs.YtmacnhjbjembiaaGreatDoor
namespace Go.Proofs.YtmacnhjbjembiaaGreatDoor
open Go.RowKit W
open Pl (bval enc bv nb bv_nb nb_size_le nb_size_zero nb_size_mono nb_bv_size bv_lt cmpN nb_inj)
def Rx (w : World) (g : Nat) (vs : List Value) : Prop := g < w.heap.size ∧ ∀ i v, vs[i]? = some v → w.cell? ⟨g, i, none⟩ = some v ∧ w.frozen? ⟨g, i, none⟩ = false
theorem Rx.lt {w : World} {g : Nat} {vs : List Value} (h : Rx w g vs) : g < w.heap.size := h.1
theorem Rx.at {w : World} {g : Nat} {vs : List Value} (h : Rx w g vs) (i : Nat) {v : Value} (hv : vs[i]? = some v) : w.cell? ⟨g, i, none⟩ = some v := (h.2 i v hv).1
theorem Rx.fr {w : World} {g : Nat} {vs : List Value} (h : Rx w g vs) (i : Nat) {v : Value} (hv : vs[i]? = some v) : w.frozen? ⟨g, i, none⟩ = false := (h.2 i v hv).2
theorem Rx.below {w w' : World} {g : Nat} {vs : List Value} (h : Rx w g vs) (hb : Below w.heap.size w w') : Rx w' g vs :=
 ⟨Nat.lt_of_lt_of_le h.1 hb.size, fun i _ hv => ⟨(hb.cell (p := ⟨g, i, none⟩) h.1).trans (h.at i hv), (hb.frozen (p := ⟨g, i, none⟩) h.1).trans (h.fr i hv)⟩⟩
theorem Rx.alloc {w : World} {g : Nat} {vs : List Value} (h : Rx w g vs) (o : Obj) : Rx (w.alloc o) g vs := h.below ((Below.refl _ _).alloc (Nat.le_refl _) _)
theorem Rx.drew {w : World} {g : Nat} {vs : List Value} (h : Rx w g vs) : Rx w.drew g vs := h.below ((Below.refl _ _).drew)
theorem Rx.new (w : World) (g : Nat) (hg : g = w.heap.size) (vs : List Value) (t : TypeId) : Rx (w.alloc (.cells vs.toArray t)) g vs := by
 subst hg; have h := heap_alloc_new w (.cells vs.toArray t)
 refine ⟨by simp, fun i v hv => ⟨?_, by rw [World.frozen?, h]; rfl⟩⟩
 rw [cell_of_row _ _ i _ _ _ h]
 simpa using hv
theorem Rx.other {w : World} {g : Nat} {vs : List Value} (h : Rx w g vs) {p : Addr} (hne : p.block ≠ g) (u : Value) : Rx (w.setCell p u) g vs := by
 refine ⟨by simpa using h.1, fun i v hv => ⟨?_, by rw [World.frozen?_setCell]; exact h.fr i hv⟩⟩
 rw [World.cell?_setCell_other (h := fun e => hne (by rw [e]))]
 exact h.at i hv
theorem Rx.put {w : World} {g : Nat} {vs : List Value} (h : Rx w g vs) (j : Nat) (u : Value) (hj : j < vs.length) : Rx (w.setCell ⟨g, j, none⟩ u) g (vs.set j u) := by
 refine ⟨by simpa using h.1, fun i v hv => ?_⟩
 by_cases e : j = i
 ·subst e
  rw [List.getElem?_set_self hj] at hv
  injection hv with hv
  subst hv
  exact ⟨World.cell?_setCell_same _ _ _ (h.at j (List.getElem?_eq_getElem hj)), by rw [World.frozen?_setCell]; exact h.fr j (List.getElem?_eq_getElem hj)⟩
 ·rw [List.getElem?_set_ne e] at hv
  exact ⟨by rw [World.cell?_setCell_other (h := fun hh => e (by injection hh))]; exact h.at i hv, by rw [World.frozen?_setCell]; exact h.fr i hv⟩
theorem Rx.put3 {w : World} {g : Nat} {a b c : Value} (h : Rx w g [a, b, c]) (x y z : Value) : Rx (((w.setCell ⟨g, 0, none⟩ x).setCell ⟨g, 1, none⟩ y).setCell ⟨g, 2, none⟩ z) g [x, y, z] := ((h.put 0 x (by simp)).put 1 y (by simp)).put 2 z (by simp)
abbrev rv (q : Rat) : Value := .agg #[.bool (decide (q.num < 0)), .string (nb q.num.natAbs), .string (nb q.den)]
structure Sz (q : Rat) (k : Nat) : Prop where
  n : (nb q.num.natAbs).size ≤ k
  d : (nb q.den).size ≤ k
theorem Sz.mono {q : Rat} {k l : Nat} (h : Sz q k) (hl : k ≤ l) : Sz q l := ⟨Nat.le_trans h.1 hl, Nat.le_trans h.2 hl⟩
theorem nbs {n k : Nat} (h : n < 256 ^ 8) (hk : 8 ≤ k) : (nb n).size ≤ k := Nat.le_trans (nb_size_le.2 h) hk
theorem nb0_nil : (nb 0).toList = [] := toList_nil.2 (nb_size_zero.2 rfl)
theorem nb_1 : nb 1 = ⟨#[1]⟩ := by decide +kernel
theorem bv_1 : bv ⟨#[1]⟩ = 1 := by decide +kernel
theorem size_mul {n k a b : Nat} (h1 : (nb n).size ≤ a) (h2 : (nb k).size ≤ b) : (nb (n * k)).size ≤ a + b := by
 refine nb_size_le.2 ?_
 have p1 := nb_size_le.1 h1; have p2 := nb_size_le.1 h2; rw [Nat.pow_add]
 rcases Nat.eq_zero_or_pos k with rfl | hk
 ·rw [Nat.mul_zero]; exact Nat.mul_pos (by omega) (by omega)
 ·exact Nat.lt_of_lt_of_le (Nat.mul_lt_mul_of_pos_right p1 hk) (Nat.mul_le_mul_left _ (by omega))
theorem add_size {x y k : Nat} (hx : (nb x).size ≤ k) (hy : (nb y).size ≤ k) : (nb (x + y)).size ≤ k + 1 := by
 refine nb_size_le.2 ?_
 have := nb_size_le.1 hx; have := nb_size_le.1 hy; rw [Nat.pow_succ]
 omega
theorem div_size {x y k : Nat} (hx : (nb x).size ≤ k) : (nb (x / y)).size ≤ k := Nat.le_trans (nb_size_mono (Nat.div_le_self _ _)) hx
theorem nb_pos {n : Nat} (h : 0 < n) : 0 < (nb n).size := by
 rcases Nat.eq_zero_or_pos (nb n).size with h0 | h0
 ·rw [nb_size_zero] at h0; omega
 ·exact h0
theorem nb_ne {n : Nat} (h : n ≠ 0) : ¬ (nb n).toList = [] := fun e => by have := toList_nil.1 e; have := nb_pos (show 0 < n by omega); omega
theorem nb_isE {n : Nat} (h : n ≠ 0) : (nb n).toList.isEmpty = false := by simpa using nb_ne h
theorem ret_rv {a : Bool} {x y : Nat} {q : Rat} (h1 : a = decide (q.num < 0)) (h2 : x = q.num.natAbs) (h3 : y = q.den) : Value.agg #[.bool a, .string (nb x), .string (nb y)] = rv q := by rw [rv, h1, h2, h3]
theorem Rx.all1 {w : World} {g : Nat} {v0 : Value} (h : Rx w g [v0]) : w.cell? ⟨g, 0, none⟩ = some v0 ∧ w.frozen? ⟨g, 0, none⟩ = false := ⟨h.at 0 rfl, h.fr 0 rfl⟩
theorem Rx.all2 {w : World} {g : Nat} {v0 v1 : Value} (h : Rx w g [v0, v1]) : w.cell? ⟨g, 0, none⟩ = some v0 ∧ w.frozen? ⟨g, 0, none⟩ = false ∧ w.cell? ⟨g, 1, none⟩ = some v1 ∧ w.frozen? ⟨g, 1, none⟩ = false := ⟨h.at 0 rfl, h.fr 0 rfl, h.at 1 rfl, h.fr 1 rfl⟩
theorem Rx.all3 {w : World} {g : Nat} {v0 v1 v2 : Value} (h : Rx w g [v0, v1, v2]) : w.cell? ⟨g, 0, none⟩ = some v0 ∧ w.frozen? ⟨g, 0, none⟩ = false ∧ w.cell? ⟨g, 1, none⟩ = some v1 ∧ w.frozen? ⟨g, 1, none⟩ = false ∧ w.cell? ⟨g, 2, none⟩ = some v2 ∧ w.frozen? ⟨g, 2, none⟩ = false := ⟨h.at 0 rfl, h.fr 0 rfl, h.at 1 rfl, h.fr 1 rfl, h.at 2 rfl, h.fr 2 rfl⟩
theorem Rx.all4 {w : World} {g : Nat} {v0 v1 v2 v3 : Value} (h : Rx w g [v0, v1, v2, v3]) : w.cell? ⟨g, 0, none⟩ = some v0 ∧ w.frozen? ⟨g, 0, none⟩ = false ∧ w.cell? ⟨g, 1, none⟩ = some v1 ∧ w.frozen? ⟨g, 1, none⟩ = false ∧ w.cell? ⟨g, 2, none⟩ = some v2 ∧ w.frozen? ⟨g, 2, none⟩ = false ∧ w.cell? ⟨g, 3, none⟩ = some v3 ∧ w.frozen? ⟨g, 3, none⟩ = false := ⟨h.at 0 rfl, h.fr 0 rfl, h.at 1 rfl, h.fr 1 rfl, h.at 2 rfl, h.fr 2 rfl, h.at 3 rfl, h.fr 3 rfl⟩
theorem Rx.all6 {w : World} {g : Nat} {v0 v1 v2 v3 v4 v5 : Value} (h : Rx w g [v0, v1, v2, v3, v4, v5]) : w.cell? ⟨g, 0, none⟩ = some v0 ∧ w.frozen? ⟨g, 0, none⟩ = false ∧ w.cell? ⟨g, 1, none⟩ = some v1 ∧ w.frozen? ⟨g, 1, none⟩ = false ∧ w.cell? ⟨g, 2, none⟩ = some v2 ∧ w.frozen? ⟨g, 2, none⟩ = false ∧ w.cell? ⟨g, 3, none⟩ = some v3 ∧ w.frozen? ⟨g, 3, none⟩ = false ∧ w.cell? ⟨g, 4, none⟩ = some v4 ∧ w.frozen? ⟨g, 4, none⟩ = false ∧ w.cell? ⟨g, 5, none⟩ = some v5 ∧ w.frozen? ⟨g, 5, none⟩ = false := ⟨h.at 0 rfl, h.fr 0 rfl, h.at 1 rfl, h.fr 1 rfl, h.at 2 rfl, h.fr 2 rfl, h.at 3 rfl, h.fr 3 rfl, h.at 4 rfl, h.fr 4 rfl, h.at 5 rfl, h.fr 5 rfl⟩
theorem opn1 (w : World) (a0 : List Value) (t0 : TypeId) : Rx (w.alloc (.cells a0.toArray t0)) (w.heap.size) a0 ∧ Below w.heap.size w (w.alloc (.cells a0.toArray t0)) := ⟨(Rx.new w _ rfl a0 t0), ((Below.refl w.heap.size w).alloc (Nat.le_refl _) _)⟩
theorem opn2 (w : World) (a0 a1 : List Value) (t0 t1 : TypeId) : Rx ((w.alloc (.cells a0.toArray t0)).alloc (.cells a1.toArray t1)) (w.heap.size) a0 ∧ Rx ((w.alloc (.cells a0.toArray t0)).alloc (.cells a1.toArray t1)) (w.heap.size + 1) a1 ∧ Below w.heap.size w ((w.alloc (.cells a0.toArray t0)).alloc (.cells a1.toArray t1)) := ⟨((Rx.new w _ rfl a0 t0).alloc _), (Rx.new (w.alloc (.cells a0.toArray t0)) _ (by simp) a1 t1), (((Below.refl w.heap.size w).alloc (Nat.le_refl _) _).alloc (by simp) _)⟩
theorem opn3 (w : World) (a0 a1 a2 : List Value) (t0 t1 t2 : TypeId) : Rx (((w.alloc (.cells a0.toArray t0)).alloc (.cells a1.toArray t1)).alloc (.cells a2.toArray t2)) (w.heap.size) a0 ∧ Rx (((w.alloc (.cells a0.toArray t0)).alloc (.cells a1.toArray t1)).alloc (.cells a2.toArray t2)) (w.heap.size + 1) a1 ∧ Rx (((w.alloc (.cells a0.toArray t0)).alloc (.cells a1.toArray t1)).alloc (.cells a2.toArray t2)) (w.heap.size + 1 + 1) a2 ∧ Below w.heap.size w (((w.alloc (.cells a0.toArray t0)).alloc (.cells a1.toArray t1)).alloc (.cells a2.toArray t2)) := ⟨(((Rx.new w _ rfl a0 t0).alloc _).alloc _), ((Rx.new (w.alloc (.cells a0.toArray t0)) _ (by simp) a1 t1).alloc _), (Rx.new ((w.alloc (.cells a0.toArray t0)).alloc (.cells a1.toArray t1)) _ (by simp) a2 t2), ((((Below.refl w.heap.size w).alloc (Nat.le_refl _) _).alloc (by simp) _).alloc (by simp; omega) _)⟩
theorem opn4 (w : World) (a0 a1 a2 a3 : List Value) (t0 t1 t2 t3 : TypeId) : Rx ((((w.alloc (.cells a0.toArray t0)).alloc (.cells a1.toArray t1)).alloc (.cells a2.toArray t2)).alloc (.cells a3.toArray t3)) (w.heap.size) a0 ∧ Rx ((((w.alloc (.cells a0.toArray t0)).alloc (.cells a1.toArray t1)).alloc (.cells a2.toArray t2)).alloc (.cells a3.toArray t3)) (w.heap.size + 1) a1 ∧ Rx ((((w.alloc (.cells a0.toArray t0)).alloc (.cells a1.toArray t1)).alloc (.cells a2.toArray t2)).alloc (.cells a3.toArray t3)) (w.heap.size + 1 + 1) a2 ∧ Rx ((((w.alloc (.cells a0.toArray t0)).alloc (.cells a1.toArray t1)).alloc (.cells a2.toArray t2)).alloc (.cells a3.toArray t3)) (w.heap.size + 1 + 1 + 1) a3 ∧ Below w.heap.size w ((((w.alloc (.cells a0.toArray t0)).alloc (.cells a1.toArray t1)).alloc (.cells a2.toArray t2)).alloc (.cells a3.toArray t3)) := ⟨((((Rx.new w _ rfl a0 t0).alloc _).alloc _).alloc _), (((Rx.new (w.alloc (.cells a0.toArray t0)) _ (by simp) a1 t1).alloc _).alloc _), ((Rx.new ((w.alloc (.cells a0.toArray t0)).alloc (.cells a1.toArray t1)) _ (by simp) a2 t2).alloc _), (Rx.new (((w.alloc (.cells a0.toArray t0)).alloc (.cells a1.toArray t1)).alloc (.cells a2.toArray t2)) _ (by simp) a3 t3), (((((Below.refl w.heap.size w).alloc (Nat.le_refl _) _).alloc (by simp) _).alloc (by simp; omega) _).alloc (by simp; omega) _)⟩
theorem q18_4_4 {w : World} {g0 : Nat} {v0_0 v0_1 v0_2 v0_3 v0_4 v0_5 v0_6 v0_7 v0_8 v0_9 v0_10 v0_11 v0_12 v0_13 v0_14 v0_15 v0_16 v0_17 : Value} (h0 : Rx w g0 [v0_0, v0_1, v0_2, v0_3, v0_4, v0_5, v0_6, v0_7, v0_8, v0_9, v0_10, v0_11, v0_12, v0_13, v0_14, v0_15, v0_16, v0_17]) {g1 : Nat} {v1_0 v1_1 v1_2 v1_3 : Value} (h1 : Rx w g1 [v1_0, v1_1, v1_2, v1_3]) {g2 : Nat} {v2_0 v2_1 v2_2 v2_3 : Value} (h2 : Rx w g2 [v2_0, v2_1, v2_2, v2_3]) : w.cell? ⟨g0, 0, none⟩ = some v0_0 ∧ w.cell? ⟨g0, 1, none⟩ = some v0_1 ∧ w.cell? ⟨g0, 2, none⟩ = some v0_2 ∧ w.cell? ⟨g0, 3, none⟩ = some v0_3 ∧ w.cell? ⟨g0, 4, none⟩ = some v0_4 ∧ w.cell? ⟨g0, 5, none⟩ = some v0_5 ∧ w.cell? ⟨g0, 6, none⟩ = some v0_6 ∧ w.cell? ⟨g0, 7, none⟩ = some v0_7 ∧ w.cell? ⟨g0, 8, none⟩ = some v0_8 ∧ w.cell? ⟨g0, 9, none⟩ = some v0_9 ∧ w.cell? ⟨g0, 10, none⟩ = some v0_10 ∧ w.cell? ⟨g0, 11, none⟩ = some v0_11 ∧ w.cell? ⟨g0, 12, none⟩ = some v0_12 ∧ w.cell? ⟨g0, 13, none⟩ = some v0_13 ∧ w.cell? ⟨g0, 14, none⟩ = some v0_14 ∧ w.cell? ⟨g0, 15, none⟩ = some v0_15 ∧ w.cell? ⟨g0, 16, none⟩ = some v0_16 ∧ w.cell? ⟨g0, 17, none⟩ = some v0_17 ∧ w.cell? ⟨g1, 0, none⟩ = some v1_0 ∧ w.cell? ⟨g1, 1, none⟩ = some v1_1 ∧ w.cell? ⟨g1, 2, none⟩ = some v1_2 ∧ w.cell? ⟨g1, 3, none⟩ = some v1_3 ∧ w.cell? ⟨g2, 0, none⟩ = some v2_0 ∧ w.cell? ⟨g2, 1, none⟩ = some v2_1 ∧ w.cell? ⟨g2, 2, none⟩ = some v2_2 ∧ w.cell? ⟨g2, 3, none⟩ = some v2_3 := ⟨h0.at 0 rfl, h0.at 1 rfl, h0.at 2 rfl, h0.at 3 rfl, h0.at 4 rfl, h0.at 5 rfl, h0.at 6 rfl, h0.at 7 rfl, h0.at 8 rfl, h0.at 9 rfl, h0.at 10 rfl, h0.at 11 rfl, h0.at 12 rfl, h0.at 13 rfl, h0.at 14 rfl, h0.at 15 rfl, h0.at 16 rfl, h0.at 17 rfl, h1.at 0 rfl, h1.at 1 rfl, h1.at 2 rfl, h1.at 3 rfl, h2.at 0 rfl, h2.at 1 rfl, h2.at 2 rfl, h2.at 3 rfl⟩
theorem q18 {w : World} {g0 : Nat} {v0_0 v0_1 v0_2 v0_3 v0_4 v0_5 v0_6 v0_7 v0_8 v0_9 v0_10 v0_11 v0_12 v0_13 v0_14 v0_15 v0_16 v0_17 : Value} (h0 : Rx w g0 [v0_0, v0_1, v0_2, v0_3, v0_4, v0_5, v0_6, v0_7, v0_8, v0_9, v0_10, v0_11, v0_12, v0_13, v0_14, v0_15, v0_16, v0_17]) : w.cell? ⟨g0, 0, none⟩ = some v0_0 ∧ w.cell? ⟨g0, 1, none⟩ = some v0_1 ∧ w.cell? ⟨g0, 2, none⟩ = some v0_2 ∧ w.cell? ⟨g0, 3, none⟩ = some v0_3 ∧ w.cell? ⟨g0, 4, none⟩ = some v0_4 ∧ w.cell? ⟨g0, 5, none⟩ = some v0_5 ∧ w.cell? ⟨g0, 6, none⟩ = some v0_6 ∧ w.cell? ⟨g0, 7, none⟩ = some v0_7 ∧ w.cell? ⟨g0, 8, none⟩ = some v0_8 ∧ w.cell? ⟨g0, 9, none⟩ = some v0_9 ∧ w.cell? ⟨g0, 10, none⟩ = some v0_10 ∧ w.cell? ⟨g0, 11, none⟩ = some v0_11 ∧ w.cell? ⟨g0, 12, none⟩ = some v0_12 ∧ w.cell? ⟨g0, 13, none⟩ = some v0_13 ∧ w.cell? ⟨g0, 14, none⟩ = some v0_14 ∧ w.cell? ⟨g0, 15, none⟩ = some v0_15 ∧ w.cell? ⟨g0, 16, none⟩ = some v0_16 ∧ w.cell? ⟨g0, 17, none⟩ = some v0_17 := ⟨h0.at 0 rfl, h0.at 1 rfl, h0.at 2 rfl, h0.at 3 rfl, h0.at 4 rfl, h0.at 5 rfl, h0.at 6 rfl, h0.at 7 rfl, h0.at 8 rfl, h0.at 9 rfl, h0.at 10 rfl, h0.at 11 rfl, h0.at 12 rfl, h0.at 13 rfl, h0.at 14 rfl, h0.at 15 rfl, h0.at 16 rfl, h0.at 17 rfl⟩
theorem q22 {w : World} {g0 : Nat} {v0_0 v0_1 : Value} (h0 : Rx w g0 [v0_0, v0_1]) {g1 : Nat} {v1_0 v1_1 : Value} (h1 : Rx w g1 [v1_0, v1_1]) : w.cell? ⟨g0, 0, none⟩ = some v0_0 ∧ w.cell? ⟨g0, 1, none⟩ = some v0_1 ∧ w.cell? ⟨g1, 0, none⟩ = some v1_0 ∧ w.cell? ⟨g1, 1, none⟩ = some v1_1 := ⟨h0.at 0 rfl, h0.at 1 rfl, h1.at 0 rfl, h1.at 1 rfl⟩
theorem q226 {w : World} {g0 : Nat} {v0_0 v0_1 : Value} (h0 : Rx w g0 [v0_0, v0_1]) {g1 : Nat} {v1_0 v1_1 : Value} (h1 : Rx w g1 [v1_0, v1_1]) {g2 : Nat} {v2_0 v2_1 v2_2 v2_3 v2_4 v2_5 : Value} (h2 : Rx w g2 [v2_0, v2_1, v2_2, v2_3, v2_4, v2_5]) : w.cell? ⟨g0, 0, none⟩ = some v0_0 ∧ w.cell? ⟨g0, 1, none⟩ = some v0_1 ∧ w.cell? ⟨g1, 0, none⟩ = some v1_0 ∧ w.cell? ⟨g1, 1, none⟩ = some v1_1 ∧ w.cell? ⟨g2, 0, none⟩ = some v2_0 ∧ w.cell? ⟨g2, 1, none⟩ = some v2_1 ∧ w.cell? ⟨g2, 2, none⟩ = some v2_2 ∧ w.cell? ⟨g2, 3, none⟩ = some v2_3 ∧ w.cell? ⟨g2, 4, none⟩ = some v2_4 ∧ w.cell? ⟨g2, 5, none⟩ = some v2_5 := ⟨h0.at 0 rfl, h0.at 1 rfl, h1.at 0 rfl, h1.at 1 rfl, h2.at 0 rfl, h2.at 1 rfl, h2.at 2 rfl, h2.at 3 rfl, h2.at 4 rfl, h2.at 5 rfl⟩
theorem q233 {w : World} {g0 : Nat} {v0_0 v0_1 : Value} (h0 : Rx w g0 [v0_0, v0_1]) {g1 : Nat} {v1_0 v1_1 v1_2 : Value} (h1 : Rx w g1 [v1_0, v1_1, v1_2]) {g2 : Nat} {v2_0 v2_1 v2_2 : Value} (h2 : Rx w g2 [v2_0, v2_1, v2_2]) : w.cell? ⟨g0, 0, none⟩ = some v0_0 ∧ w.cell? ⟨g0, 1, none⟩ = some v0_1 ∧ w.cell? ⟨g1, 0, none⟩ = some v1_0 ∧ w.cell? ⟨g1, 1, none⟩ = some v1_1 ∧ w.cell? ⟨g1, 2, none⟩ = some v1_2 ∧ w.cell? ⟨g2, 0, none⟩ = some v2_0 ∧ w.cell? ⟨g2, 1, none⟩ = some v2_1 ∧ w.cell? ⟨g2, 2, none⟩ = some v2_2 := ⟨h0.at 0 rfl, h0.at 1 rfl, h1.at 0 rfl, h1.at 1 rfl, h1.at 2 rfl, h2.at 0 rfl, h2.at 1 rfl, h2.at 2 rfl⟩
theorem q33 {w : World} {g0 : Nat} {v0_0 v0_1 v0_2 : Value} (h0 : Rx w g0 [v0_0, v0_1, v0_2]) {g1 : Nat} {v1_0 v1_1 v1_2 : Value} (h1 : Rx w g1 [v1_0, v1_1, v1_2]) : w.cell? ⟨g0, 0, none⟩ = some v0_0 ∧ w.cell? ⟨g0, 1, none⟩ = some v0_1 ∧ w.cell? ⟨g0, 2, none⟩ = some v0_2 ∧ w.cell? ⟨g1, 0, none⟩ = some v1_0 ∧ w.cell? ⟨g1, 1, none⟩ = some v1_1 ∧ w.cell? ⟨g1, 2, none⟩ = some v1_2 := ⟨h0.at 0 rfl, h0.at 1 rfl, h0.at 2 rfl, h1.at 0 rfl, h1.at 1 rfl, h1.at 2 rfl⟩
theorem q332 {w : World} {g0 : Nat} {v0_0 v0_1 v0_2 : Value} (h0 : Rx w g0 [v0_0, v0_1, v0_2]) {g1 : Nat} {v1_0 v1_1 v1_2 : Value} (h1 : Rx w g1 [v1_0, v1_1, v1_2]) {g2 : Nat} {v2_0 v2_1 : Value} (h2 : Rx w g2 [v2_0, v2_1]) : w.cell? ⟨g0, 0, none⟩ = some v0_0 ∧ w.cell? ⟨g0, 1, none⟩ = some v0_1 ∧ w.cell? ⟨g0, 2, none⟩ = some v0_2 ∧ w.cell? ⟨g1, 0, none⟩ = some v1_0 ∧ w.cell? ⟨g1, 1, none⟩ = some v1_1 ∧ w.cell? ⟨g1, 2, none⟩ = some v1_2 ∧ w.cell? ⟨g2, 0, none⟩ = some v2_0 ∧ w.cell? ⟨g2, 1, none⟩ = some v2_1 := ⟨h0.at 0 rfl, h0.at 1 rfl, h0.at 2 rfl, h1.at 0 rfl, h1.at 1 rfl, h1.at 2 rfl, h2.at 0 rfl, h2.at 1 rfl⟩
theorem q424 {w : World} {g0 : Nat} {v0_0 v0_1 v0_2 v0_3 : Value} (h0 : Rx w g0 [v0_0, v0_1, v0_2, v0_3]) {g1 : Nat} {v1_0 v1_1 : Value} (h1 : Rx w g1 [v1_0, v1_1]) {g2 : Nat} {v2_0 v2_1 v2_2 v2_3 : Value} (h2 : Rx w g2 [v2_0, v2_1, v2_2, v2_3]) : w.cell? ⟨g0, 0, none⟩ = some v0_0 ∧ w.cell? ⟨g0, 1, none⟩ = some v0_1 ∧ w.cell? ⟨g0, 2, none⟩ = some v0_2 ∧ w.cell? ⟨g0, 3, none⟩ = some v0_3 ∧ w.cell? ⟨g1, 0, none⟩ = some v1_0 ∧ w.cell? ⟨g1, 1, none⟩ = some v1_1 ∧ w.cell? ⟨g2, 0, none⟩ = some v2_0 ∧ w.cell? ⟨g2, 1, none⟩ = some v2_1 ∧ w.cell? ⟨g2, 2, none⟩ = some v2_2 ∧ w.cell? ⟨g2, 3, none⟩ = some v2_3 := ⟨h0.at 0 rfl, h0.at 1 rfl, h0.at 2 rfl, h0.at 3 rfl, h1.at 0 rfl, h1.at 1 rfl, h2.at 0 rfl, h2.at 1 rfl, h2.at 2 rfl, h2.at 3 rfl⟩
theorem q44 {w : World} {g0 : Nat} {v0_0 v0_1 v0_2 v0_3 : Value} (h0 : Rx w g0 [v0_0, v0_1, v0_2, v0_3]) {g1 : Nat} {v1_0 v1_1 v1_2 v1_3 : Value} (h1 : Rx w g1 [v1_0, v1_1, v1_2, v1_3]) : w.cell? ⟨g0, 0, none⟩ = some v0_0 ∧ w.cell? ⟨g0, 1, none⟩ = some v0_1 ∧ w.cell? ⟨g0, 2, none⟩ = some v0_2 ∧ w.cell? ⟨g0, 3, none⟩ = some v0_3 ∧ w.cell? ⟨g1, 0, none⟩ = some v1_0 ∧ w.cell? ⟨g1, 1, none⟩ = some v1_1 ∧ w.cell? ⟨g1, 2, none⟩ = some v1_2 ∧ w.cell? ⟨g1, 3, none⟩ = some v1_3 := ⟨h0.at 0 rfl, h0.at 1 rfl, h0.at 2 rfl, h0.at 3 rfl, h1.at 0 rfl, h1.at 1 rfl, h1.at 2 rfl, h1.at 3 rfl⟩
theorem q444 {w : World} {g0 : Nat} {v0_0 v0_1 v0_2 v0_3 : Value} (h0 : Rx w g0 [v0_0, v0_1, v0_2, v0_3]) {g1 : Nat} {v1_0 v1_1 v1_2 v1_3 : Value} (h1 : Rx w g1 [v1_0, v1_1, v1_2, v1_3]) {g2 : Nat} {v2_0 v2_1 v2_2 v2_3 : Value} (h2 : Rx w g2 [v2_0, v2_1, v2_2, v2_3]) : w.cell? ⟨g0, 0, none⟩ = some v0_0 ∧ w.cell? ⟨g0, 1, none⟩ = some v0_1 ∧ w.cell? ⟨g0, 2, none⟩ = some v0_2 ∧ w.cell? ⟨g0, 3, none⟩ = some v0_3 ∧ w.cell? ⟨g1, 0, none⟩ = some v1_0 ∧ w.cell? ⟨g1, 1, none⟩ = some v1_1 ∧ w.cell? ⟨g1, 2, none⟩ = some v1_2 ∧ w.cell? ⟨g1, 3, none⟩ = some v1_3 ∧ w.cell? ⟨g2, 0, none⟩ = some v2_0 ∧ w.cell? ⟨g2, 1, none⟩ = some v2_1 ∧ w.cell? ⟨g2, 2, none⟩ = some v2_2 ∧ w.cell? ⟨g2, 3, none⟩ = some v2_3 := ⟨h0.at 0 rfl, h0.at 1 rfl, h0.at 2 rfl, h0.at 3 rfl, h1.at 0 rfl, h1.at 1 rfl, h1.at 2 rfl, h1.at 3 rfl, h2.at 0 rfl, h2.at 1 rfl, h2.at 2 rfl, h2.at 3 rfl⟩
theorem q4444 {w : World} {g0 : Nat} {v0_0 v0_1 v0_2 v0_3 : Value} (h0 : Rx w g0 [v0_0, v0_1, v0_2, v0_3]) {g1 : Nat} {v1_0 v1_1 v1_2 v1_3 : Value} (h1 : Rx w g1 [v1_0, v1_1, v1_2, v1_3]) {g2 : Nat} {v2_0 v2_1 v2_2 v2_3 : Value} (h2 : Rx w g2 [v2_0, v2_1, v2_2, v2_3]) {g3 : Nat} {v3_0 v3_1 v3_2 v3_3 : Value} (h3 : Rx w g3 [v3_0, v3_1, v3_2, v3_3]) : w.cell? ⟨g0, 0, none⟩ = some v0_0 ∧ w.cell? ⟨g0, 1, none⟩ = some v0_1 ∧ w.cell? ⟨g0, 2, none⟩ = some v0_2 ∧ w.cell? ⟨g0, 3, none⟩ = some v0_3 ∧ w.cell? ⟨g1, 0, none⟩ = some v1_0 ∧ w.cell? ⟨g1, 1, none⟩ = some v1_1 ∧ w.cell? ⟨g1, 2, none⟩ = some v1_2 ∧ w.cell? ⟨g1, 3, none⟩ = some v1_3 ∧ w.cell? ⟨g2, 0, none⟩ = some v2_0 ∧ w.cell? ⟨g2, 1, none⟩ = some v2_1 ∧ w.cell? ⟨g2, 2, none⟩ = some v2_2 ∧ w.cell? ⟨g2, 3, none⟩ = some v2_3 ∧ w.cell? ⟨g3, 0, none⟩ = some v3_0 ∧ w.cell? ⟨g3, 1, none⟩ = some v3_1 ∧ w.cell? ⟨g3, 2, none⟩ = some v3_2 ∧ w.cell? ⟨g3, 3, none⟩ = some v3_3 := ⟨h0.at 0 rfl, h0.at 1 rfl, h0.at 2 rfl, h0.at 3 rfl, h1.at 0 rfl, h1.at 1 rfl, h1.at 2 rfl, h1.at 3 rfl, h2.at 0 rfl, h2.at 1 rfl, h2.at 2 rfl, h2.at 3 rfl, h3.at 0 rfl, h3.at 1 rfl, h3.at 2 rfl, h3.at 3 rfl⟩
theorem q44444 {w : World} {g0 : Nat} {v0_0 v0_1 v0_2 v0_3 : Value} (h0 : Rx w g0 [v0_0, v0_1, v0_2, v0_3]) {g1 : Nat} {v1_0 v1_1 v1_2 v1_3 : Value} (h1 : Rx w g1 [v1_0, v1_1, v1_2, v1_3]) {g2 : Nat} {v2_0 v2_1 v2_2 v2_3 : Value} (h2 : Rx w g2 [v2_0, v2_1, v2_2, v2_3]) {g3 : Nat} {v3_0 v3_1 v3_2 v3_3 : Value} (h3 : Rx w g3 [v3_0, v3_1, v3_2, v3_3]) {g4 : Nat} {v4_0 v4_1 v4_2 v4_3 : Value} (h4 : Rx w g4 [v4_0, v4_1, v4_2, v4_3]) : w.cell? ⟨g0, 0, none⟩ = some v0_0 ∧ w.cell? ⟨g0, 1, none⟩ = some v0_1 ∧ w.cell? ⟨g0, 2, none⟩ = some v0_2 ∧ w.cell? ⟨g0, 3, none⟩ = some v0_3 ∧ w.cell? ⟨g1, 0, none⟩ = some v1_0 ∧ w.cell? ⟨g1, 1, none⟩ = some v1_1 ∧ w.cell? ⟨g1, 2, none⟩ = some v1_2 ∧ w.cell? ⟨g1, 3, none⟩ = some v1_3 ∧ w.cell? ⟨g2, 0, none⟩ = some v2_0 ∧ w.cell? ⟨g2, 1, none⟩ = some v2_1 ∧ w.cell? ⟨g2, 2, none⟩ = some v2_2 ∧ w.cell? ⟨g2, 3, none⟩ = some v2_3 ∧ w.cell? ⟨g3, 0, none⟩ = some v3_0 ∧ w.cell? ⟨g3, 1, none⟩ = some v3_1 ∧ w.cell? ⟨g3, 2, none⟩ = some v3_2 ∧ w.cell? ⟨g3, 3, none⟩ = some v3_3 ∧ w.cell? ⟨g4, 0, none⟩ = some v4_0 ∧ w.cell? ⟨g4, 1, none⟩ = some v4_1 ∧ w.cell? ⟨g4, 2, none⟩ = some v4_2 ∧ w.cell? ⟨g4, 3, none⟩ = some v4_3 := ⟨h0.at 0 rfl, h0.at 1 rfl, h0.at 2 rfl, h0.at 3 rfl, h1.at 0 rfl, h1.at 1 rfl, h1.at 2 rfl, h1.at 3 rfl, h2.at 0 rfl, h2.at 1 rfl, h2.at 2 rfl, h2.at 3 rfl, h3.at 0 rfl, h3.at 1 rfl, h3.at 2 rfl, h3.at 3 rfl, h4.at 0 rfl, h4.at 1 rfl, h4.at 2 rfl, h4.at 3 rfl⟩
theorem q4 {w : World} {g0 : Nat} {v0_0 v0_1 v0_2 v0_3 : Value} (h0 : Rx w g0 [v0_0, v0_1, v0_2, v0_3]) : w.cell? ⟨g0, 0, none⟩ = some v0_0 ∧ w.cell? ⟨g0, 1, none⟩ = some v0_1 ∧ w.cell? ⟨g0, 2, none⟩ = some v0_2 ∧ w.cell? ⟨g0, 3, none⟩ = some v0_3 := ⟨h0.at 0 rfl, h0.at 1 rfl, h0.at 2 rfl, h0.at 3 rfl⟩
theorem q6222 {w : World} {g0 : Nat} {v0_0 v0_1 v0_2 v0_3 v0_4 v0_5 : Value} (h0 : Rx w g0 [v0_0, v0_1, v0_2, v0_3, v0_4, v0_5]) {g1 : Nat} {v1_0 v1_1 : Value} (h1 : Rx w g1 [v1_0, v1_1]) {g2 : Nat} {v2_0 v2_1 : Value} (h2 : Rx w g2 [v2_0, v2_1]) {g3 : Nat} {v3_0 v3_1 : Value} (h3 : Rx w g3 [v3_0, v3_1]) : w.cell? ⟨g0, 0, none⟩ = some v0_0 ∧ w.cell? ⟨g0, 1, none⟩ = some v0_1 ∧ w.cell? ⟨g0, 2, none⟩ = some v0_2 ∧ w.cell? ⟨g0, 3, none⟩ = some v0_3 ∧ w.cell? ⟨g0, 4, none⟩ = some v0_4 ∧ w.cell? ⟨g0, 5, none⟩ = some v0_5 ∧ w.cell? ⟨g1, 0, none⟩ = some v1_0 ∧ w.cell? ⟨g1, 1, none⟩ = some v1_1 ∧ w.cell? ⟨g2, 0, none⟩ = some v2_0 ∧ w.cell? ⟨g2, 1, none⟩ = some v2_1 ∧ w.cell? ⟨g3, 0, none⟩ = some v3_0 ∧ w.cell? ⟨g3, 1, none⟩ = some v3_1 := ⟨h0.at 0 rfl, h0.at 1 rfl, h0.at 2 rfl, h0.at 3 rfl, h0.at 4 rfl, h0.at 5 rfl, h1.at 0 rfl, h1.at 1 rfl, h2.at 0 rfl, h2.at 1 rfl, h3.at 0 rfl, h3.at 1 rfl⟩
theorem q6 {w : World} {g0 : Nat} {v0_0 v0_1 v0_2 v0_3 v0_4 v0_5 : Value} (h0 : Rx w g0 [v0_0, v0_1, v0_2, v0_3, v0_4, v0_5]) : w.cell? ⟨g0, 0, none⟩ = some v0_0 ∧ w.cell? ⟨g0, 1, none⟩ = some v0_1 ∧ w.cell? ⟨g0, 2, none⟩ = some v0_2 ∧ w.cell? ⟨g0, 3, none⟩ = some v0_3 ∧ w.cell? ⟨g0, 4, none⟩ = some v0_4 ∧ w.cell? ⟨g0, 5, none⟩ = some v0_5 := ⟨h0.at 0 rfl, h0.at 1 rfl, h0.at 2 rfl, h0.at 3 rfl, h0.at 4 rfl, h0.at 5 rfl⟩
theorem sA {α : Type _} {l : List α} {i : Nat} {a : α} : l.toArray.setIfInBounds i a = (l.set i a).toArray := List.setIfInBounds_toArray ..
theorem sB {α : Type _} {x : α} {l : List α} {a : α} : (x :: l).set 0 a = a :: l := List.set_cons_zero ..
theorem sC {α : Type _} {x : α} {l : List α} {i : Nat} {a : α} : (x :: l).set (i + 1) a = x :: l.set i a := List.set_cons_succ ..
end Go.Proofs.YtmacnhjbjembiaaGreatDoor
namespace Go.Proofs.YtmacnhjbjembiaaGreatDoor
open Go.RowKit W
def Pan (Q : Exit → Act → World → Prop) : Prop := ∀ d v c a w, Q (.panic c) (Act.put a d v) w → Q (.panic c) a w
theorem wp_held {P : Program} {ops : Array Oper} {Q : Exit → Act → World → Prop} {S : World → Prop} {id : Nat} {a : Act} {w : World} (hm : P.follows .mixedOrders = true)
  (h : Pan (NoPanic Q) → ∀ W, Hid (W = w.drew) → S W ∧ (S W → wpAnyH P .any ops (NoPanic Q) S ops.size (Array.replicate ops.size false) a W)) : (Code.region id ops true).wp P Q a w :=
 wp_region_noPanic (wp_region_held_drew hm (h (fun _ _ _ _ _ h => h) _ (Lib.hid rfl)).1 (h (fun _ _ _ _ _ h => h) _ (Lib.hid rfl)).2)
section
variable {P : Program} {ops : Array Oper} {Q : Exit → Act → World → Prop} {md : Region.Mode} {S : World → Prop} {oi : Oper} {v : Value} {fuel : Nat} {listed : Array Bool} {a : Act} {w : World}
theorem tk (i : Nat) (hP : Pan Q) (hk : (Region.noSelect ops && Region.free md ops listed i && (Region.ready md ops listed).contains i) = true) (hi : ops[i]? = some oi)
  (hw : Region.wanted oi (yielded ops a.tmps) = true) (hy : ∀ w, S w → (execOp a.eval oi).run P w = .ok (.value v) w) (hS : S w)
  (h : wpAnyH P md ops Q S fuel (listed.setIfInBounds i true) (a.put oi.dst v) w) : wpAnyH P md ops Q S (fuel + 1) listed a w := by
 simp only [Bool.and_eq_true] at hk
 exact wpAnyH_take hi hk.1.1 hk.1.2 hk.2 (fun c a w => hP _ _ c a w) (Or.inl ⟨hw, hy⟩) hS h
theorem sk (i : Nat) (hP : Pan Q) (hk : (Region.noSelect ops && Region.free md ops listed i && (Region.ready md ops listed).contains i) = true) (hi : ops[i]? = some oi)
  (hw : Region.wanted oi (yielded ops a.tmps) = false) (hS : S w)
  (h : wpAnyH P md ops Q S fuel (listed.setIfInBounds i true) (a.put oi.dst undef) w) : wpAnyH P md ops Q S (fuel + 1) listed a w := by
 simp only [Bool.and_eq_true] at hk
 exact wpAnyH_take hi hk.1.1 hk.1.2 hk.2 (fun c a w => hP _ _ c a w) (Or.inr ⟨hw, rfl⟩) hS h
theorem st (i : Nat) (hk : Region.ready md ops listed = [i]) (hi : ops[i]? = some oi)
  (h : ∀ K : Act → World → Prop, Shut (∀ a w, S w → (S w → wpAnyH P md ops Q S fuel (listed.setIfInBounds i true) a w) → K a w) → if Region.wanted oi (yielded ops a.tmps) = true then Oper.wp P oi a w K Q else K (a.put oi.dst undef) w) :
  wpAnyH P md ops Q S (fuel + 1) listed a w := wpAnyH_ready hk (by simp) (AllReadyH.cons hi h AllReadyH.nil)
end
end Go.Proofs.YtmacnhjbjembiaaGreatDoor
namespace Go.Proofs.YtmacnhjbjembiaaGreatDoor
open Go.RowKit W
open Pl (bval enc bv nb bv_nb nb_size_le nb_size_zero nb_size_mono nb_bv_size bv_lt cmpN nb_inj)
open Rq
def rawB (neg : Bool) (s t : ByteArray) : Bool := rightB s && rightB t && decide (t.size ≠ 0) && !(decide (s.size = 0) && neg) && decide (Nat.gcd (bv s) (bv t) = 1)
theorem rawB_s {neg : Bool} {s t : ByteArray} (h : rightB s = false) : rawB neg s t = false := by simp [rawB, h]
theorem rawB_t {neg : Bool} {s t : ByteArray} (h : rightB t = false) : rawB neg s t = false := by simp [rawB, h]
theorem rawB_den {neg : Bool} {s t : ByteArray} (h : t.size = 0) : rawB neg s t = false := by simp [rawB, h]
theorem rawB_neg {s t : ByteArray} (h : s.size = 0) : rawB true s t = false := by simp [rawB, h]
theorem bv_size0 {s : ByteArray} (h : s.size = 0) : bv s = 0 := by have := bv_lt s; rw [h] at this; simp at this; exact this
theorem rawB_zero {s t : ByteArray} (h : s.size = 0) (h2 : rightB t = true) (h3 : ¬ t.size = 0) : rawB false s t = decide (bv t = 1) := by
 simp only [rawB, rightB_nil h, h2, bv_size0 h, Nat.gcd_zero_left]
 simp [h3]
theorem rawB_gcd {neg : Bool} {s t : ByteArray} (h1 : rightB s = true) (h2 : rightB t = true) (h3 : ¬ t.size = 0) (h4 : ¬ s.size = 0) : rawB neg s t = decide (Nat.gcd (bv s) (bv t) = 1) := by
 simp [rawB, h1, h2, h3, h4]
end Go.Proofs.YtmacnhjbjembiaaGreatDoor
namespace Go.Proofs.YtmacnhjbjembiaaGreatDoor
open Go.RowKit W
open Pl (bval enc bv nb bv_nb nb_size_le nb_size_zero nb_size_mono nb_bv_size bv_lt cmpN nb_inj)
open Rq
theorem rightB_nb (n : Nat) : rightB (nb n) = true := by
 rcases Nat.eq_zero_or_pos (nb n).size with h | h
 ·exact rightB_nil h
 ·rw [rightB_get h]
  have h2 := Pl.tk_pos (n := n) (m := 1) (by omega) (by omega)
  have h3 := Pl.tk_succ (nb n) 0 h; rw [Pl.tk_zero, Nat.zero_mul, Nat.zero_add, Nat.zero_add] at h3; rw [h3] at h2
  simp only [bne_iff_ne, ne_eq]; omega
theorem rawB_rat (q : Rat) : rawB (decide (q.num < 0)) (nb q.num.natAbs) (nb q.den) = true := by
 have h1 := nb_pos q.den_pos; have h2 := q.reduced
 simp only [rawB, rightB_nb, bv_nb, Bool.true_and, Bool.and_eq_true, decide_eq_true_eq, Bool.not_eq_true', Bool.and_eq_false_iff, decide_eq_false_iff_not]
 refine ⟨⟨by omega, ?_⟩, h2⟩
 rcases Classical.em ((nb q.num.natAbs).size = 0) with h | h
 ·right; rw [nb_size_zero] at h; omega
 ·exact .inl h
end Go.Proofs.YtmacnhjbjembiaaGreatDoor
namespace Go.Proofs.YtmacnhjbjembiaaGreatDoor
open Go.RowKit W
open Pl (bval enc bv nb bv_nb nb_size_le nb_size_zero nb_size_mono nb_bv_size bv_lt cmpN nb_inj)
open Rq
theorem Sz_neg {q : Rat} {k : Nat} (h : Sz q k) : Sz (-q) k := by
 refine ⟨?_, ?_⟩
 ·rw [(neg_parts q).1]; exact h.1
 ·rw [(neg_parts q).2]; exact h.2
theorem Sz_mk {neg : Bool} {n d k : Nat} (hd : 0 < d) (h1 : (nb n).size ≤ k) (h2 : (nb d).size ≤ k) : Sz (mk neg n d) k := by
 refine ⟨?_, ?_⟩
 ·rw [mk_abs hd]; exact div_size h1
 ·rw [mk_den hd]; exact div_size h2
theorem Sz_add {p q : Rat} {a b : Nat} (hp : Sz p a) (hq : Sz q b) : Sz (p + q) (a + b + 1) := by
 have s3 := size_mul hp.1 hq.2; have s4 := size_mul hq.1 hp.2; have hd := Nat.mul_pos p.den_pos q.den_pos
 have s2 : (nb (p.den * q.den)).size ≤ a + b + 1 := Nat.le_trans (size_mul hp.2 hq.2) (by omega)
 by_cases h : decide (p.num < 0) = decide (q.num < 0)
 ·rw [← add_same h]
  exact Sz_mk hd (add_size s3 (by omega)) s2
 ·rcases Nat.lt_or_ge (p.num.natAbs * q.den) (q.num.natAbs * p.den) with hl | hl
  ·rw [← add_lt h hl]
   exact Sz_mk hd (Nat.le_trans (nb_size_mono (Nat.sub_le _ _)) (by omega)) s2
  ·rw [← add_ge h hl]
   exact Sz_mk hd (Nat.le_trans (nb_size_mono (Nat.sub_le _ _)) (by omega)) s2
theorem Sz_sub {p q : Rat} {a b : Nat} (hp : Sz p a) (hq : Sz q b) : Sz (p - q) (a + b + 1) := by
 rw [Rat.sub_eq_add_neg]; exact Sz_add hp (Sz_neg hq)
end Go.Proofs.YtmacnhjbjembiaaGreatDoor
