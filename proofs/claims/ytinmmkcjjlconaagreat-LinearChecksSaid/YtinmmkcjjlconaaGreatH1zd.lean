/- Parts of the proofs about this seat's statements. -/
import Derived.Test.YtinmmkcjjlconaaGreatH1zc
set_option maxRecDepth 100000
set_option maxHeartbeats 16000000
namespace Go.Proofs.YtinmmkcjjlconaaGreat
open Go.RowKit W
open Pl (nb)
open Lp (Tab wc cst S S_succ S_zero S_congr Q Inv0 Cert)
section
variable {m n N : Nat} {U T : Tab} {g F G : Nat → Rat} {A : Nat → Nat → Rat} {B C : Nat → Rat} {w0 w : World} {b : Nat}
structure CTp (m N : Nat) (U : Tab) (F : Nat → Rat) (b : Nat) (ar : Option Addr) (cr : Nat) (ab : Option Addr) (cb gc cc : Nat) (rv_ : Nat → Value) (T : Nat → Thing) : Prop where
  bx : T 0 = boxT b [.slice ar m cr, .slice ab m cb, .slice (some ⟨gc, 0, none⟩) (N + 1) cc]
  rs : T 1 = valsT (.slice ar m cr) ((List.range m).map rv_)
  bs : T 2 = intT (.slice ab m cb) ((List.range m).map fun i => .int .i64 (U.bas i : Int))
  co : T 3 = listT (.slice (some ⟨gc, 0, none⟩) (N + 1) cc) (raws (N + 1) F)
  ro : ∀ i, i < m → T (4 + i) = listT (rv_ i) (raws (N + 1) (rowF N U i))
def RTC (w0 W : World) (b m N : Nat) (U : Tab) (F : Nat → Rat) : Prop := ∃ ar cr ab cb gc cc rv_ T, Sep w0 W T ∧ CTp m N U F b ar cr ab cb gc cc rv_ T
theorem RT.toC (h : RT w0 w b m N U) : RTC w0 w b m N U (costF N U) := by
 obtain ⟨ar, cr, ab, cb, ac, cc, rv_, T, hS, hp⟩ := h
 obtain ⟨gc, rfl, _⟩ := (hS.lst hp.co).slr.get (show 0 < N + 1 by omega)
 exact ⟨ar, cr, ab, cb, gc, cc, rv_, T, hS, hp.bx, hp.rs, hp.bs, hp.co, hp.ro⟩
theorem RTC.congr (h : RTC w0 w b m N U F) (e : ∀ j, j ≤ N → F j = G j) : RTC w0 w b m N U G := by
 obtain ⟨ar, cr, ab, cb, gc, cc, rv_, T, hS, hp⟩ := h
 have e2 : raws (N + 1) F = raws (N + 1) G := raws_congr fun j hj => e j (by omega)
 exact ⟨ar, cr, ab, cb, gc, cc, rv_, T, hS, hp.bx, hp.rs, hp.bs, e2 ▸ hp.co, hp.ro⟩
theorem RTC.to (h : RTC w0 w b m N U F) (e : ∀ j, j ≤ N → F j = costF N (wc m U g) j) : RT w0 w b m N (wc m U g) := by
 obtain ⟨ar, cr, ab, cb, gc, cc, rv_, T, hS, hp⟩ := h.congr e
 exact ⟨ar, cr, ab, cb, _, cc, rv_, T, hS, hp.bx, hp.rs, hp.bs, hp.co, hp.ro⟩
theorem RTC.acc (h : RTC w0 w b m N U F) : Below w0.heap.size w0 w := by
 obtain ⟨ar, cr, ab, cb, gc, cc, rv_, T, hS, hp⟩ := h
 exact hS.acc
theorem RT.acc (h : RT w0 w b m N U) : Below w0.heap.size w0 w := h.toC.acc
theorem RTC.rowAt {i : Nat} (h : RTC w0 w b m N U F) (hi : i < m) : ∃ ga cr gb cb gQ cQ, w.cell? ⟨b, 0, none⟩ = some (.slice (some ⟨ga, 0, none⟩) m cr) ∧ w.cell? ⟨b, 1, none⟩ = some (.slice (some ⟨gb, 0, none⟩) m cb) ∧ w.cell? ⟨ga, i, none⟩ = some (.slice (some ⟨gQ, 0, none⟩) (N + 1) cQ) ∧ w.cell? ⟨gb, i, none⟩ = some (.int .i64 (U.bas i : Int)) ∧ ∀ j, j < N + 1 → E3 w gQ j (q3 (rowF N U i j)) := by
 obtain ⟨ar, cr, ab, cb, gc, cc, rv_, T, hS, hp⟩ := h
 obtain ⟨a, b, c, d, e, f, h1, h2, h3, h4, h5⟩ := RT.rowAt (U := ⟨U.a, U.b, U.bas, F, -F N⟩) ⟨ar, cr, ab, cb, _, cc, rv_, T, hS, hp.bx, hp.rs, hp.bs, by
  have e2 : raws (N + 1) F = raws (N + 1) (costF N ⟨U.a, U.b, U.bas, F, -F N⟩) := raws_congr fun j hj => by
   unfold costF
   split
   ·rfl
   ·obtain rfl : j = N := by omega
    exact (Rat.neg_neg _).symm
  exact e2 ▸ hp.co, hp.ro⟩ hi
 exact ⟨a, b, c, d, e, f, h1, h2, h3, h4, h5⟩
theorem RTC.of {M gc cc cr cb : Nat} {ar ab : Option Addr} {rv_ : Nat → Value} {T T' : Nat → Thing} {F' : Nat → Rat} (hM : N + 1 = M) (hS : Sep w0 w T') (hk : ∀ z, z ≠ 0 → z ≠ 3 → T' z = T z)
  (h0 : T' 0 = boxT b [.slice ar m cr, .slice ab m cb, .slice (some ⟨gc, 0, none⟩) M cc]) (h3 : T' 3 = listT (.slice (some ⟨gc, 0, none⟩) M cc) (raws M F'))
  (rs : T 1 = valsT (.slice ar m cr) ((List.range m).map rv_)) (bs : T 2 = intT (.slice ab m cb) ((List.range m).map fun i => .int .i64 (U.bas i : Int))) (ro : ∀ i, i < m → T (4 + i) = listT (rv_ i) (raws M (rowF N U i)))
  (e : ∀ j, j ≤ N → F' j = G j) : RTC w0 w b m N U G := by
 subst hM
 exact RTC.congr ⟨ar, cr, ab, cb, gc, cc, rv_, T', hS, h0, (hk 1 (by decide) (by decide)).trans rs, (hk 2 (by decide) (by decide)).trans bs, h3, fun i hi => (hk _ (by omega) (by omega)).trans (ro i hi)⟩ e
theorem Sep.intat {x g m c j : Nat} {F : Nat → Nat} {T : Nat → Thing} (hS : Sep w0 w T) (e : T x = intT (.slice (some ⟨g, 0, none⟩) m c) ((List.range m).map fun i => .int .i64 (F i : Int))) (hj : j < m) : w.cell? ⟨g, j, none⟩ = some (.int .i64 (F j : Int)) := by
 have hv := hS.ints e
 rw [(hv.rowC rfl).2 j (by simpa using hj)]
 simp [List.getD_eq_getElem?_getD, hj]
theorem Sep.rowat2 {x g m c j : Nat} {rv_ : Nat → Value} {u : Value} {T : Nat → Thing} (hS : Sep w0 w T) (e : T x = valsT (.slice (some ⟨g, 0, none⟩) m c) ((List.range m).map rv_)) (hj : j < m) (eu : rv_ j = u) : w.cell? ⟨g, j, none⟩ = some u := eu ▸ hS.rowat e (vals_at hj)
def mixF (N : Nat) (U : Tab) (g : Nat → Rat) (k j : Nat) : Rat := if j < k then g j else costF N U j
theorem mixF_zero : mixF N U g 0 = costF N U := funext fun _ => if_neg (by omega)
theorem mixF_set {k j : Nat} {q : Rat} (hq : q = g k) : upd (mixF N U g k) k q j = mixF N U g (k + 1) j := by
 unfold upd mixF
 by_cases e : j = k
 ·rw [if_pos e, if_pos (by omega), hq, e]
 ·rw [if_neg e]
  by_cases h : j < k
  ·rw [if_pos h, if_pos (by omega)]
  ·rw [if_neg h, if_neg (by omega)]
theorem mixF_all {j : Nat} (h : j ≤ N) : mixF N U g (N + 1) j = g j := if_pos (by omega)
def costP (N : Nat) (U : Tab) (g : Nat → Rat) (i j : Nat) : Rat := g j - S i (fun q => g (U.bas q) * rowF N U q j)
theorem costP_zero {j : Nat} : costP N U g 0 j = g j := by unfold costP; rw [S_zero]; grind
theorem costP_bas {i : Nat} (hI : Inv0 m N U) (hi : i < m) : costP N U g i (U.bas i) = g (U.bas i) := by
 unfold costP
 rw [Lp.S_eq0 fun q hq => by rw [row_lt (hI.bas i hi), hI.unit q i (by omega) hi, if_neg (by omega), Rat.mul_zero]]
 grind
theorem costP_succ {i : Nat} (hI : Inv0 m N U) (hi : i < m) (j : Nat) : costP N U g i j - costP N U g i (U.bas i) * rowF N U i j = costP N U g (i + 1) j := by
 rw [costP_bas hI hi]; unfold costP; rw [S_succ]
 grind
theorem costP_end (hg : g N = 0) {j : Nat} (hj : j ≤ N) : costP N U g m j = costF N (wc m U g) j := by
 by_cases h : j < N
 ·rw [cost_lt h]
  unfold costP
  rw [S_congr fun q _ => by rw [row_lt h]]
  rfl
 ·obtain rfl : j = N := by omega
  rw [cost_end]; unfold costP
  rw [S_congr fun q _ => by rw [row_end], hg]
  show 0 - S m (fun q => g (U.bas q) * U.b q) = -S m (fun q => g (U.bas q) * U.b q)
  grind
theorem costP_Sz (hm : m ≤ 100) (hI : Inv0 m N U) (hg : ∀ j, j ≤ N → Sz (g j) 40000) (hr : ∀ i j, i < m → j ≤ N → Sz (rowF N U i j) 40000) {i j : Nat} (hi : i ≤ m) (hj : j ≤ N) : Sz (costP N U g i j) 16000000 := by
 have h1 := Sz_S (n := m) (k := 80000) (f := fun q => g (U.bas q) * rowF N U q j) (fun q hq => Sz_mul (hg _ (Nat.le_of_lt (hI.bas q hq))) (hr q j hq hj)) i hi
 refine (Sz_sub (hg j hj) h1).mono ?_
 have := Nat.mul_le_mul_left 80001 (Nat.le_trans hi hm)
 omega
def bsolP (T : Tab) (j i : Nat) : Rat := S i (fun q => if T.bas q = j then T.b q else 0)
theorem bsolP_zero {j : Nat} : bsolP T j 0 = 0 := S_zero _
theorem bsolP_hit {i j : Nat} (hI : Inv0 m N T) (hi : i < m) (e : T.bas i = j) : bsolP T j (i + 1) = T.b i := by
 unfold bsolP
 rw [S_succ, if_pos e, Lp.S_eq0 fun q hq => if_neg fun e2 => absurd (hI.inj (show q < m by omega) hi (e2.trans e.symm)) (by omega)]
 exact Rat.zero_add _
theorem bsolP_miss {i j : Nat} (e : T.bas i ≠ j) : bsolP T j (i + 1) = bsolP T j i := by
 unfold bsolP; rw [S_succ, if_neg e]
 exact Rat.add_zero _
theorem bsolP_Sz {i j K : Nat} (hK : 8 ≤ K) (hI : Inv0 m N T) (hr : ∀ i, i < m → Sz (T.b i) K) (hi : i ≤ m) : Sz (bsolP T j i) K := by
 induction i with
 | zero => rw [bsolP_zero]; exact Sz_zero.mono hK
 | succ i ih =>
  by_cases e : T.bas i = j
  ·rw [bsolP_hit hI (by omega) e]; exact hr i (by omega)
  ·rw [bsolP_miss e]; exact ih (by omega)
theorem certR (w : Lp.Way m n A B T) (hh : ¬ Lp.Bas m T (n + m)) (he : Lp.End m (n + m + 1) (· < n + m) (cst n C) T) : Cert m n A B C (fun j => bsolP T j m) (fun i => -costF (n + m + 1) (wc m T (cst n C)) (n + i)) (wc m T (cst n C)).v := by
 obtain ⟨h1, ⟨h2, h3⟩, h4, h5⟩ := Lp.cert_of (C := C) w.inv w.req w.src w.pos hh (fun j hj => he j (by omega) hj)
 have e : ∀ i, i < m → -costF (n + m + 1) (wc m T (cst n C)) (n + i) = S m (fun q => cst n C (T.bas q) * T.a q (n + i)) := fun i hi => by
  rw [cost_lt (by omega)]
  show -(cst n C (n + i) - S m (fun q => cst n C (T.bas q) * T.a q (n + i))) = _
  rw [show cst n C (n + i) = 0 from if_neg (by omega)]
  grind
 refine ⟨h1, ⟨fun i hi => ?_, fun j hj => ?_⟩, h4, ?_⟩
 ·show 0 ≤ -costF (n + m + 1) (wc m T (cst n C)) (n + i)
  rw [e i hi]; exact h2 i hi
 ·have h6 : S m (fun i => A i j * -costF (n + m + 1) (wc m T (cst n C)) (n + i)) = S m (fun i => A i j * S m (fun q => cst n C (T.bas q) * T.a q (n + i))) := S_congr fun i hi => by rw [e i hi]
  show C j ≤ S m (fun i => A i j * -costF (n + m + 1) (wc m T (cst n C)) (n + i))
  rw [h6]; exact h3 j hj
 ·have h6 : S m (fun i => B i * -costF (n + m + 1) (wc m T (cst n C)) (n + i)) = S m (fun i => B i * S m (fun q => cst n C (T.bas q) * T.a q (n + i))) := S_congr fun i hi => by rw [e i hi]
  show S m (fun i => B i * -costF (n + m + 1) (wc m T (cst n C)) (n + i)) = _
  rw [h6]; exact h5
theorem unbR {s : Nat} (w : Lp.Way m n A B T) (hh : ¬ Lp.Bas m T (n + m)) (hf : Lp.Free m (n + m + 1) id (· < n + m) (cst n C) T s) : Lp.Out m n A B C 2 :=
 .unb (Lp.unb_of w.inv w.req w.pos hh hf.als hf.cs hf.no)
structure FitR (m n : Nat) (A : Nat → Nat → Rat) (B C : Nat → Rat) : Prop where
  h : ∀ V, Lp.Way m n A B V → ∀ j, j ≤ n + m + 1 → Sz (costF (n + m + 1) (wc m V (Lp.hc (n + m))) j) 40000
  c : ∀ V, Lp.Way m n A B V → ∀ j, j ≤ n + m + 1 → Sz (costF (n + m + 1) (wc m V (cst n C)) j) 40000
theorem wcost_Q {D H E K j : Nat} (hb : Lp.Bnd m N D H T) (hg : ∀ j, Q E K (g j)) (hI : Inv0 m N T) (hj : j ≤ N) : Q (E * D) ((m + 1) * (K * H)) (costF N (wc m T g) j) := by
 have e : (m + 1) * (K * H) = K * H + m * (K * H) := by rw [Nat.add_mul]; omega
 by_cases h : j < N
 ·rw [cost_lt h, e]
  show Q _ _ (g j - S m (fun q => g (T.bas q) * T.a q j))
  exact (((hg j).scale D).mono (Nat.mul_le_mul_left _ hb.le)).sub (Lp.Q_dot (fun i _ => hg _) (fun i hi => hb.a i j hi h) m (Nat.le_refl _))
 ·obtain rfl : j = N := by omega
  rw [cost_end]
  show Q _ _ (-S m (fun q => g (T.bas q) * T.b q))
  exact (Lp.Q_dot (fun i _ => hg _) (fun i hi => hb.b i hi) m (Nat.le_refl _)).neg.mono (by omega)
theorem Small.costs {D H s K : Nat} (h : Small m n A B C D H s) (hm : m < 100) (hk : 7 + s + 2 ^ m * (s + 1) ≤ 8 * K) {V : Tab} (w : Lp.Way m n A B V) (hg : ∀ j, Q D H (g j)) {j : Nat} (hj : j ≤ n + m + 1) : Sz (costF (n + m + 1) (wc m V g) j) K := by
 have h0 := Lp.tab0_bnd h.d0 h.dh h.a h.b; have hgr := Lp.grow_lt m H s h.hs; obtain ⟨F, hF⟩ := w.bnd h0; have hq := wcost_Q hF hg w.inv hj; have hp1 : D * F ≤ H * Lp.grow m H := Nat.mul_le_mul h.dh hF.le; have hp2 : H * Lp.grow m H < 2 ^ s * 2 ^ (2 ^ m * (s + 1)) := Nat.mul_lt_mul'' h.hs hgr
 have hp3 : (m + 1) * (H * Lp.grow m H) < 2 ^ (7 + s + 2 ^ m * (s + 1)) := by
  rw [show 7 + s + 2 ^ m * (s + 1) = 7 + (s + 2 ^ m * (s + 1)) by omega, Nat.pow_add, Nat.pow_add]
  exact Nat.mul_lt_mul'' (by omega) hp2
 exact Sz_Q (Nat.mul_pos h.d0 hF.pos) hq (Nat.le_trans hp1 (Nat.le_mul_of_pos_left _ (by omega))) hp3 (by omega)
theorem Small.fitR {D H s : Nat} (h : Small m n A B C D H s) (hm : m < 100) (hk : 7 + s + 2 ^ m * (s + 1) ≤ 320000) : FitR m n A B C where
 h := fun V w j hj => h.costs hm hk w (fun j => by
  unfold Lp.hc
  split
  ·exact int_Q (z := -1) (by have := h.dh; simpa using this)
  ·exact Q.zero _ _) hj
 c := fun V w j hj => h.costs hm hk w (cst_Q h.c) hj
structure SzV (m n : Nat) (A : Nat → Nat → Rat) (B C : Nat → Rat) (K : Nat) : Prop where
  b : ∀ V, Lp.Way m n A B V → ∀ i, i < m → Sz (V.b i) K
  c : ∀ V, Lp.Way m n A B V → ∀ j, j ≤ n + m + 1 → Sz (costF (n + m + 1) (wc m V (cst n C)) j) K
theorem Small.szV {D H s K : Nat} (h : Small m n A B C D H s) (hm : m < 100) (hk : 7 + s + 2 ^ m * (s + 1) ≤ 8 * K) : SzV m n A B C K where
 b := fun V w i hi => by
  obtain ⟨F, hF⟩ := w.bnd (Lp.tab0_bnd h.d0 h.dh h.a h.b)
  exact Sz_Q hF.pos (hF.b i hi) hF.le (Lp.grow_lt m H s h.hs) (by omega)
 c := fun V w j hj => h.costs hm hk w (cst_Q h.c) hj
theorem plan_fitR (zs : List Int) (m n : Nat) (hm : m ≤ 6) : FitR m n (plA zs n) (plB zs n) (plC zs m n) := (plan_small zs m n).fitR (by omega) (by
 have := Nat.pow_le_pow_right (n := 2) (by decide) hm
 omega)
theorem plan_szV (zs : List Int) (m n : Nat) (hm : m ≤ 6) : SzV m n (plA zs n) (plB zs n) (plC zs m n) 100 := (plan_small zs m n).szV (by omega) (by
 have := Nat.pow_le_pow_right (n := 2) (by decide) hm
 omega)
theorem Fit.rows (f : Fit m n A B) {V : Tab} (w : Lp.Way m n A B V) {i j : Nat} (hi : i < m) (_hj : j ≤ n + m + 1) : Sz (rowF (n + m + 1) V i j) 40000 := by
 unfold rowF
 split
 ·next h => exact f.a V w i j hi h
 ·exact f.b V w i hi
theorem Fit.row0 (f : Fit m n A B) {i j : Nat} (hi : i < m) (_hj : j ≤ n + m + 1) : Sz (rowF (n + m + 1) (Lp.tab0 m n A B) i j) 40000 := by
 unfold rowF
 split
 ·exact f.t i j hi
 ·exact f.r i hi
end
end Go.Proofs.YtinmmkcjjlconaaGreat
