/- Parts of the proofs about this seat's statements. -/
import Derived.Test.YtmacnhjbjembiaaGreatDoorY1234567q
import Derived.Test.YtmacnhjbjembiaaGreatDoorY1234567r
namespace Go.Proofs.YtmacnhjbjembiaaGreatDoor
open Go.RowKit W Go.Shelf
open Pl (uv vn vs fitO makeO roundO p10 cmpI oN oS oB dtext)
open Pl (nb bv bv_nb nb_size_zero)
open Iv
attribute [local go_sem] Oper.semAt_some
def mm1 (o : Option (Int × Int)) (x : Int) : Option (Int × Int) := match o with
  | none => some (x, x)
  | some p => some (if x < p.1 then x else p.1, if p.2 < x then x else p.2)
def mm (l : List Zb) : Option (Int × Int) := l.foldl (fun o x => mm1 o x.1) none
theorem mm_snoc (l : List Zb) (x : Zb) : mm (l ++ [x]) = mm1 (mm l) x.1 := by simp [mm, List.foldl_append]
def vR (q : Rat) : List Value := [.bool (decide (q.num < 0)), .string (nb q.num.natAbs), .string (nb q.den)]
def vL (K : Nat) (o : Option Int) : List Value := match o with
  | none => [.bool false, .string ⟨#[]⟩, .string ⟨#[]⟩]
  | some z => vR (rK K z)
theorem Rx.keptG {w w' : World} {g : Nat} {vs : List Value} {row : Option Nat} (h : Rx w g vs) (hg : w.grownBy w' row) (hne : row ≠ some g) : Rx w' g vs :=
 ⟨Nat.lt_of_lt_of_le h.1 hg.size, fun i _ hv => ⟨(World.cell?_of_block (hg.block g h.1 (fun e => hne e.symm))).trans (h.at i hv), (World.frozen?_of_block (hg.block g h.1 (fun e => hne e.symm))).trans (h.fr i hv)⟩⟩
structure EI (K b6 b7 b8 : Nat) (w : World) (pre : List Zb) (W : World) : Prop where
  l : Rx W b6 (vL K ((mm pre).map Prod.fst))
  g : Rx W b7 (vL K ((mm pre).map Prod.snd))
  f : Rx W b8 [.bool (mm pre).isNone]
  b : Below w.heap.size w W
theorem EI.below {K b6 b7 b8 : Nat} {w W W' : World} {pre : List Zb} (h : EI K b6 b7 b8 w pre W) (hb : Below W.heap.size W W') : EI K b6 b7 b8 w pre W' :=
 ⟨h.l.below hb, h.g.below hb, h.f.below hb, h.b.trans (hb.mono h.b.size)⟩
theorem EI.own {K b6 b7 b8 B : Nat} {w : World} (h6 : b6 < B) (h7 : b7 < B) (h8 : b8 < B) (hw : w.heap.size ≤ B) : OwnFrom B (EI K b6 b7 b8 w) := by
 intro s A C row hs hg hr
 have ne : ∀ k, k < B → row ≠ some k := fun k hk e => by have := (hr k e).1; omega
 exact ⟨hs.l.keptG hg (ne _ h6), hs.g.keptG hg (ne _ h7), hs.f.keptG hg (ne _ h8), hs.b.grown hg hs.b.size (fun k e => by have := (hr k e).1; omega)⟩
structure RK (T : Nat → Prop) (B0 B : Nat) (W W' : World) : Prop where
  k : KeepsFrom B W W'
  p : KP T B0 W W'
theorem RK.refl {T : Nat → Prop} {B0 B : Nat} (W : World) : RK T B0 B W W := ⟨KeepsFrom.refl _ _, KeptC.refl _, Below.refl _ _⟩
theorem RK.below {T : Nat → Prop} {B0 B : Nat} {W W' W2 : World} (h : RK T B0 B W W') (hb : Below W'.heap.size W' W2) (hB : B0 ≤ W'.heap.size) : RK T B0 B W W2 :=
 ⟨h.k.trans ⟨hb.size, fun k _ _ hk _ => (hb.block k (Array.getElem?_eq_some_iff.1 hk).1).trans hk⟩, h.p.t (KP.below hb hB)⟩
theorem RK.set {T : Nat → Prop} {B0 B : Nat} {W W' : World} (h : RK T B0 B W W') {p : Addr} (hT : T p.block) (hB : B0 ≤ p.block) (u : Value) : RK T B0 B W (W'.setCell p u) :=
 ⟨h.k.trans ((KeepsOthers.setCell _ _ _).from _), h.p.t ⟨fun k _ _ _ hk hc => by rw [Below.heap_setCell _ _ _ _ (fun e => hk (by rw [e]; exact hT))]; exact hc, (Below.refl _ _).setCell hB u⟩⟩
def AxE (K B : Nat) (a0 : Nat → Value → Act) (x : Zb) (a' : Act) (W : World) : Prop := ∃ B9, B ≤ B9 ∧ W.heap[B9]? = some (.cells (vR (rK K x.1)).toArray 92 (0, 0)) ∧ a' = a0 B9 (rv (rK K x.1))
theorem AxE.own {K B : Nat} {a0 : Nat → Value → Act} (x : Zb) (a' : Act) : OwnFrom B (fun (_ : Unit) W => AxE K B a0 x a' W) := by
 rintro s A C row ⟨B9, h1, h2, h3⟩ hg hr
 refine ⟨B9, h1, ?_, h3⟩
 rw [hg.block B9 (Array.getElem?_eq_some_iff.1 h2).1 (fun e => by
  obtain ⟨_, o, ho, hc⟩ := hr B9 e.symm
  rw [h2] at ho; cases ho; cases hc)]
 exact h2
structure Cands (fop K : Nat) (x y : Int × Int) (xs : List Zb) : Prop where
  it : ∀ (Ba Bb Bo : Nat) (T : Nat → Prop) (w0 w1 : World), GI w0 → Below w0.heap.size w0 w1 → (∀ k, T k → k < w1.heap.size) → ¬ T Ba → ¬ T Bb → ¬ T Bo →
    w1.heap[Ba]? = some (.cells #[.int .i64 (Dn x.1), .int .i64 (Ds x.1), .int .i64 (Dn x.2), .int .i64 (Ds x.2)] 30 (0, 0)) →
    w1.heap[Bb]? = some (.cells #[.int .i64 (Dn y.1), .int .i64 (Ds y.1), .int .i64 (Dn y.2), .int .i64 (Ds y.2)] 30 (0, 0)) →
    w1.heap[Bo]? = some (.cells #[.func (.func fop) #[] #[]] 87 (0, 0)) →
    SeqStopsK Fence.wide 8 Tryz.prog 144 #[.pointer (some ⟨Ba, 0, none⟩), .pointer (some ⟨Bb, 0, none⟩), .pointer (some ⟨Bo, 0, none⟩)] (fun z : Zb => #[rv (rK K z.1)]) (KP T w0.heap.size) (fun ys => ys = xs) (fun _ => True) 4 w1
  sz : ∀ z : Zb, Sz (rK K z.1) 33554432
  kp : 0 < K
theorem cands_of {fop K : Nat} {fz : Int → Int → Int} (hb : ∀ u v, InR u → InR v → (fz u v).natAbs ≤ 10000000000000000000000000000000000000000000) (x y : Int × Int) (hx : InP x) (hy : InP y) (hK : 0 < K) (hsz : ∀ z : Zb, Sz (rK K z.1) 33554432)
    (hc : ∀ (l Ba Bb Bo : Nat) (T : Nat → Prop) (J Jx : List Zb → World → Prop) (w0 : World), GI w0 →
      (∀ pre x W, J pre W → pre.length < 4 → YieldAt Fence.wide (8 - 1) Tryz.prog l #[rv (rK K x.1)] W fun e W' => (e = .returned (.bool true) ∧ J (pre ++ [x]) W' ∧ KP T w0.heap.size W W') ∨ (e = .returned (.bool false) ∧ Jx (pre ++ [x]) W')) →
      ∀ (W : World), Below w0.heap.size w0 W → AbidesFrom W.heap.size J → (∀ k, T k → k < W.heap.size) → ¬ T Ba → ¬ T Bb → ¬ T Bo →
      W.heap[Ba]? = some (.cells #[.int .i64 (Dn x.1), .int .i64 (Ds x.1), .int .i64 (Dn x.2), .int .i64 (Ds x.2)] 30 (0, 0)) →
      W.heap[Bb]? = some (.cells #[.int .i64 (Dn y.1), .int .i64 (Ds y.1), .int .i64 (Dn y.2), .int .i64 (Ds y.2)] 30 (0, 0)) →
      W.heap[Bo]? = some (.cells #[.func (.func fop) #[] #[]] 87 (0, 0)) → J [] W →
      CallsIn Fence.wide 8 Tryz.prog 144 #[.func (.yield l) #[] #[], .pointer (some ⟨Ba, 0, none⟩), .pointer (some ⟨Bb, 0, none⟩), .pointer (some ⟨Bo, 0, none⟩)] W fun e W' => (∃ v, e = .returned v) ∧ ((∃ ys, ys = cnds fz hb x y hx hy ∧ J ys W') ∨ (∃ pre, True ∧ Jx pre W'))) :
    Cands fop K x y (cnds fz hb x y hx hy) := by
  refine ⟨?_, hsz, hK⟩
  intro Ba Bb Bo T w0 w1 hG h01 hT hTa hTb hTo hA hB hO l J Jx W hW hJ _ hY h0
  have bl : ∀ {k : Nat} {o : Obj}, w1.heap[k]? = some o → W.heap[k]? = some o := fun h => (hW.block _ (Array.getElem?_eq_some_iff.1 h).1).trans h
  exact hc l Ba Bb Bo T J Jx w0 hG hY W (h01.trans (hW.mono h01.size)) hJ (fun k hk => Nat.lt_of_lt_of_le (hT k hk) hW.size) hTa hTb hTo (bl hA) (bl hB) (bl hO) h0
end Go.Proofs.YtmacnhjbjembiaaGreatDoor
namespace Go.Proofs.YtmacnhjbjembiaaGreatDoor
open Iv
def m4 (a b c d : Int) : Int × Int := (min (min a b) (min c d), max (max a b) (max c d))
theorem mm_four (a b c d : Zb) : mm [a, b, c, d] = some (m4 a.1 b.1 c.1 d.1) := by
 simp only [mm, List.foldl_cons, List.foldl_nil, mm1, m4, Option.some.injEq, Prod.mk.injEq]
 constructor
 ·repeat' split
  all_goals omega
 ·repeat' split
  all_goals omega
theorem mm_cnds (fz : Int → Int → Int) (hb : ∀ u v, InR u → InR v → (fz u v).natAbs ≤ 10000000000000000000000000000000000000000000) (p q : Int × Int) (hp : InP p) (hq : InP q) :
  mm (cnds fz hb p q hp hq) = some (m4 (fz p.1 q.1) (fz p.1 q.2) (fz p.2 q.1) (fz p.2 q.2)) := by
 unfold cnds; rw [mm_four]
 rfl
theorem bd_add {u v : Int} (hu : InR u) (hv : InR v) : (u + v).natAbs ≤ 10000000000000000000000000000000000000000000 := by have := inR_bd hu; have := inR_bd hv; omega
theorem bd_mul {u v : Int} (hu : InR u) (hv : InR v) : (u * v).natAbs ≤ 10000000000000000000000000000000000000000000 := by
 rw [Int.natAbs_mul]
 have h1 : u.natAbs ≤ 1000000000000000000000 := by have := inR_bd hu; omega
 have h2 : v.natAbs ≤ 1000000000000000000000 := by have := inR_bd hv; omega
 exact Nat.le_trans (Nat.mul_le_mul h1 h2) (by decide)
def outR (z : Int × Int) : Int × Int := (blw z.1, -blw (-z.2))
def outM (z : Int × Int) : Int × Int := (blw (z.1 / 1000000), -blw (-z.2 / 1000000))
theorem fl6 (z : Int) : fl (rK 1000000 z) 6 = z := by
 rw [fl_rK z (by decide), show ((1000000 : Nat) : Int) = 1000000 by decide, show (10 : Int) ^ 6 = 1000000 by decide, Int.mul_ediv_cancel _ (by decide)]
theorem fl12 (z : Int) : fl (rK 1000000000000 z) 6 = z / 1000000 := by
 rw [fl_rK z (by decide), show ((1000000000000 : Nat) : Int) = 1000000 * 1000000 by decide, show (10 : Int) ^ 6 = 1000000 by decide, Int.mul_ediv_mul_of_pos_left _ _ (by decide)]
def siB (p : Int × Int) : Bool := decide (p.1 = p.2)
end Go.Proofs.YtmacnhjbjembiaaGreatDoor
namespace Go.Proofs.YtmacnhjbjembiaaGreatDoor
open Iv
def c4 (f : Int → Int → Int) (p q : Int × Int) : Int × Int := m4 (f p.1 q.1) (f p.1 q.2) (f p.2 q.1) (f p.2 q.2)
def opP (out : Int × Int → Int × Int) (f : Int → Int → Int) (p q : Int × Int) : Int × Int := if p.2 < p.1 ∨ q.2 < q.1 then (1000000, 0) else out (c4 f p q)
def smB (f : Int → Int → Int) (one : Int → Int → Bool) (p q : Int × Int) : Bool := if p.2 < p.1 ∨ q.2 < q.1 then true else (decide (-1000000000000000 ≤ (c4 f p q).1) && decide ((c4 f p q).2 ≤ 1000000000000000)) || (siB p && siB q && one p.1 q.1)
def mlB (one : Int → Int → Bool) (p q : Int × Int) : Bool := if p.2 < p.1 ∨ q.2 < q.1 then true else siB p && siB q && one p.1 q.1
theorem nrm_em (p : Int × Int) : (nrm p).2 < (nrm p).1 ↔ p.2 < p.1 := by
 by_cases h : p.2 < p.1
 ·rw [nrm_yes h]; simp [h]
 ·rw [nrm_no h]
theorem opP_nrm (out : Int × Int → Int × Int) (f : Int → Int → Int) (p q : Int × Int) : opP out f (nrm p) (nrm q) = opP out f p q := by
 unfold opP
 simp only [nrm_em]
 split
 ·rfl
 ·next h => rw [nrm_no (fun e => h (.inl e)), nrm_no (fun e => h (.inr e))]
theorem smB_nrm (f : Int → Int → Int) (one : Int → Int → Bool) (p q : Int × Int) : smB f one (nrm p) (nrm q) = smB f one p q := by
 unfold smB
 simp only [nrm_em]
 split
 ·rfl
 ·next h => rw [nrm_no (fun e => h (.inl e)), nrm_no (fun e => h (.inr e))]
theorem mlB_nrm (one : Int → Int → Bool) (p q : Int × Int) : mlB one (nrm p) (nrm q) = mlB one p q := by
 unfold mlB
 simp only [nrm_em]
 split
 ·rfl
 ·next h => rw [nrm_no (fun e => h (.inl e)), nrm_no (fun e => h (.inr e))]
end Go.Proofs.YtmacnhjbjembiaaGreatDoor
