/- Parts of the proofs about this seat's statements. -/
import Derived.Test.YtmacnhjbjembiaaGreatDoorY1234567e
import Derived.Test.YtmacnhjbjembiaaGreatDoorY1234567h
import Derived.Test.YtmacnhjbjembiaaGreatDoorRows
import Derived.Test.YtmacnhjbjembiaaGreatDoorTie
import Derived.Test.YtmacnhjbjembiaaGreatDoorCards
import Derived.ProofKit
import Derived.OpenShut
import Derived.LaidMore
import Derived.Stop.Joined
import Derived.Stop.LaidErr
import Derived.Lib.LaidTab
import Derived.Shelf.Vars
import Derived.MakeChecks
import Derived.Lib.SmallJoins
import Derived.Carry
import Derived.SevenTiedAt
namespace Go.Proofs.YtmacnhjbjembiaaGreatDoor
open Go.RowKit W
open Pl (uv vn vs fitO makeO roundO p10 cmpI oN oS oB dtext)
open Iv
theorem Rx.put4 {w : World} {g : Nat} {a b c d : Value} (h : Rx w g [a, b, c, d]) (x y z t : Value) : Rx ((((w.setCell ⟨g, 0, none⟩ x).setCell ⟨g, 1, none⟩ y).setCell ⟨g, 2, none⟩ z).setCell ⟨g, 3, none⟩ t) g [x, y, z, t] := (((h.put 0 x (by simp)).put 1 y (by simp)).put 2 z (by simp)).put 3 t (by simp)
def ITens (w : World) : Prop := ∀ k : Nat, k < 7 → w.cell? ⟨3, k, none⟩ = some (.int .i64 (10 ^ k))
theorem ITens.lt {w : World} (h : ITens w) : 3 < w.heap.size := World.block_lt_of_cell? w _ (h 0 (by omega))
theorem ITens.below {w w' : World} (h : ITens w) (hb : Below w.heap.size w w') : ITens w' := fun k hk => by
 rw [hb.cell (p := ⟨3, k, none⟩) h.lt]; exact h k hk
structure GI (w : World) : Prop where
  gl : Gl w
  it : ITens w
theorem GI.below {w w' : World} (h : GI w) (hb : Below w.heap.size w w') : GI w' := ⟨h.gl.below hb, h.it.below hb⟩
abbrev rg (a b c d : Int) : Value := .agg #[.int .i64 a, .int .i64 b, .int .i64 c, .int .i64 d]
abbrev dc (a b : Int) : Value := .agg #[.int .i64 a, .int .i64 b]
abbrev gv (p : Int × Int) : Value := rg (Dn p.1) (Ds p.1) (Dn p.2) (Ds p.2)
theorem ret_b {a b : Bool} (h : a = b) : Ending.returned (.bool a) = .returned (.bool b) := by rw [h]
end Go.Proofs.YtmacnhjbjembiaaGreatDoor
namespace Go.Proofs.YtmacnhjbjembiaaGreatDoor
open Go.ChangeShapes Go.WideShapes Go.ChangeAt Go.RowKit Go.Joins
theorem own : ownKnob Tryz.prog.godebug = none := by kernel_rfl
theorem laidOut : laidOutB Tryz.prog = true := by kernel_rfl
def laidL : List (String × DataW Unit) := Rows.intervalRoundsRow.laid
theorem wrap_shaped {H : Type} {enc : TypeId × Value → H} {a : Assume} {C : Checked} {os : Os} {f : FuncId} {fn : Func} {s : ChangeSpec} {conds : List PathCond} {apart fresh handsOn again : Bool} {X : World → Array Value → Prop}
  (hX : ∀ (w w' : World) (args : Array Value), w.heap = w'.heap → X w args → X w' args)
  (own : ownKnob C.prog.godebug = none) (started : os.Started) (noInit : C.prog.inits.idxOf? f = none) (hfn : C.prog.funcs[f]? = some fn)
  (witness : ∃ (w : World) (tape : Tape) (i : Input), w.os = os ∧ (w.forCall tape i).Shaped C.prog ∧ i.vars = [] ∧ Input.okWide C.prog (w.forCall tape i) .any w.heap.size f i ∧
   ((s.pre enc C.prog fn conds apart (w.forCall tape i).memory i.args ∧ X (w.forCall tape i).memory i.args) ∧ sizedMet enc C.prog fn (OpenSpec.ofChange s) apart (w.forCall tape i).memory i.args) ∧ a.holds C.prog (lone (Frame.enter C.prog f i.args .normal) [] (w.forCall tape i)))
  (contract : ∀ (W : World) (base : Nat) (args : Array Value) (ds gs : List (DataW H)) (before : List MemPlace),
   (∀ (j : Nat) t v, fn.params[j]? = some t → args[j]? = some v → Value.okWide C.prog W .any base t v) →
   DataW.Whole enc C.prog fn.params.toList s.vars apart W args.toList ds gs before →
   (DataW.weightsEach C.prog (fn.params.toList ++ s.plain.varTypes C.prog) (ds ++ gs)).all (· ≤ reachBytes) = true → X W args → W.ShapedOpen C.prog →
   Calls C.prog f args W fun e W' => ∃ v, e = .returned v ∧ s.post enc C.prog fn apart fresh handsOn again W args v W') :
  ReturnsInHanded a C os f .any (fun w args => (s.pre enc C.prog fn conds apart w args ∧ X w args) ∧ sizedMet enc C.prog fn (OpenSpec.ofChange s) apart w args) (s.post enc C.prog fn apart fresh handsOn again) := by
 refine returnsInHanded_of_calls own started noInit witness ?_
 intro w tape i _ hsh _ hok hpre hholds
 obtain ⟨_, _, _, fn', hfn', _, _, _, _, hval⟩ := hok; have e : fn' = fn := Option.some.inj (hfn'.symm.trans hfn); subst e; obtain ⟨⟨⟨ds, gs, before, hw, hc⟩, hx⟩, hz⟩ := hpre
 have hw' := DataW.Whole.of_heap (w' := w.forCall tape i) (by rfl) hw
 refine (contract (w.forCall tape i) w.heap.size i.args ds gs before hval hw' (hz.weights hw) (hX _ _ _ (by rfl) hx) hsh).mono fun e W' ⟨v, he, hp⟩ => ?_
 subst he
 exact ChangeSpec.post_blind hp
theorem gTens : Tryz.prog.globalNamed "concord/decimal.tens" = some 0 := by kernel_rfl
theorem gPow : Tryz.prog.globalNamed "internal/strconv.uint64pow10" = some 4 := by kernel_rfl
theorem cell_u64 : Tryz.prog.cellsOf 127 = 1 := by kernel_rfl
theorem cell_int : Tryz.prog.cellsOf 3 = 1 := by kernel_rfl
theorem cell_a20 : Tryz.prog.cellsOf 177 = 20 := by kernel_rfl
theorem cell_a7 : Tryz.prog.cellsOf 107 = 7 := by kernel_rfl
theorem pow_lit : Lib.pow10Tab = [1, 10, 100, 1000, 10000, 100000, 1000000, 10000000, 100000000, 1000000000, 10000000000, 100000000000, 1000000000000, 10000000000000, 100000000000000, 1000000000000000, 10000000000000000, 100000000000000000, 1000000000000000000, 10000000000000000000] := by decide +kernel
theorem gl_of_laid {W : World} (h : laidMetH Tryz.prog laidL W) (hsh : W.ShapedOpen Tryz.prog) : Gl W := by
 rw [MakeChecks.laidMetH_plain _ _ _ (by kernel_rfl)] at h
 have h3 := laidMet.tail (laidMet.tail h); have h4 := laidMet.tail h3
 have t3 : Lib.TabIs Tryz.prog W "internal/strconv.uint64pow10" .u64 Lib.pow10Tab := by
  rw [pow_lit]
  exact Lib.tabIs_of_head (zs := [1, 10, 100, 1000, 10000, 100000, 1000000, 10000000, 100000000, 1000000000, 10000000000, 100000000000, 1000000000000, 10000000000000, 100000000000000, 1000000000000000, 10000000000000000, 100000000000000000, 1000000000000000000, 10000000000000000000]) gPow (by kernel_rfl) Tryz.underlying177 Tryz.underlying127 cell_u64 cell_a20 h3
 have t4 : Lib.TabIs Tryz.prog W "concord/decimal.tens" .i64 [1, 10, 100, 1000, 10000, 100000, 1000000] :=
  Lib.tabIs_of_head (zs := [1, 10, 100, 1000, 10000, 100000, 1000000]) gTens (by kernel_rfl) Tryz.underlying107 Tryz.underlying3 cell_int cell_a7 h4
 refine ⟨fun k hk => ?_, t3, World.block_lt_of_cell? W _ (t3.cell gPow 0 (by decide +kernel)), ?_⟩
 ·rw [t4.cell gTens k hk]
  have : k = 0 ∨ k = 1 ∨ k = 2 ∨ k = 3 ∨ k = 4 ∨ k = 5 ∨ k = 6 := by omega
  rcases this with rfl | rfl | rfl | rfl | rfl | rfl | rfl <;> rfl
 ·exact cell_of_shapedOpen_int (t := 3) (zero := #[.int .i64 0]) hsh (by decide +kernel) (by kernel_rfl) rfl (by kernel_rfl) (by kernel_rfl) Tryz.underlying3
theorem gITens : Tryz.prog.globalNamed "concord/interval.tens" = some 3 := by kernel_rfl
theorem gi_of_laid {W : World} (h0 : laidMetH Tryz.prog laidL W) (hsh : W.ShapedOpen Tryz.prog) : GI W := by
 have hg := gl_of_laid h0 hsh; have h := h0
 rw [MakeChecks.laidMetH_plain _ _ _ (by kernel_rfl)] at h
 have h5 := laidMet.tail (laidMet.tail (laidMet.tail (laidMet.tail h)))
 have t5 : Lib.TabIs Tryz.prog W "concord/interval.tens" .i64 [1, 10, 100, 1000, 10000, 100000, 1000000] :=
  Lib.tabIs_of_head (zs := [1, 10, 100, 1000, 10000, 100000, 1000000]) gITens (by kernel_rfl) Tryz.underlying107 Tryz.underlying3 cell_int cell_a7 h5
 refine ⟨hg, fun k hk => ?_⟩
 rw [t5.cell gITens k hk]
 have : k = 0 ∨ k = 1 ∨ k = 2 ∨ k = 3 ∨ k = 4 ∨ k = 5 ∨ k = 6 := by omega
 rcases this with rfl | rfl | rfl | rfl | rfl | rfl | rfl <;> rfl
theorem door_met (os : Os) (args : Array Value) : laidMetH Tryz.prog laidL ((World.doorLaid Tryz.prog 29 os).forCall (fun _ _ => 0) ⟨#[], args, []⟩).memory :=
 laidMetH_of_parts3 (fuel := 8) (laidMet_of_run' 8 (by kernel_rfl) (by kernel_rfl)) (by kernel_rfl) (by kernel_rfl)
theorem below_trodAll {H : Type} {enc : TypeId × Value → H} {P : Program} (hl : laidOutB P = true) {W W' : World} (hb : Below W.heap.size W W') :
    ∀ {ts : List TypeId} {vs : List Value} {ds : List (DataW H)} {ps : List MemPlace}, (ts.all fun t => P.readableRec t && decide (t < P.types.size)) = true → (∀ x ∈ ps, x.block < W.heap.size) →
      DataW.TrodAll enc P W 0 (fun _ => true) true ts vs ds ps → DataW.TrodAll enc P W' 0 (fun b => decide (b < W.heap.size)) true ts vs ds ps
  | [], _, _, _, _, _, h => by
    obtain ⟨rfl, rfl, rfl⟩ := trodAll_nil h
    exact trodAll_mk0
  | t :: ts, _, _, _, ha, hlt, h => by
    obtain ⟨v, vs', d, ds', p, q, rfl, rfl, rfl, h1, h2⟩ := trodAll_cons h
    simp only [List.all_cons, Bool.and_eq_true, decide_eq_true_eq] at ha
    exact trodAll_cons_mk (Below.trod hl ha.1.1 ha.1.2 h1 hb (fun x hx => hlt x (List.mem_append.2 (.inl hx)))) (below_trodAll hl hb ha.2 (fun x hx => hlt x (List.mem_append.2 (.inr hx))) h2)
theorem law_post {H : Type} {enc : TypeId × Value → H} {fn : Func} {s : ChangeSpec} {W W' : World} {args : Array Value} {ds gs : List (DataW H)} {before : List MemPlace}
  (hv : s.vars = []) (hW : DataW.Whole enc Tryz.prog fn.params.toList s.vars false W args.toList ds gs before)
  (hr : fn.resultTypes = #[4]) (hs : s.fn H (ds ++ []) = { results := [.lit (.bool true)], args := ds })
  (ha : (fn.params.toList.all fun t => Tryz.prog.readableRec t && decide (t < Tryz.prog.types.size)) = true) (hb : Below W.heap.size W W') :
  s.post enc Tryz.prog fn false true false false W args (.bool true) W' := by
 have hW' := hW; obtain ⟨p, q, hA, hV, rfl, hfz, hnd⟩ := hW; rw [hv] at hV; obtain ⟨rfl, rfl⟩ := trodVars_none hV
 refine ⟨ds, [], p ++ [], [], p, [], hW', ?_, ?_, ?_, hb.frame _, fun h => by cases h⟩
 ·rw [hs, hr]; exact trodAll_mk1 (shut_bool Tryz.underlying4 _)
 ·rw [hs]; exact below_trodAll laidOut hb ha (fun x hx => hW'.lt x (by simpa using hx)) hA
 ·rw [hs, hv]; rfl
def FA (R : TypeId → Value → Prop) : List TypeId → List Value → Prop
  | [], [] => True
  | u :: us, c :: cs => R u c ∧ FA R us cs
  | _, _ => False
theorem fa_of {R : TypeId → Value → Prop} : ∀ (ts : List TypeId) (l : List Value), l.length = ts.length → (∀ (i : Nat) (v : Value), l[i]? = some v → ∃ u, ts[i]? = some u ∧ R u v) → FA R ts l
 | [], [], _, _ => trivial
 | u :: us, c :: cs, hl, h => by
  refine ⟨?_, fa_of us cs (by simpa using hl) (fun i v hv => by have := h (i + 1) v (by simpa using hv); simpa using this)⟩
  obtain ⟨u', h1, h2⟩ := h 0 c rfl
  cases h1; exact h2
theorem open_cells {P : Program} {W : World} {base : Nat} {t : TypeId} {v : Value} {ts : List TypeId} (hs : (∃ fs, P.underlying t = some (.struct fs)) ∨ (∃ n e, P.underlying t = some (.array n e))) (hct : P.cellTypes P.depth t = some ts) (hn : P.cellsOf t = ts.length)
  (hv : Value.okWide P W .any base t v) : ∃ l : List Value, v = .agg l.toArray ∧ FA (Cell.okWide P W .any base) ts l := by
 have key : ∃ cs, v = .agg cs ∧ cs.size = P.cellsOf t ∧ Row.okWide P W .any base t cs := by
  rcases hs with ⟨fs, h⟩ | ⟨n, e, h⟩ <;> (simp only [Value.okWide, h] at hv; exact hv)
 obtain ⟨cs, rfl, hsz, ts', hct', _, hall⟩ := key; rw [hct] at hct'
 cases hct'
 refine ⟨cs.toList, by simp, fa_of ts cs.toList (by simpa [hn] using hsz) (fun i v hv => ?_)⟩
 have hi : i < ts.length := by
  have := (List.getElem?_eq_some_iff.1 hv).1; rw [← hn, ← hsz]; simpa using this
 obtain ⟨u, h1, h2⟩ := hall i v (by simpa using hv)
 rw [Nat.mod_eq_of_lt hi] at h1
 exact ⟨u, h1, h2⟩
theorem fa_nil {R : TypeId → Value → Prop} {l : List Value} (h : FA R [] l) : l = [] := by
 cases l with
 | nil => rfl
 | cons => exact h.elim
theorem fa_int {P : Program} {W : World} {base : Nat} {u : TypeId} {us : List TypeId} {l : List Value} {q : IntKind} (hu : P.underlying u = some (.int q)) (h : FA (Cell.okWide P W .any base) (u :: us) l) :
  ∃ (n : Int) (l' : List Value), l = .int q n :: l' ∧ (q.min ≤ n ∧ n ≤ q.max) ∧ FA (Cell.okWide P W .any base) us l' := by
 cases l with
 | nil => exact h.elim
 | cons c cs =>
  obtain ⟨h1, h2⟩ := h; unfold Cell.okWide at h1; rw [hu] at h1
  cases c with
  | int k n =>
   simp only [Cell.ok, hu] at h1
   obtain ⟨rfl, hb⟩ := h1
   exact ⟨n, cs, rfl, hb, h2⟩
  | _ => exfalso; revert h1; simp [Cell.ok, hu]
end Go.Proofs.YtmacnhjbjembiaaGreatDoor
namespace Go.Proofs.YtmacnhjbjembiaaGreatDoor
open Go.RowKit W
open Pl (uv vn vs fitO makeO roundO p10 cmpI oN oS oB dtext)
open Iv
set_option maxRecDepth 100000 in
set_option maxHeartbeats 4000000 in
theorem iempty0_any  (w : World)  :
  Calls Tryz.prog 49 #[] w fun e w' => e = .returned (gv (nrm (1, 0))) ∧ Below w.heap.size w w' := by
 have HE : Hid (gv (nrm (1, 0)) = .agg #[.int .i64 1, .int .i64 0, .int .i64 0, .int .i64 0]) := Lib.hid (by rw [nrm_yes (by decide)]; show rg _ _ _ _ = _; rw [D_one.1, D_one.2, D_zero.1, D_zero.2])
 go_enter Tryz.func49, Tryz.ntmps49
 have ⟨bR, hacc⟩ := opn1 w [.int .i64 0, .int .i64 0, .int .i64 0, .int .i64 0] 30
 go_upto_region 1 with fail
 generalize w.alloc (.cells #[.int .i64 0, .int .i64 0, .int .i64 0, .int .i64 0] 30) = W0 at *; obtain ⟨gR, hgR⟩ : ∃ g, g = w.heap.size := ⟨_, rfl⟩; rw [← hgR] at bR
 simp only [← hgR]
 have kgR : w.heap.size ≤ gR := by omega
 clear hgR; have g0 := bR.fr 0 rfl; have g1 := bR.fr 1 rfl; have g2 := bR.fr 2 rfl; have g3 := bR.fr 3 rfl; have ⟨cgR0, fgR0, cgR1, fgR1, cgR2, fgR2, cgR3, fgR3⟩ := bR.all4
 go_wp2_with fail
 refine bodyPost_ret (v := .agg #[.int .i64 1, .int .i64 0, .int .i64 0, .int .i64 0]) (by simp [results, Tryz.results49, go_sem, cgR0, cgR1, cgR2, cgR3]) rfl ⟨by rw [HE.out], ((((hacc.setCell kgR _).setCell kgR _).setCell kgR _).setCell kgR _)⟩
set_option maxRecDepth 100000 in
set_option maxHeartbeats 4000000 in
theorem iright_any (n s : Int) (w : World)  :
  Calls Tryz.prog 115 #[.agg #[.int .i64 n, .int .i64 s]] w fun e w' => e = .returned (dc (vn n s) (vs n s)) ∧ Below w.heap.size w w' := by
 by_cases h : Pl.rightB n s = true
 ·have e1 := Lib.hid ((Pl.v_right h).1)
  have e2 := Lib.hid ((Pl.v_right h).2)
  go_enter Tryz.func115, Tryz.ntmps115
  have ⟨bA, bR, hacc⟩ := opn2 w [.int .i64 n, .int .i64 s] [.int .i64 0, .int .i64 0] 24 24
  go_upto_region 1 with fail
  generalize (w.alloc (.cells #[.int .i64 n, .int .i64 s] 24)).alloc (.cells #[.int .i64 0, .int .i64 0] 24) = W0 at *; generalize hgR : w.heap.size + 1 = gR at *; obtain ⟨gA, hgA⟩ : ∃ g, g = w.heap.size := ⟨_, rfl⟩; rw [← hgA] at bA
  simp only [← hgA]
  have ngAgR : gA ≠ gR := by omega
  have kgA : w.heap.size ≤ gA := by omega
  have kgR : w.heap.size ≤ gR := by omega
  clear hgA hgR; have ⟨cgA0, fgA0, cgA1, fgA1⟩ := bA.all2
  go_wp2_with fail
  clear cgA0 fgA0 cgA1 fgA1
  with_reducible refine (right_any n s _).mono ?_
  rw [h]; rintro e wZ ⟨rfl, hbX⟩; replace hacc := hacc.trans (hbX.mono hacc.size); replace bA := bA.below hbX; replace bR := bR.below hbX; clear hbX; have ⟨cgA0, fgA0, cgA1, fgA1⟩ := bA.all2; have ⟨cgR0, fgR0, cgR1, fgR1⟩ := bR.all2
  go_wp2_with fail
  refine bodyPost_ret (v := .agg #[.int .i64 n, .int .i64 s]) (by simp [results, Tryz.results115, go_sem, cgR0, cgR1]) rfl ⟨by rw [e1.out, e2.out], ((hacc.setCell kgR _).setCell kgR _)⟩
 ·have e1 := Lib.hid ((uv_not h).2.1)
  have e2 := Lib.hid ((uv_not h).2.2)
  have h : Pl.rightB n s = false := by simpa using h
  go_enter Tryz.func115, Tryz.ntmps115
  have ⟨bA, bR, hacc⟩ := opn2 w [.int .i64 n, .int .i64 s] [.int .i64 0, .int .i64 0] 24 24
  go_upto_region 1 with fail
  generalize (w.alloc (.cells #[.int .i64 n, .int .i64 s] 24)).alloc (.cells #[.int .i64 0, .int .i64 0] 24) = W0 at *; generalize hgR : w.heap.size + 1 = gR at *; obtain ⟨gA, hgA⟩ : ∃ g, g = w.heap.size := ⟨_, rfl⟩; rw [← hgA] at bA
  simp only [← hgA]
  have ngAgR : gA ≠ gR := by omega
  have kgA : w.heap.size ≤ gA := by omega
  have kgR : w.heap.size ≤ gR := by omega
  clear hgA hgR; have ⟨cgA0, fgA0, cgA1, fgA1⟩ := bA.all2
  go_wp2_with fail
  clear cgA0 fgA0 cgA1 fgA1
  with_reducible refine (right_any n s _).mono ?_
  rw [h]; rintro e wZ ⟨rfl, hbX⟩; replace hacc := hacc.trans (hbX.mono hacc.size); replace bA := bA.below hbX; replace bR := bR.below hbX; clear hbX; have ⟨cgA0, fgA0, cgA1, fgA1⟩ := bA.all2; have ⟨cgR0, fgR0, cgR1, fgR1⟩ := bR.all2
  go_wp2_with fail
  refine bodyPost_ret (v := .agg #[.int .i64 0, .int .i64 0]) (by simp [results, Tryz.results115, go_sem, cgR0, cgR1]) rfl ⟨by rw [e1.out, e2.out], ((hacc.setCell kgR _).setCell kgR _)⟩
set_option maxRecDepth 100000 in
set_option maxHeartbeats 4000000 in
theorem iEmpty_any (a b c d : Int) (w : World) (hG : GI w) :
  Calls Tryz.prog 37 #[.agg #[.int .i64 a, .int .i64 b, .int .i64 c, .int .i64 d]] w fun e w' => e = .returned (.bool (decide (uv c d < uv a b))) ∧ Below w.heap.size w w' := by
 have HE := Lib.hid (cmpI_gt (a := uv a b) (b := uv c d))
 go_enter Tryz.func37, Tryz.ntmps37
 have ⟨bA, hacc⟩ := opn1 w [.int .i64 a, .int .i64 b, .int .i64 c, .int .i64 d] 30
 go_upto_region 1 with fail
 generalize w.alloc (.cells #[.int .i64 a, .int .i64 b, .int .i64 c, .int .i64 d] 30) = W0 at *; obtain ⟨gA, hgA⟩ : ∃ g, g = w.heap.size := ⟨_, rfl⟩; rw [← hgA] at bA
 simp only [← hgA]
 have kgA : w.heap.size ≤ gA := by omega
 clear hgA; have ⟨cgA0, fgA0, cgA1, fgA1, cgA2, fgA2, cgA3, fgA3⟩ := bA.all4
 go_wp2_with fail
 clear cgA0 fgA0 cgA1 fgA1 cgA2 fgA2 cgA3 fgA3
 with_reducible refine (dcmp_any a b c d _ (hG.below hacc).gl.tens).mono ?_
 rintro e wZ ⟨rfl, hbX⟩; replace hacc := hacc.trans (hbX.mono hacc.size); replace bA := bA.below hbX; clear hbX; generalize cmpI (uv a b) (uv c d) = z at *
 go_wp2_with fail
 go_ret
 exact ⟨ret_b (decide_eq_decide.2 HE.out), hacc⟩
set_option maxRecDepth 100000 in
set_option maxHeartbeats 4000000 in
theorem inormal_any (a b c d : Int) (w : World) (hG : GI w) :
  Calls Tryz.prog 67 #[.agg #[.int .i64 a, .int .i64 b, .int .i64 c, .int .i64 d]] w fun e w' => e = .returned (gv (nrm (uv a b, uv c d))) ∧ Below w.heap.size w w' := by
 by_cases h : uv c d < uv a b
 ·have hd : decide (uv c d < uv a b) = true := decide_eq_true h
  have HE : Hid (gv (nrm (uv a b, uv c d)) = gv (nrm (1, 0))) := Lib.hid (by rw [nrm_yes (p := (uv a b, uv c d)) h, nrm_yes (p := (1, 0)) (by decide)])
  have H0 := Lib.hid (fun W => iempty0_any W)
  simp only [gv, rg] at H0
  generalize hx : nrm (1, 0) = p0 at *; clear hx
  go_enter Tryz.func67, Tryz.ntmps67
  have ⟨bA, bR, hacc⟩ := opn2 w [.int .i64 a, .int .i64 b, .int .i64 c, .int .i64 d] [.int .i64 0, .int .i64 0, .int .i64 0, .int .i64 0] 30 30
  go_upto_region 1 with fail
  generalize (w.alloc (.cells #[.int .i64 a, .int .i64 b, .int .i64 c, .int .i64 d] 30)).alloc (.cells #[.int .i64 0, .int .i64 0, .int .i64 0, .int .i64 0] 30) = W0 at *; generalize hgR : w.heap.size + 1 = gR at *; obtain ⟨gA, hgA⟩ : ∃ g, g = w.heap.size := ⟨_, rfl⟩; rw [← hgA] at bA
  simp only [← hgA]
  have ngAgR : gA ≠ gR := by omega
  have kgA : w.heap.size ≤ gA := by omega
  have kgR : w.heap.size ≤ gR := by omega
  clear hgA hgR; have ⟨cgA0, fgA0, cgA1, fgA1, cgA2, fgA2, cgA3, fgA3⟩ := bA.all4
  go_wp2_with fail
  clear cgA0 fgA0 cgA1 fgA1 cgA2 fgA2 cgA3 fgA3
  with_reducible refine (iEmpty_any a b c d _ (hG.below hacc)).mono ?_
  rw [hd]; rintro e wZ ⟨rfl, hbX⟩; replace hacc := hacc.trans (hbX.mono hacc.size); replace bA := bA.below hbX; replace bR := bR.below hbX; clear hbX
  go_wp2_with fail
  with_reducible refine (H0.out _).mono ?_
  rintro e wZ ⟨rfl, hbX⟩; replace hacc := hacc.trans (hbX.mono hacc.size); replace bA := bA.below hbX; replace bR := bR.below hbX; clear hbX; have cgR0 := bR.at 0 rfl; have fgR0 := bR.fr 0 rfl; have cgR1 := bR.at 1 rfl; have fgR1 := bR.fr 1 rfl; have cgR2 := bR.at 2 rfl; have fgR2 := bR.fr 2 rfl; have cgR3 := bR.at 3 rfl; have fgR3 := bR.fr 3 rfl; have cgR0 := bR.at 0 rfl; have fgR0 := bR.fr 0 rfl
  have cgR1 := bR.at 1 rfl; have fgR1 := bR.fr 1 rfl; have cgR2 := bR.at 2 rfl; have fgR2 := bR.fr 2 rfl; have cgR3 := bR.at 3 rfl; have fgR3 := bR.fr 3 rfl
  go_wp2_with fail
  refine bodyPost_ret (v := .agg #[.int .i64 (Dn p0.1), .int .i64 (Ds p0.1), .int .i64 (Dn p0.2), .int .i64 (Ds p0.2)]) (by simp [results, Tryz.results67, go_sem, cgR0, cgR1, cgR2, cgR3]) rfl ⟨by rw [HE.out], ((((hacc.setCell kgR _).setCell kgR _).setCell kgR _).setCell kgR _)⟩
 ·have hd : decide (uv c d < uv a b) = false := decide_eq_false h
  have HE : Hid (gv (nrm (uv a b, uv c d)) = rg (vn a b) (vs a b) (vn c d) (vs c d)) := Lib.hid (by rw [nrm_no (p := (uv a b, uv c d)) h]; show rg _ _ _ _ = _; rw [(D_uv a b).1, (D_uv a b).2, (D_uv c d).1, (D_uv c d).2])
  go_enter Tryz.func67, Tryz.ntmps67
  have ⟨bA, bR, hacc⟩ := opn2 w [.int .i64 a, .int .i64 b, .int .i64 c, .int .i64 d] [.int .i64 0, .int .i64 0, .int .i64 0, .int .i64 0] 30 30
  go_upto_region 1 with fail
  generalize (w.alloc (.cells #[.int .i64 a, .int .i64 b, .int .i64 c, .int .i64 d] 30)).alloc (.cells #[.int .i64 0, .int .i64 0, .int .i64 0, .int .i64 0] 30) = W0 at *; generalize hgR : w.heap.size + 1 = gR at *; obtain ⟨gA, hgA⟩ : ∃ g, g = w.heap.size := ⟨_, rfl⟩; rw [← hgA] at bA
  simp only [← hgA]
  have ngAgR : gA ≠ gR := by omega
  have kgA : w.heap.size ≤ gA := by omega
  have kgR : w.heap.size ≤ gR := by omega
  clear hgA hgR; have ⟨cgA0, fgA0, cgA1, fgA1, cgA2, fgA2, cgA3, fgA3⟩ := bA.all4
  go_wp2_with fail
  clear cgA0 fgA0 cgA1 fgA1 cgA2 fgA2 cgA3 fgA3
  with_reducible refine (iEmpty_any a b c d _ (hG.below hacc)).mono ?_
  rw [hd]; rintro e wZ ⟨rfl, hbX⟩; replace hacc := hacc.trans (hbX.mono hacc.size); replace bA := bA.below hbX; replace bR := bR.below hbX; clear hbX
  go_upto_region 3 with fail
  replace hacc := hacc.drew; replace bA := bA.drew; replace bR := bR.drew
  refine wp_held (S := (fun w' => w'.cell? ⟨gA, 0, none⟩ = some (.int .i64 a) ∧ w'.cell? ⟨gA, 1, none⟩ = some (.int .i64 b) ∧ w'.cell? ⟨gA, 2, none⟩ = some (.int .i64 c) ∧ w'.cell? ⟨gA, 3, none⟩ = some (.int .i64 d))) (by kernel_rfl) (fun hP WD hWD => ?_)
  simp only [← hWD.out] at hacc bA bR
  clear hWD
  refine ⟨?_, fun hHeld => ?_⟩
  ·try dsimp only
   with_reducible exact q4 bA
  refine tk (oi := ?_) (v := ?_) 0 hP (by kernel_rfl) ?_ ?_ ?_ hHeld ?_; rotate_left 2
  (conv => lhs; whnf; arg 1; whnf); kernel_rfl; focus (intro w hSw; (try dsimp only at hSw); go_simp; all_goals with_reducible rfl)
  simp only [Act.put, sA, sB, sC]
  refine tk (oi := ?_) (v := ?_) 1 hP (by kernel_rfl) ?_ ?_ ?_ hHeld ?_; rotate_left 2
  (conv => lhs; whnf; arg 1; whnf); kernel_rfl; focus (intro w hSw; (try dsimp only at hSw); go_simp; all_goals with_reducible rfl)
  simp only [Act.put, sA, sB, sC]
  refine tk (oi := ?_) (v := ?_) 3 hP (by kernel_rfl) ?_ ?_ ?_ hHeld ?_; rotate_left 2
  (conv => lhs; whnf; arg 1; whnf); kernel_rfl; focus (intro w hSw; (try dsimp only at hSw); go_simp; all_goals with_reducible rfl)
  simp only [Act.put, sA, sB, sC]
  refine tk (oi := ?_) (v := ?_) 4 hP (by kernel_rfl) ?_ ?_ ?_ hHeld ?_; rotate_left 2
  (conv => lhs; whnf; arg 1; whnf); kernel_rfl; focus (intro w hSw; (try dsimp only at hSw); go_simp; all_goals with_reducible rfl)
  simp only [Act.put, sA, sB, sC]
  refine st (oi := ?_) 2 (by kernel_rfl) ?_ (fun KK hK => ?_); rotate_left; (conv => lhs; whnf; arg 1; whnf)
  go_simp
  with_reducible refine (iright_any a b _).mono ?_
  rintro e wZ ⟨rfl, hbX⟩; replace hacc := hacc.trans (hbX.mono hacc.size); replace bA := bA.below hbX; replace bR := bR.below hbX; clear hbX
  (first | refine hK.out _ _ ?_ (fun hHeldN => ?_) | (go_wp2_with fail; refine hK.out _ _ ?_ (fun hHeldN => ?_)))
  ·try dsimp only
   with_reducible exact q4 bA
  replace hHeld := hHeldN; clear hK KK hHeldN
  try simp only [Act.put, sA, sB, sC]
  refine st (oi := ?_) 5 (by kernel_rfl) ?_ (fun KK hK => ?_); rotate_left; (conv => lhs; whnf; arg 1; whnf)
  go_simp
  with_reducible refine (iright_any c d _).mono ?_
  rintro e wZ ⟨rfl, hbX⟩; replace hacc := hacc.trans (hbX.mono hacc.size); replace bA := bA.below hbX; replace bR := bR.below hbX; clear hbX
  (first | refine hK.out _ _ ?_ (fun hHeldN => ?_) | (go_wp2_with fail; refine hK.out _ _ ?_ (fun hHeldN => ?_)))
  ·try dsimp only
   with_reducible exact q4 bA
  replace hHeld := hHeldN; clear hK KK hHeldN
  try simp only [Act.put, sA, sB, sC]
  refine tk (oi := ?_) (v := ?_) 6 hP (by kernel_rfl) ?_ ?_ ?_ hHeld ?_; rotate_left 2
  (conv => lhs; whnf; arg 1; whnf); kernel_rfl; focus (intro w hSw; (try dsimp only at hSw); go_simp; all_goals with_reducible rfl)
  simp only [Act.put, sA, sB, sC]
  refine st (oi := ?_) 7 (by kernel_rfl) ?_ (fun KK hK => ?_); rotate_left; (conv => lhs; whnf; arg 1; whnf)
  have ⟨cgR0, fgR0, cgR1, fgR1, cgR2, fgR2, cgR3, fgR3⟩ := bR.all4; replace hacc := (((hacc.setCell (p := ⟨gR, 0, none⟩) kgR (.int .i64 (vn a b))).setCell (p := ⟨gR, 1, none⟩) kgR (.int .i64 (vs a b))).setCell (p := ⟨gR, 2, none⟩) kgR (.int .i64 (vn c d))).setCell (p := ⟨gR, 3, none⟩) kgR (.int .i64 (vs c d)); replace bA := ((((bA.other (p := ⟨gR, 0, none⟩) (Ne.symm ngAgR) (.int .i64 (vn a b))).other (p := ⟨gR, 1, none⟩) (Ne.symm ngAgR) (.int .i64 (vs a b))).other (p := ⟨gR, 2, none⟩) (Ne.symm ngAgR) (.int .i64 (vn c d))).other (p := ⟨gR, 3, none⟩) (Ne.symm ngAgR) (.int .i64 (vs c d)))
  replace bR := bR.put4 (.int .i64 (vn a b)) (.int .i64 (vs a b)) (.int .i64 (vn c d)) (.int .i64 (vs c d))
  go_simp
  clear cgR0 fgR0 cgR1 fgR1 cgR2 fgR2 cgR3 fgR3; generalize (((wZ.setCell ⟨gR, 0, none⟩ (.int .i64 (vn a b))).setCell ⟨gR, 1, none⟩ (.int .i64 (vs a b))).setCell ⟨gR, 2, none⟩ (.int .i64 (vn c d))).setCell ⟨gR, 3, none⟩ (.int .i64 (vs c d)) = WS at *
  (first | refine hK.out _ _ ?_ (fun hHeldN => ?_) | (go_wp2_with fail; refine hK.out _ _ ?_ (fun hHeldN => ?_)))
  ·try dsimp only
   with_reducible exact q4 bA
  replace hHeld := hHeldN; clear hK KK hHeldN
  try simp only [Act.put, sA, sB, sC]
  refine wpAnyH_done (by kernel_rfl) ?_ _
  refine NoPanic.normal ?_
  have ⟨cgR0, fgR0, cgR1, fgR1, cgR2, fgR2, cgR3, fgR3⟩ := bR.all4
  go_wp2_with fail
  refine bodyPost_ret (v := .agg #[.int .i64 (vn a b), .int .i64 (vs a b), .int .i64 (vn c d), .int .i64 (vs c d)]) (by simp [results, Tryz.results67, go_sem, cgR0, cgR1, cgR2, cgR3]) rfl ⟨by rw [HE.out], hacc⟩
end Go.Proofs.YtmacnhjbjembiaaGreatDoor
namespace Go.Proofs.YtmacnhjbjembiaaGreatDoor
open Go.RowKit W
open Pl (uv vn vs fitO makeO roundO p10 cmpI oN oS oB dtext)
open Iv
theorem iEmpty_D (u v : Int) (w : World) (hG : GI w) (hu : InR u) (hv : InR v) :
  Calls Tryz.prog 37 #[rg (Dn u) (Ds u) (Dn v) (Ds v)] w fun e w' => e = .returned (.bool (decide (v < u))) ∧ Below w.heap.size w w' := by
 have h := iEmpty_any (Dn u) (Ds u) (Dn v) (Ds v) w hG; rw [uv_D hu, uv_D hv] at h
 exact h
end Go.Proofs.YtmacnhjbjembiaaGreatDoor
namespace Go.Proofs.YtmacnhjbjembiaaGreatDoor
open Go.RowKit W
open Pl (uv vn vs fitO makeO roundO p10 cmpI oN oS oB dtext)
open Iv
set_option maxRecDepth 100000 in
set_option maxHeartbeats 4000000 in
theorem iespan_any  (w : World)  :
  Calls Tryz.prog 53 #[] w fun e w' => e = .returned (.agg #[.int .i64 1, .int .i64 0]) ∧ Below w.heap.size w w' := by
 go_enter Tryz.func53, Tryz.ntmps53
 have ⟨bR, hacc⟩ := opn1 w [.int .i64 0, .int .i64 0] 42
 go_upto_region 1 with fail
 generalize w.alloc (.cells #[.int .i64 0, .int .i64 0] 42) = W0 at *; obtain ⟨gR, hgR⟩ : ∃ g, g = w.heap.size := ⟨_, rfl⟩; rw [← hgR] at bR
 simp only [← hgR]
 have kgR : w.heap.size ≤ gR := by omega
 clear hgR; have cgR0 := bR.at 0 rfl; have fgR0 := bR.fr 0 rfl; have cgR1 := bR.at 1 rfl; have fgR1 := bR.fr 1 rfl; have cgR0 := bR.at 0 rfl; have fgR0 := bR.fr 0 rfl; have cgR1 := bR.at 1 rfl; have fgR1 := bR.fr 1 rfl
 go_wp2_with fail
 refine bodyPost_ret (v := .agg #[.int .i64 1, .int .i64 0]) (by simp [results, Tryz.results53, go_sem, cgR0, cgR1]) rfl ⟨rfl, ((hacc.setCell kgR _).setCell kgR _)⟩
set_option maxRecDepth 100000 in
set_option maxHeartbeats 4000000 in
theorem inspan_any (a b : Int) (w : World)  :
  Calls Tryz.prog 82 #[.agg #[.int .i64 a, .int .i64 b]] w fun e w' => e = .returned (.agg #[.int .i64 (nsp (a, b)).1, .int .i64 (nsp (a, b)).2]) ∧ Below w.heap.size w w' := by
 by_cases h : b < a
 ·have HE : Hid (nsp (a, b) = (1, 0)) := Lib.hid (by unfold nsp; rw [if_pos h])
  go_enter Tryz.func82, Tryz.ntmps82
  have ⟨bA, bR, hacc⟩ := opn2 w [.int .i64 a, .int .i64 b] [.int .i64 0, .int .i64 0] 42 42
  go_upto_region 1 with fail
  generalize (w.alloc (.cells #[.int .i64 a, .int .i64 b] 42)).alloc (.cells #[.int .i64 0, .int .i64 0] 42) = W0 at *; generalize hgR : w.heap.size + 1 = gR at *; obtain ⟨gA, hgA⟩ : ∃ g, g = w.heap.size := ⟨_, rfl⟩; rw [← hgA] at bA
  simp only [← hgA]
  have ngAgR : gA ≠ gR := by omega
  have kgA : w.heap.size ≤ gA := by omega
  have kgR : w.heap.size ≤ gR := by omega
  clear hgA hgR; have ⟨cgA0, fgA0, cgA1, fgA1⟩ := bA.all2; have ⟨cgR0, fgR0, cgR1, fgR1⟩ := bR.all2
  go_wp2_with fail
  clear cgA0 fgA0 cgA1 fgA1 cgR0 fgR0 cgR1 fgR1
  with_reducible refine (iespan_any _).mono ?_
  rintro e wZ ⟨rfl, hbX⟩; replace hacc := hacc.trans (hbX.mono hacc.size); replace bA := bA.below hbX; replace bR := bR.below hbX; clear hbX; have cgR0 := bR.at 0 rfl; have fgR0 := bR.fr 0 rfl; have cgR1 := bR.at 1 rfl; have fgR1 := bR.fr 1 rfl; have cgR0 := bR.at 0 rfl; have fgR0 := bR.fr 0 rfl; have cgR1 := bR.at 1 rfl; have fgR1 := bR.fr 1 rfl
  go_wp2_with fail
  refine bodyPost_ret (v := .agg #[.int .i64 1, .int .i64 0]) (by simp [results, Tryz.results82, go_sem, cgR0, cgR1]) rfl ⟨by rw [HE.out], ((hacc.setCell kgR _).setCell kgR _)⟩
 ·have HE : Hid (nsp (a, b) = (a, b)) := Lib.hid (by unfold nsp; rw [if_neg h])
  go_enter Tryz.func82, Tryz.ntmps82
  have ⟨bA, bR, hacc⟩ := opn2 w [.int .i64 a, .int .i64 b] [.int .i64 0, .int .i64 0] 42 42
  go_upto_region 1 with fail
  generalize (w.alloc (.cells #[.int .i64 a, .int .i64 b] 42)).alloc (.cells #[.int .i64 0, .int .i64 0] 42) = W0 at *; generalize hgR : w.heap.size + 1 = gR at *; obtain ⟨gA, hgA⟩ : ∃ g, g = w.heap.size := ⟨_, rfl⟩; rw [← hgA] at bA
  simp only [← hgA]
  have ngAgR : gA ≠ gR := by omega
  have kgA : w.heap.size ≤ gA := by omega
  have kgR : w.heap.size ≤ gR := by omega
  clear hgA hgR; have ⟨cgA0, fgA0, cgA1, fgA1⟩ := bA.all2; have cgR0 := bR.at 0 rfl; have fgR0 := bR.fr 0 rfl; have cgR1 := bR.at 1 rfl; have fgR1 := bR.fr 1 rfl; have cgR0 := bR.at 0 rfl; have fgR0 := bR.fr 0 rfl; have cgR1 := bR.at 1 rfl; have fgR1 := bR.fr 1 rfl
  go_wp2_with fail
  refine bodyPost_ret (v := .agg #[.int .i64 a, .int .i64 b]) (by simp [results, Tryz.results82, go_sem, cgR0, cgR1]) rfl ⟨by rw [HE.out], ((hacc.setCell kgR _).setCell kgR _)⟩
set_option maxRecDepth 100000 in
set_option maxHeartbeats 4000000 in
theorem imspan_any (a b c d : Int) (w : World)  :
  Calls Tryz.prog 32 #[.agg #[.int .i64 a, .int .i64 b], .agg #[.int .i64 c, .int .i64 d]] w fun e w' => e = .returned (.agg #[.int .i64 (msp (a, b) (c, d)).1, .int .i64 (msp (a, b) (c, d)).2]) ∧ Below w.heap.size w w' := by
 have HN := Lib.hid (fun W => inspan_any (max a c) (min b d) W); rw [show msp (a, b) (c, d) = nsp (max a c, min b d) from rfl]; generalize nsp (max a c, min b d) = z at *
 go_enter Tryz.func32, Tryz.ntmps32
 have ⟨bA, bB, bR, hacc⟩ := opn3 w [.int .i64 a, .int .i64 b] [.int .i64 c, .int .i64 d] [.int .i64 0, .int .i64 0] 42 42 42
 go_upto_region 1 with fail
 generalize ((w.alloc (.cells #[.int .i64 a, .int .i64 b] 42)).alloc (.cells #[.int .i64 c, .int .i64 d] 42)).alloc (.cells #[.int .i64 0, .int .i64 0] 42) = W0 at *; generalize hgR : w.heap.size + 1 + 1 = gR at *; generalize hgB : w.heap.size + 1 = gB at *; obtain ⟨gA, hgA⟩ : ∃ g, g = w.heap.size := ⟨_, rfl⟩; rw [← hgA] at bA
 simp only [← hgA]
 have ngAgB : gA ≠ gB := by omega
 have ngAgR : gA ≠ gR := by omega
 have ngBgR : gB ≠ gR := by omega
 have kgA : w.heap.size ≤ gA := by omega
 have kgB : w.heap.size ≤ gB := by omega
 have kgR : w.heap.size ≤ gR := by omega
 clear hgA hgB hgR; have ⟨cgA0, fgA0, cgA1, fgA1⟩ := bA.all2; have ⟨cgB0, fgB0, cgB1, fgB1⟩ := bB.all2
 go_wp2_with fail
 clear cgA0 fgA0 cgA1 fgA1 cgB0 fgB0 cgB1 fgB1
 with_reducible refine (HN.out _).mono ?_
 rintro e wZ ⟨rfl, hbX⟩; replace hacc := hacc.trans (hbX.mono hacc.size); replace bA := bA.below hbX; replace bB := bB.below hbX; replace bR := bR.below hbX; clear hbX; have cgR0 := bR.at 0 rfl; have fgR0 := bR.fr 0 rfl; have cgR1 := bR.at 1 rfl; have fgR1 := bR.fr 1 rfl; have cgR0 := bR.at 0 rfl; have fgR0 := bR.fr 0 rfl; have cgR1 := bR.at 1 rfl; have fgR1 := bR.fr 1 rfl
 go_wp2_with fail
 refine bodyPost_ret (v := .agg #[.int .i64 (z.1), .int .i64 (z.2)]) (by simp [results, Tryz.results32, go_sem, cgR0, cgR1]) rfl ⟨rfl, ((hacc.setCell kgR _).setCell kgR _)⟩
set_option maxRecDepth 100000 in
set_option maxHeartbeats 4000000 in
theorem iadd2_any (a b : Int) (w : World) (ha : -9223372036854775808 ≤ a ∧ a ≤ 9223372036854775807) (hb : -9223372036854775808 ≤ b ∧ b ≤ 9223372036854775807) :
  Calls Tryz.prog 54 #[.int .i64 a, .int .i64 b] w fun e w' => e = .returned (.tuple #[.int .i64 (wrp (a + b)), .int .i64 (bey (a + b))]) ∧ w = w' := by
 have hw : IntKind.i64.wrap (a + b) = wrp (a + b) := by rw [IntKind.wrap_i64]; rfl
 have w1 : IntKind.i64.wrap 1 = 1 := by decide
 have wm : IntKind.i64.wrap (-1) = -1 := by decide
 have w0 : IntKind.i64.wrap 0 = 0 := by decide
 by_cases h1 : 9223372036854775807 < a + b
 ·have hz : wrp (a + b) < 0 := by unfold wrp; omega
  have ha0 : 0 < a := by omega
  have hb0 : 0 < b := by omega
  rw [show bey (a + b) = 1 by unfold bey; rw [if_pos h1]]
  have hww : wrap64 (a + b) = wrp (a + b) := by unfold wrap64 wrp; rfl
  clear h1; generalize wrp (a + b) = z at *
  go_enter Tryz.func54, Tryz.ntmps54
  go_wp2
  go_ret2
  exact ⟨rfl, rfl⟩
 ·by_cases h2 : a + b < -9223372036854775808
  ·have hz : 0 ≤ wrp (a + b) := by unfold wrp; omega
   have ha0 : a < 0 := by omega
   have hb0 : b < 0 := by omega
   rw [show bey (a + b) = -1 by unfold bey; rw [if_neg h1, if_pos h2]]
   have hww : wrap64 (a + b) = wrp (a + b) := by unfold wrap64 wrp; rfl
   clear h1 h2; generalize wrp (a + b) = z at *
   go_enter Tryz.func54, Tryz.ntmps54
   go_wp2
   go_ret2
   exact ⟨rfl, rfl⟩
  ·have hz : wrp (a + b) = a + b := by unfold wrp; omega
   rw [show bey (a + b) = 0 by unfold bey; rw [if_neg h1, if_neg h2]]
   have hzz : IntKind.i64.wrap (a + b) = a + b := by rw [hw, hz]
   rw [hz]; clear hw hz
   go_enter Tryz.func54, Tryz.ntmps54
   by_cases p1 : 0 < a <;> by_cases p2 : 0 < b <;> by_cases p3 : a < 0 <;> by_cases p4 : b < 0
   all_goals try (exfalso; omega)
   all_goals
    go_wp2
    all_goals
     first
     | (go_ret2; exact ⟨rfl, rfl⟩)
     | (exfalso; omega)
end Go.Proofs.YtmacnhjbjembiaaGreatDoor
