/- Parts of the proofs about this seat's statements. -/
import Derived.Test.YtinmmkcjjlconaaGreatM12w
import Derived.Test.YtinmmkcjjlconaaGreatRows
import Derived.ProofKit
import Derived.SizedLaws
import Derived.Lib.SmallJoins
import Derived.ChangeSlices
import Derived.Deep.Slices
import Derived.Deep.Fields
import Derived.ChangeSame
import Derived.MakeChecks
set_option maxRecDepth 100000
set_option maxHeartbeats 16000000
namespace Go.Proofs.YtinmmkcjjlconaaGreat
open Go.ChangeShapes Go.WideShapes Go.ChangeAt Go.RowKit Go.Joins
theorem own : ownKnob Tryz.prog.godebug = none := by kernel_rfl
theorem laidOut : laidOutB Tryz.prog = true := by kernel_rfl
theorem below_trodAll {H : Type} {enc : TypeId × Value → H} {P : Program} (hl : laidOutB P = true) {W W' : World} (hb : Below W.heap.size W W') :
    ∀ {ts : List TypeId} {vs : List Value} {ds : List (DataW H)} {ps : List MemPlace}, (ts.all fun t => P.readableRec t && decide (t < P.types.size)) = true → (∀ x ∈ ps, x.block < W.heap.size) →
      DataW.TrodAll enc P W 0 (fun _ => true) true ts vs ds ps → DataW.TrodAll enc P W' 0 (fun b => decide (b < W.heap.size)) true ts vs ds ps
  | [], _, _, _, _, _, h => by
    obtain ⟨rfl, rfl, rfl⟩ := trodAll_nil h
    exact trodAll_mk0
  | t :: ts, _, _, _, ha, hlt, h => by
    obtain ⟨v, vs', d, ds', p, q, rfl, rfl, rfl, h1, h2⟩ := trodAll_cons h
    simp only [List.all_cons, Bool.and_eq_true, decide_eq_true_eq] at ha
    exact trodAll_cons_mk (Below.trod hl ha.1.1 ha.1.2 h1 hb (fun x hx => hlt x (List.mem_append.2 (.inl hx)))) (below_trodAll hl hb ha.2 (fun x hx => hlt x (List.mem_append.2 (.inr hx))) h2)
theorem law_post {H : Type} {enc : TypeId × Value → H} {fn : Func} {s : ChangeSpec} {W W' : World} {args : Array Value} {ds gs : List (DataW H)} {before : List MemPlace}
  (hv : s.vars = []) (hW : DataW.Whole enc Tryz.prog fn.params.toList s.vars false W args.toList ds gs before)
  (hr : fn.resultTypes = #[4]) (hs : s.fn H (ds ++ []) = { results := [.lit (.bool true)], args := ds })
  (ha : (fn.params.toList.all fun t => Tryz.prog.readableRec t && decide (t < Tryz.prog.types.size)) = true) (hb : Below W.heap.size W W') :
  s.post enc Tryz.prog fn false true false false W args (.bool true) W' := by
 have hW' := hW; obtain ⟨p, q, hA, hV, rfl, hfz, hnd⟩ := hW; rw [hv] at hV; obtain ⟨rfl, rfl⟩ := trodVars_none hV
 refine ⟨ds, [], p ++ [], [], p, [], hW', ?_, ?_, ?_, hb.frame _, fun h => by cases h⟩
 ·rw [hs, hr]; exact trodAll_mk1 (shut_bool Tryz.underlying4 _)
 ·rw [hs]; exact below_trodAll laidOut hb ha (fun x hx => hW'.lt x (by simpa using hx)) hA
 ·rw [hs, hv]; rfl
section
variable {H : Type} {enc : TypeId × Value → H} {W : World} {base : Nat}
open Go.Deep
theorem plain_addr {w : World} {a : Addr} {v : Value} (h : w.cell? (a.add 0) = some v) : ∃ b off, a = ⟨b, off, none⟩ := by
 obtain ⟨b, off, spot⟩ := a
 have hs : spot = none := by simpa [Addr.add] using World.cell?_spot h
 subst hs
 exact ⟨b, off, rfl⟩
theorem plain_add (b off k : Nat) : (⟨b, off, none⟩ : Addr).add k = ⟨b, off + k, none⟩ := add_plain b off k
theorem intsK_of {P : Program} {q : IntKind} {t e : TypeId} {v : Value} {f : Nat} {y : DataW H × List MemPlace} (ht : P.underlying t = some (.slice e)) (he : P.underlying e = some (.int q)) (hc : P.cellsOf e = 1)
  (hf : DataW.trod enc P W 0 (fun _ => true) true f t [v] = some y) : ∃ zs, IntsK q W v zs := by
 rcases open_ints ht he hc hf with ⟨hcs, hx⟩ | ⟨a, len', cap', zs, hcs, _, hl, hm, hz, hx, hcell, hwz⟩
 ·simp at hcs
  subst hcs
  exact ⟨[], none, 0, rfl, by simp, by simp, by simp, by simp⟩
 ·simp at hcs
  subst hcs
  simp only [if_true] at hz
  unfold maxLen at hm
  have hlen : (zs.take len').length = len' := by simp; omega
  refine ⟨zs.take len', some a, cap', by rw [hlen], by omega, by omega, fun z hz => hwz z (List.mem_of_mem_take hz), fun h0 => ?_⟩
  have h00 : 0 < zs.length := by omega
  obtain ⟨b, off, rfl⟩ := plain_addr (hcell 0 h00)
  refine ⟨b, off, rfl, ?_, fun i hi => ?_⟩
  ·have := World.block_lt_of_cell? W _ (hcell 0 h00)
   rwa [plain_add] at this
  ·have := hcell i (by omega)
   rw [plain_add] at this; rw [this]
   have hi' : i < len' := by omega
   simp [hi']
theorem open_plan0 {P : Program} {t tu tl ti : TypeId} {f0 f1 f2 : Field} {v : Value} {d : DataW H} {p : List MemPlace} (ht : P.underlying t = some (.struct #[f0, f1, f2])) (hone : oneCellFields P #[f0, f1, f2] = true) (hC : P.cellsOf t = 3)
  (e0 : f0.type = tu) (e1 : f1.type = tu) (e2 : f2.type = tl) (hu : P.underlying tu = some (.int .u8)) (hl : P.underlying tl = some (.slice ti)) (hi : P.underlying ti = some (.int .i16)) (hc : P.cellsOf ti = 1)
  (hv : Value.okWide P W .any base t v) (h : DataW.Trod enc P W 0 (fun _ => true) true t v d p) :
  ∃ (r c : Int) (vL : Value) (zs : List Int), v = .agg #[.int .u8 r, .int .u8 c, vL] ∧ (0 ≤ r ∧ r ≤ 255) ∧ (0 ≤ c ∧ c ≤ 255) ∧ IntsK .i16 W vL zs := by
 obtain ⟨c0, c1, c2, y0, y1, y2, n, rfl, rfl, rfl, h0, h1, h2⟩ := open_agg3 ht hone hC hv h; rw [e0] at h0; rw [e1] at h1; rw [e2] at h2; obtain ⟨a, g0, _, w0⟩ := DataW.trod_int hu h0; obtain ⟨b, g1, _, w1⟩ := DataW.trod_int hu h1
 simp at g0 g1
 subst g0 g1; obtain ⟨zs, hz⟩ := intsK_of hl hi hc h2
 exact ⟨a, b, c2, zs, rfl, bounds_u8 w0, bounds_u8 w1, hz⟩
theorem open_plan {v : Value} {d : DataW H} {p : List MemPlace} (hv : Value.okWide Tryz.prog W .any base 24 v) (h : DataW.Trod enc Tryz.prog W 0 (fun _ => true) true 24 v d p) :
  ∃ (r c : Int) (vL : Value) (zs : List Int), v = .agg #[.int .u8 r, .int .u8 c, vL] ∧ (0 ≤ r ∧ r ≤ 255) ∧ (0 ≤ c ∧ c ≤ 255) ∧ IntsK .i16 W vL zs :=
 open_plan0 Tryz.underlying24 (by kernel_rfl) (by kernel_rfl) rfl rfl rfl Tryz.underlying5 Tryz.underlying22 Tryz.underlying100 (by kernel_rfl) hv h
end
end Go.Proofs.YtinmmkcjjlconaaGreat
namespace Go.Proofs.YtinmmkcjjlconaaGreat
open Go.RowKit W
open Pl (nb bv bv_nb nb_size_zero)
open Lp (S S_succ)
structure EqRes (m k : Nat) (F G : Nat → Rat) (e : Ending) : Prop where
  ex : ∃ r : Bool, e = .returned (.bool r) ∧ (r = true ↔ m = k ∧ ∀ i, i < m → F i = G i)
theorem nb_list_inj {a b : Nat} (h : (nb a).toList = (nb b).toList) : a = b := by
 have e : nb a = nb b := by
  have h1 : (nb a).data.toList = (nb b).data.toList := by simpa only [ByteArray.toList_eq] using h
  cases ha : nb a; cases hb : nb b
  rw [ha, hb] at h1
  simp at h1
  rw [h1]
 rw [← bv_nb a, ← bv_nb b, e]
theorem equal_any (a b : Option Addr) (m k ca cb : Nat) (F G : Nat → Rat) (w : World) (h1 : SlR w (.slice a m ca) m F) (h2 : SlR w (.slice b k cb) k G) (hm : m ≤ 100000) :
  Calls Tryz.prog 32 #[.slice a m ca, .slice b k cb] w fun e w' => EqRes m k F G e ∧ Below w.heap.size w w' := by
 have HF : Hid (∀ W, Below w.heap.size w W → ∀ i, i < m → ∃ g, a = some ⟨g, 0, none⟩ ∧ W.cell? ⟨g, i * 3, none⟩ = some (.bool (decide ((F i).num < 0))) ∧ W.cell? ⟨g, i * 3 + 1, none⟩ = some (.string (nb (F i).num.natAbs)) ∧ W.cell? ⟨g, i * 3 + 1 + 1, none⟩ = some (.string (nb (F i).den))) := Lib.hid (fun W hb i hi => by
  obtain ⟨a', c', e, h⟩ := h1.below hb
  obtain ⟨rfl, -⟩ : a = a' ∧ ca = c' := by simpa using e
  obtain ⟨g, e2, hr⟩ := h (by omega)
  exact ⟨g, e2, hr.2 i hi⟩)
 have HG : Hid (∀ W, Below w.heap.size w W → ∀ i, i < k → ∃ g, b = some ⟨g, 0, none⟩ ∧ W.cell? ⟨g, i * 3, none⟩ = some (.bool (decide ((G i).num < 0))) ∧ W.cell? ⟨g, i * 3 + 1, none⟩ = some (.string (nb (G i).num.natAbs)) ∧ W.cell? ⟨g, i * 3 + 1 + 1, none⟩ = some (.string (nb (G i).den))) := Lib.hid (fun W hb i hi => by
  obtain ⟨a', c', e, h⟩ := h2.below hb
  obtain ⟨rfl, -⟩ : b = a' ∧ cb = c' := by simpa using e
  obtain ⟨g, e2, hr⟩ := h (by omega)
  exact ⟨g, e2, hr.2 i hi⟩)
 clear h1 h2
 by_cases hmk : m = k
 ·subst hmk
  go_enter Tryz.func32, Tryz.ntmps32
  have hacc := Below.refl w.heap.size w
  go_wp2_with fail
  go_loopw [5] (fun s wr => ∃ i : Nat, i ≤ m ∧ s = .int .i64 (i : Int) ∧ (∀ x, x < i → F x = G x) ∧ Below w.heap.size w wr) (fun s _ => m - (intOf s).toNat)
  case atStart => exact ⟨0, by omega, rfl, fun x hx => by omega, hacc⟩
  case round =>
   clear hacc; obtain ⟨i, hi, rfl, hall, hacc⟩ := hrel; have HAll := Lib.hid hall; clear hall
   by_cases hlt : i < m
   ·have hi0 : (0 : Int) ≤ (i : Int) := by omega
    have hi1 : (i : Int) < (m : Int) := by omega
    have HFi := Lib.hid (fun W hb => HF.out W hb i hlt); have HGi := Lib.hid (fun W hb => HG.out W hb i hlt); obtain ⟨g, rfl, _⟩ := HFi.out _ hacc; obtain ⟨g', rfl, _⟩ := HGi.out _ hacc
    have HFc : Hid (∀ W, Below w.heap.size w W → W.cell? ⟨g, i * 3, none⟩ = some (.bool (decide ((F i).num < 0))) ∧ W.cell? ⟨g, i * 3 + 1, none⟩ = some (.string (nb (F i).num.natAbs)) ∧ W.cell? ⟨g, i * 3 + 1 + 1, none⟩ = some (.string (nb (F i).den))) := Lib.hid (fun W hb => by
     obtain ⟨g2, e, h⟩ := HFi.out W hb
     obtain rfl : g = g2 := by simpa using e
     exact h)
    have HGc : Hid (∀ W, Below w.heap.size w W → W.cell? ⟨g', i * 3, none⟩ = some (.bool (decide ((G i).num < 0))) ∧ W.cell? ⟨g', i * 3 + 1, none⟩ = some (.string (nb (G i).num.natAbs)) ∧ W.cell? ⟨g', i * 3 + 1 + 1, none⟩ = some (.string (nb (G i).den))) := Lib.hid (fun W hb => by
     obtain ⟨g2, e, h⟩ := HGi.out W hb
     obtain rfl : g' = g2 := by simpa using e
     exact h)
    clear HFi HGi
    by_cases heq : F i = G i
    ·have HE := Lib.hid heq
     rw [← heq] at HGc; clear heq; generalize hx : F i = x at *; have HX := Lib.hid hx; clear hx
     go_upto_region 6 with fail
     replace hacc := hacc.drew
     refine wp_held (S := (fun w' => w'.cell? ⟨g, i * 3, none⟩ = some (.bool (decide (x.num < 0))) ∧ w'.cell? ⟨g, i * 3 + 1, none⟩ = some (.string (nb x.num.natAbs)) ∧ w'.cell? ⟨g, i * 3 + 1 + 1, none⟩ = some (.string (nb x.den)) ∧ w'.cell? ⟨g', i * 3, none⟩ = some (.bool (decide (x.num < 0))) ∧ w'.cell? ⟨g', i * 3 + 1, none⟩ = some (.string (nb x.num.natAbs)) ∧ w'.cell? ⟨g', i * 3 + 1 + 1, none⟩ = some (.string (nb x.den)))) (by kernel_rfl) (fun hP WD hWD => ?_)
     simp only [← hWD.out] at hacc
     clear hWD
     refine ⟨?_, fun hHeld => ?_⟩
     ·try dsimp only
      with_reducible exact ⟨(HFc.out _ hacc).1, (HFc.out _ hacc).2.1, (HFc.out _ hacc).2.2, (HGc.out _ hacc).1, (HGc.out _ hacc).2.1, (HGc.out _ hacc).2.2⟩
     refine tkA 0 hP hHeld ?_
     refine tkA 1 hP hHeld ?_
     refine tkA 2 hP hHeld ?_
     refine tkA 3 hP hHeld ?_
     refine tkA 4 hP hHeld ?_
     refine tkA 5 hP hHeld ?_
     refine tkA 6 hP hHeld ?_
     refine tkA 7 hP hHeld ?_
     refine tkA 8 hP hHeld ?_
     refine doneA ?_
     go_wp2_with fail
     go_roundw
     case rel => exact ⟨i + 1, by omega, by go_num, fun y hy => by
      by_cases e : y = i
      ·subst e; exact HX.out.trans HE.out
      ·exact HAll.out y (by omega), hacc⟩
     case measure => simp [intOf]; omega
    ·have HNE := Lib.hid heq
     have hparts : decide ((F i).num < 0) ≠ decide ((G i).num < 0) ∨ (F i).num.natAbs ≠ (G i).num.natAbs ∨ (F i).den ≠ (G i).den := by
      apply Classical.byContradiction
      intro hc
      apply heq
      have h1 : decide ((F i).num < 0) = decide ((G i).num < 0) := Classical.byContradiction fun h => hc (.inl h); have h2 : (F i).num.natAbs = (G i).num.natAbs := Classical.byContradiction fun h => hc (.inr (.inl h)); have h3 : (F i).den = (G i).den := Classical.byContradiction fun h => hc (.inr (.inr h)); rw [decide_eq_decide] at h1
      exact Rat.ext (by omega) h3
     clear heq; generalize hp0 : decide ((F i).num < 0) = p0 at *; generalize hq0 : decide ((G i).num < 0) = q0 at *; clear hp0 hq0; have n1 : (F i).num.natAbs ≠ (G i).num.natAbs → ¬ (nb (F i).num.natAbs).toList = (nb (G i).num.natAbs).toList := fun h e => h (nb_list_inj e); have n2 : (F i).den ≠ (G i).den → ¬ (nb (F i).den).toList = (nb (G i).den).toList := fun h e => h (nb_list_inj e); generalize nb (F i).num.natAbs = p1 at *
     generalize nb (G i).num.natAbs = q1 at *; generalize nb (F i).den = p2 at *; generalize nb (G i).den = q2 at *
     rcases hparts with hh | hh | hh
     ·clear n1 n2
      cases p0 <;> cases q0
      ·exact absurd rfl hh
      ·clear hh
       go_upto_region 6 with fail
       replace hacc := hacc.drew
       refine wp_held (S := (fun w' => w'.cell? ⟨g, i * 3, none⟩ = some (.bool false) ∧ w'.cell? ⟨g, i * 3 + 1, none⟩ = some (.string p1) ∧ w'.cell? ⟨g, i * 3 + 1 + 1, none⟩ = some (.string p2) ∧ w'.cell? ⟨g', i * 3, none⟩ = some (.bool true) ∧ w'.cell? ⟨g', i * 3 + 1, none⟩ = some (.string q1) ∧ w'.cell? ⟨g', i * 3 + 1 + 1, none⟩ = some (.string q2))) (by kernel_rfl) (fun hP WD hWD => ?_)
       simp only [← hWD.out] at hacc
       clear hWD
       refine ⟨?_, fun hHeld => ?_⟩
       ·try dsimp only
        with_reducible exact ⟨(HFc.out _ hacc).1, (HFc.out _ hacc).2.1, (HFc.out _ hacc).2.2, (HGc.out _ hacc).1, (HGc.out _ hacc).2.1, (HGc.out _ hacc).2.2⟩
       refine tkA 0 hP hHeld ?_
       refine tkA 1 hP hHeld ?_
       refine tkA 2 hP hHeld ?_
       refine tkA 3 hP hHeld ?_
       refine tkA 4 hP hHeld ?_
       refine tkA 5 hP hHeld ?_
       refine tkA 6 hP hHeld ?_
       refine tkA 7 hP hHeld ?_
       refine tkA 8 hP hHeld ?_
       refine doneA ?_
       go_wp2_with fail
       go_ret
       exact ⟨⟨⟨false, rfl, ⟨fun h => (by cases h), fun h => absurd (h.2 i hlt) HNE.out⟩⟩⟩, hacc⟩
      ·clear hh
       go_upto_region 6 with fail
       replace hacc := hacc.drew
       refine wp_held (S := (fun w' => w'.cell? ⟨g, i * 3, none⟩ = some (.bool true) ∧ w'.cell? ⟨g, i * 3 + 1, none⟩ = some (.string p1) ∧ w'.cell? ⟨g, i * 3 + 1 + 1, none⟩ = some (.string p2) ∧ w'.cell? ⟨g', i * 3, none⟩ = some (.bool false) ∧ w'.cell? ⟨g', i * 3 + 1, none⟩ = some (.string q1) ∧ w'.cell? ⟨g', i * 3 + 1 + 1, none⟩ = some (.string q2))) (by kernel_rfl) (fun hP WD hWD => ?_)
       simp only [← hWD.out] at hacc
       clear hWD
       refine ⟨?_, fun hHeld => ?_⟩
       ·try dsimp only
        with_reducible exact ⟨(HFc.out _ hacc).1, (HFc.out _ hacc).2.1, (HFc.out _ hacc).2.2, (HGc.out _ hacc).1, (HGc.out _ hacc).2.1, (HGc.out _ hacc).2.2⟩
       refine tkA 0 hP hHeld ?_
       refine tkA 1 hP hHeld ?_
       refine tkA 2 hP hHeld ?_
       refine tkA 3 hP hHeld ?_
       refine tkA 4 hP hHeld ?_
       refine tkA 5 hP hHeld ?_
       refine tkA 6 hP hHeld ?_
       refine tkA 7 hP hHeld ?_
       refine tkA 8 hP hHeld ?_
       refine doneA ?_
       go_wp2_with fail
       go_ret
       exact ⟨⟨⟨false, rfl, ⟨fun h => (by cases h), fun h => absurd (h.2 i hlt) HNE.out⟩⟩⟩, hacc⟩
      ·exact absurd rfl hh
     ·have hd := n1 hh
      have hd2 : (p1.toList == q1.toList) = false := by simpa using hd
      have hd3 : decide (p1.toList = q1.toList) = false := decide_eq_false hd; clear n1 n2 hh
      go_upto_region 6 with fail
      replace hacc := hacc.drew
      refine wp_held (S := (fun w' => w'.cell? ⟨g, i * 3, none⟩ = some (.bool p0) ∧ w'.cell? ⟨g, i * 3 + 1, none⟩ = some (.string p1) ∧ w'.cell? ⟨g, i * 3 + 1 + 1, none⟩ = some (.string p2) ∧ w'.cell? ⟨g', i * 3, none⟩ = some (.bool q0) ∧ w'.cell? ⟨g', i * 3 + 1, none⟩ = some (.string q1) ∧ w'.cell? ⟨g', i * 3 + 1 + 1, none⟩ = some (.string q2))) (by kernel_rfl) (fun hP WD hWD => ?_)
      simp only [← hWD.out] at hacc
      clear hWD
      refine ⟨?_, fun hHeld => ?_⟩
      ·try dsimp only
       with_reducible exact ⟨(HFc.out _ hacc).1, (HFc.out _ hacc).2.1, (HFc.out _ hacc).2.2, (HGc.out _ hacc).1, (HGc.out _ hacc).2.1, (HGc.out _ hacc).2.2⟩
      refine tkA 0 hP hHeld ?_
      refine tkA 1 hP hHeld ?_
      refine tkA 2 hP hHeld ?_
      refine tkA 3 hP hHeld ?_
      refine tkA 4 hP hHeld ?_
      refine tkA 5 hP hHeld ?_
      refine tkA 6 hP hHeld ?_
      refine tkA 7 hP hHeld ?_
      refine tkA 8 hP hHeld ?_
      refine doneA ?_
      go_wp2_with fail
      go_ret
      exact ⟨⟨⟨false, rfl, ⟨fun h => (by cases h), fun h => absurd (h.2 i hlt) HNE.out⟩⟩⟩, hacc⟩
     ·have hd := n2 hh
      have hd2 : (p2.toList == q2.toList) = false := by simpa using hd
      have hd3 : decide (p2.toList = q2.toList) = false := decide_eq_false hd; clear n1 n2 hh
      go_upto_region 6 with fail
      replace hacc := hacc.drew
      refine wp_held (S := (fun w' => w'.cell? ⟨g, i * 3, none⟩ = some (.bool p0) ∧ w'.cell? ⟨g, i * 3 + 1, none⟩ = some (.string p1) ∧ w'.cell? ⟨g, i * 3 + 1 + 1, none⟩ = some (.string p2) ∧ w'.cell? ⟨g', i * 3, none⟩ = some (.bool q0) ∧ w'.cell? ⟨g', i * 3 + 1, none⟩ = some (.string q1) ∧ w'.cell? ⟨g', i * 3 + 1 + 1, none⟩ = some (.string q2))) (by kernel_rfl) (fun hP WD hWD => ?_)
      simp only [← hWD.out] at hacc
      clear hWD
      refine ⟨?_, fun hHeld => ?_⟩
      ·try dsimp only
       with_reducible exact ⟨(HFc.out _ hacc).1, (HFc.out _ hacc).2.1, (HFc.out _ hacc).2.2, (HGc.out _ hacc).1, (HGc.out _ hacc).2.1, (HGc.out _ hacc).2.2⟩
      refine tkA 0 hP hHeld ?_
      refine tkA 1 hP hHeld ?_
      refine tkA 2 hP hHeld ?_
      refine tkA 3 hP hHeld ?_
      refine tkA 4 hP hHeld ?_
      refine tkA 5 hP hHeld ?_
      refine tkA 6 hP hHeld ?_
      refine tkA 7 hP hHeld ?_
      refine tkA 8 hP hHeld ?_
      refine doneA ?_
      go_wp2_with fail
      go_ret
      exact ⟨⟨⟨false, rfl, ⟨fun h => (by cases h), fun h => absurd (h.2 i hlt) HNE.out⟩⟩⟩, hacc⟩
   ·obtain rfl : i = m := by omega
    go_wp2_with fail
    go_ret
    exact ⟨⟨⟨true, rfl, ⟨fun _ => ⟨rfl, HAll.out⟩, fun _ => rfl⟩⟩⟩, hacc⟩
 ·have hne : ¬ (m : Int) = (k : Int) := by omega
  go_enter Tryz.func32, Tryz.ntmps32
  have hacc := Below.refl w.heap.size w
  go_wp2_with fail
  go_ret
  exact ⟨⟨⟨false, rfl, ⟨fun h => (by cases h), fun h => absurd h.1 hmk⟩⟩⟩, hacc⟩
def ofL (zs : List Int) (i : Nat) : Rat := ((zs.getD i 0 : Int) : Rat)
theorem list_any (v : Value) (zs : List Int) (w : World) (h : Vals 3 w 0 v (zs.map (Value.int .i64))) (hl : zs.length ≤ 1000) (hz : ∀ i, i < zs.length → -1000000 ≤ zs.getD i 0 ∧ zs.getD i 0 ≤ 1000000) :
  Calls Tryz.prog 36 #[v] w fun e w' => ∃ a c, e = .returned (.slice a zs.length c) ∧ Rats w' w.heap.size (.slice a zs.length c) (raws zs.length (ofL zs)) ∧ Below w.heap.size w w' := by
 obtain ⟨a, c, e, hf⟩ := h.form
 simp only [List.length_map] at e hf
 subst e
 have HI : Hid (∀ W, Below w.heap.size w W → ∀ i, i < zs.length → ∃ g, a = some ⟨g, 0, none⟩ ∧ W.cell? ⟨g, i, none⟩ = some (.int .i64 (zs.getD i 0))) := Lib.hid (fun W hb i hi => by
  obtain ⟨g, e, ho⟩ := hf (by omega)
  have := (h.rowC ho).below hb
  refine ⟨g, e, ?_⟩
  rw [this.2 i (by simpa using hi)]
  simp [List.getD_eq_getElem?_getD, hi])
 have HO := Lib.hid (fun W i (hi : i < zs.length) => rof2_any (zs.getD i 0) W (by have := (hz i hi).1; omega) (by have := (hz i hi).2; omega))
 clear h hf hz; generalize hlen : zs.length = m at *; clear hlen
 go_enter Tryz.func36, Tryz.ntmps36
 have hacc := Below.refl w.heap.size w
 go_wp2_with fail
 go_loopw [3, 8] (fun s3 s8 wr => ∃ i : Nat, i ≤ m ∧ s8 = .int .i64 (i : Int) ∧ Rats wr w.heap.size s3 (raws i (ofL zs)) ∧ Below w.heap.size w wr) (fun _ s8 _ => m - (intOf s8).toNat)
 case atStart => exact ⟨0, by omega, rfl, Rats.nil _ _, hacc⟩
 case round =>
  clear hacc; obtain ⟨i, hi, rfl, hR, hacc⟩ := hrel
  by_cases hlt : i < m
  ·have hi0 : (0 : Int) ≤ (i : Int) := by omega
   have hi1 : (i : Int) < (m : Int) := by omega
   obtain ⟨g, rfl, c0⟩ := HI.out _ hacc i hlt; have HOi := Lib.hid (fun W => HO.out W i hlt); have HX := Lib.hid (raws_succ i (ofL zs)); unfold ofL at HX; generalize zs.getD i 0 = z at *; generalize ((z : Int) : Rat) = x at *
   simp only [rv] at HOi
   go_wp2_with fail
   with_reducible refine (HOi.out _).mono ?_
   rintro e wX ⟨rfl, hbX⟩; have hacc := hacc.trans (hbX.mono hacc.size); have hR := hR.below hbX; clear hbX c0
   have hS := Rats.lit (B := 0) wX (Nat.zero_le _) [⟨decide (x.num < 0), nb x.num.natAbs, nb x.den⟩] (by simp)
   have hRa := hR.alloc (.cells #[.bool (decide (x.num < 0)), .string (nb x.num.natAbs), .string (nb x.den)] 33); have hacca := hacc.alloc hacc.size (.cells #[.bool (decide (x.num < 0)), .string (nb x.num.natAbs), .string (nb x.den)] 33)
   have hln : (raws i (ofL zs)).length + [(⟨decide (x.num < 0), nb x.num.natAbs, nb x.den⟩ : Raw)].length < 1000000000 := by rw [raws_len]; simp; omega
   go_wp2_with (at_builtin; refine app_rats (by rfl) (by rfl) (by rfl) (by rfl) w.heap.size hRa hS hln hacca.size ?_; intro v2 w2 e1 e2 e3)
   have hR2 : Rats w2 w.heap.size v2 (raws (i + 1) (ofL zs)) := by
    have := HX.out; rw [show raws (i + 1) (ofL zs) = raws i (ofL zs) ++ [⟨decide (x.num < 0), nb x.num.natAbs, nb x.den⟩] from this]
    exact e1
   have hacc2 := hacca.grown e2 hacca.size hRa.own; clear hS hRa hR e1 e2 e3 hacca hacc
   go_roundw
   case rel => exact ⟨i + 1, by omega, by go_num, hR2, hacc2⟩
   case measure => simp [intOf]; omega
  ·obtain rfl : i = m := by omega
   obtain ⟨a3, c3, e3⟩ := hR.form; rw [raws_len] at e3; subst e3
   go_wp2_with fail
   go_ret
   exact ⟨a3, c3, rfl, hR, hacc⟩
end Go.Proofs.YtinmmkcjjlconaaGreat
namespace Go.Proofs.YtinmmkcjjlconaaGreat
open Go.RowKit W
open Pl (nb bv bv_nb nb_size_zero)
open Lp (Q grow grow_lt)
theorem nb_le {x k : Nat} (h : x < 2 ^ (8 * k)) : (nb x).size ≤ k := by
 have h2 : x < 256 ^ k := by rw [show (256 : Nat) = 2 ^ 8 by decide, ← Nat.pow_mul]; exact h
 exact Pl.nb_size_le.2 h2
theorem Sz_Q {D H s k : Nat} {q : Rat} (hD : 0 < D) (hq : Q D H q) (h1 : D ≤ H) (hs : H < 2 ^ s) (hk : s ≤ 8 * k) : Sz q k := by
 obtain ⟨a, b⟩ := hq.parts hD
 have h2 : 2 ^ s ≤ 2 ^ (8 * k) := Nat.pow_le_pow_right (by decide) hk
 exact ⟨nb_le (by omega), nb_le (by omega)⟩
theorem fit_of {m n D H s : Nat} {A : Nat → Nat → Rat} {B : Nat → Rat} (hD : 0 < D) (hH : D ≤ H) (ha : ∀ i j, i < m → j < n → Q D H (A i j)) (hb : ∀ i, i < m → Q D H (B i)) (hs : H < 2 ^ s) (hk : 2 ^ m * (s + 1) ≤ 320000) : Fit m n A B := by
 have h0 := Lp.tab0_bnd hD hH ha hb; have hg := grow_lt m H s hs
 have hs2 : s ≤ 2 ^ m * (s + 1) := Nat.le_trans (by omega) (Nat.le_mul_of_pos_left _ (Nat.pow_pos (by decide)))
 refine ⟨fun i j hi => ?_, fun i hi => ?_, fun U w i j hi hj => ?_, fun U w i hi => ?_⟩
 ·by_cases hj : j < n + m + 1
  ·exact Sz_Q hD (h0.a i j hi hj) hH hs (by omega)
  ·have : Lp.mat m n A i j = 0 := by unfold Lp.mat; rw [if_neg (by omega), if_neg (by omega), if_neg (by omega)]
   rw [this]; exact Sz_zero.mono (by decide)
 ·exact Sz_Q hD (h0.b i hi) hH hs (by omega)
 ·obtain ⟨E, hE⟩ := w.bnd h0
  exact Sz_Q hE.pos (hE.a i j hi hj) hE.le hg (by omega)
 ·obtain ⟨E, hE⟩ := w.bnd h0
  exact Sz_Q hE.pos (hE.b i hi) hE.le hg (by omega)
theorem fitG_of {m n D H s E G t : Nat} {A : Nat → Nat → Rat} {B g : Nat → Rat} (hD : 0 < D) (hH : D ≤ H) (ha : ∀ i j, i < m → j < n → Q D H (A i j)) (hb : ∀ i, i < m → Q D H (B i)) (hs : H < 2 ^ s) (hE : 0 < E) (hG : E ≤ G) (hg : ∀ j, Q E G (g j)) (ht : G < 2 ^ t) (hm : m < 128) (hk : 7 + t + 2 ^ m * (s + 1) ≤ 320000) : FitG m n A B g := by
 have h0 := Lp.tab0_bnd hD hH ha hb; have hgr := grow_lt m H s hs
 refine ⟨fun j _ => Sz_Q hE (hg j) hG ht (by omega), fun U w k hk' => ?_⟩
 obtain ⟨F, hF⟩ := w.bnd h0; have hq := Lp.price_Q hF (fun j _ => hg j) w.inv hk'; have hp1 : E * F ≤ G * grow m H := Nat.mul_le_mul hG hF.le; have hp2 : G * grow m H < 2 ^ t * 2 ^ (2 ^ m * (s + 1)) := Nat.mul_lt_mul'' ht hgr
 have hp3 : m * (G * grow m H) < 2 ^ (7 + t + 2 ^ m * (s + 1)) := by
  rw [show 7 + t + 2 ^ m * (s + 1) = 7 + (t + 2 ^ m * (s + 1)) by omega, Nat.pow_add, Nat.pow_add]
  exact Nat.mul_lt_mul'' (by omega) hp2
 have hm0 : 0 < m := Nat.lt_of_le_of_lt (Nat.zero_le _) hk'
 exact Sz_Q (Nat.mul_pos hE hF.pos) hq (Nat.le_trans hp1 (Nat.le_mul_of_pos_left _ hm0)) hp3 (by omega)
theorem cst_Q {n E G : Nat} {C : Nat → Rat} (h : ∀ j, j < n → Q E G (C j)) (j : Nat) : Q E G (Lp.cst n C j) := by
 unfold Lp.cst
 split
 ·next hj => exact h j hj
 ·exact Lp.Q.zero _ _
theorem szP_of {m n : Nat} {A : Nat → Nat → Rat} {B C : Nat → Rat} (f : Fit m n A B) (fg : FitG m n A B (Lp.cst n C)) : SzP m n A B C 40000 := by
 refine ⟨fun i j hi hj => ?_, f.r, fun j hj => ?_⟩
 ·have := f.t i j hi
  unfold Lp.mat at this
  rwa [if_pos hj] at this
 ·have := fg.s j (by omega)
  unfold Lp.cst at this
  rwa [if_pos hj] at this
structure Small (m n : Nat) (A : Nat → Nat → Rat) (B C : Nat → Rat) (D H s : Nat) : Prop where
  d0 : 0 < D
  dh : D ≤ H
  hs : H < 2 ^ s
  a : ∀ i j, i < m → j < n → Q D H (A i j)
  b : ∀ i, i < m → Q D H (B i)
  c : ∀ j, j < n → Q D H (C j)
theorem Small.fit {m n D H s : Nat} {A : Nat → Nat → Rat} {B C : Nat → Rat} (h : Small m n A B C D H s) (hm : m < 128) (hk : 7 + s + 2 ^ m * (s + 1) ≤ 320000) : Fit m n A B ∧ FitG m n A B (Lp.cst n C) ∧ SzP m n A B C 40000 := by
 have f := fit_of h.d0 h.dh h.a h.b h.hs (by omega)
 have fg := fitG_of (g := Lp.cst n C) h.d0 h.dh h.a h.b h.hs h.d0 h.dh (cst_Q h.c) h.hs hm hk
 exact ⟨f, fg, szP_of f fg⟩
theorem pnum_Q (zs : List Int) (k : Nat) : Q 12 180 (pnum zs k) := by
 unfold pnum
 split
 ·exact Lp.Q.zero _ _
 ·have h1 := pN_bd (zs.getD (k % zs.length) 0)
  have h2 := pD_bd (zs.getD (k % zs.length) 0); generalize pN (zs.getD (k % zs.length) 0) = a at *; generalize pD (zs.getD (k % zs.length) 0) = b at *
  refine ⟨a * (12 / b), ?_, ?_⟩
  ·have hb : b = 1 ∨ b = 2 ∨ b = 3 ∨ b = 4 := by omega
   rcases hb with rfl | rfl | rfl | rfl <;> (rw [Lp.cast_mul]; simp [Rat.div_def]; try grind)
  ·have hb : b = 1 ∨ b = 2 ∨ b = 3 ∨ b = 4 := by omega
   rcases hb with rfl | rfl | rfl | rfl <;> omega
theorem int_Q {z : Int} {D H : Nat} (h : z.natAbs * D ≤ H) : Q D H (z : Rat) := ⟨z * D, by rw [Lp.cast_mul], by rw [Int.natAbs_mul]; exact h⟩
theorem plan_small (zs : List Int) (m n : Nat) : Small m n (plA zs n) (plB zs n) (plC zs m n) 12 204 8 :=
 ⟨by decide, by decide, by decide, fun i j _ _ => (pnum_Q zs _).mono (by decide), fun i _ => (pnum_Q zs _).add (int_Q (z := 2) (H := 24) (by decide)), fun j _ => (pnum_Q zs _).mono (by decide)⟩
end Go.Proofs.YtinmmkcjjlconaaGreat
namespace Go.Proofs.YtinmmkcjjlconaaGreat
open Go.RowKit W
open Pl (nb)
open Lp (S S_succ S_zero Cert Feas Dual Unb Out SolP)
def ofM (zs : List (List Int)) (i : Nat) : Nat → Rat := ofL (zs.getD i [])
theorem S1 (f : Nat → Rat) : S 1 f = f 0 := by rw [S_succ, S_zero, Rat.zero_add]
theorem S2 (f : Nat → Rat) : S 2 f = f 0 + f 1 := by rw [S_succ, S1]
theorem S3 (f : Nat → Rat) : S 3 f = f 0 + f 1 + f 2 := by rw [S_succ, S2]
def mA : List (List Int) := [[1, 1], [1, 3], [1, 0]]
theorem ex1_ok : Cert 3 2 (ofM mA) (ofL [4, 7, 3]) (ofL [3, 2]) (ofL [3, 1]) (ofL [2, 0, 1]) 11 := by
 refine ⟨⟨fun j hj => ?_, fun i hi => ?_⟩, ⟨fun i hi => ?_, fun j hj => ?_⟩, ?_, ?_⟩
 ·have : j = 0 ∨ j = 1 := by omega
  rcases this with rfl | rfl <;> decide +kernel
 ·have : i = 0 ∨ i = 1 ∨ i = 2 := by omega
  rcases this with rfl | rfl | rfl <;> (rw [S2]; decide +kernel)
 ·have : i = 0 ∨ i = 1 ∨ i = 2 := by omega
  rcases this with rfl | rfl | rfl <;> decide +kernel
 ·have : j = 0 ∨ j = 1 := by omega
  rcases this with rfl | rfl <;> (rw [S3]; decide +kernel)
 ·rw [S2]; decide +kernel
 ·rw [S3]; decide +kernel
theorem ex1_all {X Y : Nat → Rat} {v : Rat} (h : Cert 3 2 (ofM mA) (ofL [4, 7, 3]) (ofL [3, 2]) X Y v) : v = 11 ∧ (∀ i, i < 2 → X i = ofL [3, 1] i) ∧ ∀ i, i < 3 → Y i = ofL [2, 0, 1] i := by
 have hv := h.unique ex1_ok; subst hv
 have x0 := h.px.2 0 (by decide)
 have x1 := h.px.2 1 (by decide)
 have x2 := h.px.2 2 (by decide)
 have y0 := h.py.2 0 (by decide)
 have y1 := h.py.2 1 (by decide)
 have p0 := h.py.1 0 (by decide)
 have p1 := h.py.1 1 (by decide)
 have p2 := h.py.1 2 (by decide)
 have vx := h.vx; have vy := h.vy; rw [S2] at x0 x1 x2 vx; rw [S3] at y0 y1 vy; have e : ∀ z : Int, ((z : Int) : Rat) = z := fun _ => rfl
 have a00 : ofM mA 0 0 = 1 := by decide +kernel
 have a01 : ofM mA 0 1 = 1 := by decide +kernel
 have a10 : ofM mA 1 0 = 1 := by decide +kernel
 have a11 : ofM mA 1 1 = 3 := by decide +kernel
 have a20 : ofM mA 2 0 = 1 := by decide +kernel
 have a21 : ofM mA 2 1 = 0 := by decide +kernel
 have b0 : ofL [4, 7, 3] 0 = 4 := by decide +kernel
 have b1 : ofL [4, 7, 3] 1 = 7 := by decide +kernel
 have b2 : ofL [4, 7, 3] 2 = 3 := by decide +kernel
 have c0 : ofL [3, 2] 0 = 3 := by decide +kernel
 have c1 : ofL [3, 2] 1 = 2 := by decide +kernel
 have d0 : ofL [3, 1] 0 = 3 := by decide +kernel
 have d1 : ofL [3, 1] 1 = 1 := by decide +kernel
 have f0 : ofL [2, 0, 1] 0 = 2 := by decide +kernel
 have f1 : ofL [2, 0, 1] 1 = 0 := by decide +kernel
 have f2 : ofL [2, 0, 1] 2 = 1 := by decide +kernel
 simp only [a00, a01, a10, a11, a20, a21, b0, b1, b2, c0, c1] at x0 x1 x2 y0 y1 vx vy
 refine ⟨rfl, fun i hi => ?_, fun i hi => ?_⟩
 ·have : i = 0 ∨ i = 1 := by omega
  rcases this with rfl | rfl
  ·rw [d0]; grind
  ·rw [d1]; grind
 ·have : i = 0 ∨ i = 1 ∨ i = 2 := by omega
  rcases this with rfl | rfl | rfl
  ·rw [f0]; grind
  ·rw [f1]; grind
  ·rw [f2]; grind
theorem ex2_no (x : Nat → Rat) : ¬ Feas 1 1 (ofM [[1]]) (ofL [-1]) x := by
 rintro ⟨h1, h2⟩
 have a := h1 0 (by decide)
 have b := h2 0 (by decide)
 rw [S1, show ofM [[1]] 0 0 = 1 by decide +kernel, show ofL [-1] 0 = -1 by decide +kernel] at b
 grind
theorem ex3_unb : Unb 1 1 (ofM [[-1]]) (ofL [1]) (ofL [1]) (ofL [0]) (ofL [1]) := by
 refine ⟨⟨fun j hj => ?_, fun i hi => ?_⟩, fun j hj => ?_, fun i hi => ?_, ?_⟩
 ·obtain rfl : j = 0 := by omega
  decide +kernel
 ·obtain rfl : i = 0 := by omega
  rw [S1]; decide +kernel
 ·obtain rfl : j = 0 := by omega
  decide +kernel
 ·obtain rfl : i = 0 := by omega
  rw [S1]; decide +kernel
 ·rw [S1]; decide +kernel
def hlf (_ : Nat) : Rat := 1 / 2
def mhlf (_ : Nat) : Rat := -(1 / 2)
theorem ex4_ok : Cert 1 1 (ofM [[-1]]) mhlf (ofL [-1]) hlf (ofL [1]) (-(1 / 2)) := by
 refine ⟨⟨fun j hj => ?_, fun i hi => ?_⟩, ⟨fun i hi => ?_, fun j hj => ?_⟩, ?_, ?_⟩
 ·show (0 : Rat) ≤ 1 / 2
  decide +kernel
 ·obtain rfl : i = 0 := by omega
  rw [S1]; decide +kernel
 ·obtain rfl : i = 0 := by omega
  decide +kernel
 ·obtain rfl : j = 0 := by omega
  rw [S1]; decide +kernel
 ·rw [S1]; decide +kernel
 ·rw [S1]; decide +kernel
theorem ex4_all {X Y : Nat → Rat} {v : Rat} (h : Cert 1 1 (ofM [[-1]]) mhlf (ofL [-1]) X Y v) : v = -(1 / 2) ∧ (∀ i, i < 1 → X i = hlf i) ∧ ∀ i, i < 1 → Y i = ofL [1] i := by
 have hv := h.unique ex4_ok; subst hv; have vx := h.vx; have vy := h.vy
 rw [S1, show ofL [-1] 0 = -1 by decide +kernel] at vx
 rw [S1] at vy
 refine ⟨rfl, fun i hi => ?_, fun i hi => ?_⟩
 ·obtain rfl : i = 0 := by omega
  show X 0 = 1 / 2
  grind
 ·obtain rfl : i = 0 := by omega
  rw [show ofL [1] 0 = 1 by decide +kernel]
  have vy : -(1 / 2) * Y 0 = -(1 / 2) := vy
  grind
theorem ex5_ok (A : Nat → Nat → Rat) (B C : Nat → Rat) : Cert 0 0 A B C B C 0 :=
 ⟨⟨fun j hj => by omega, fun i hi => by omega⟩, ⟨fun i hi => by omega, fun j hj => by omega⟩, rfl, rfl⟩
theorem sol_code {m n code : Nat} {A : Nat → Nat → Rat} {B C : Nat → Rat} {T : Lp.Tab} (h : SolP m n A B C code T) {k : Nat} (hk : Out m n A B C k) : code = k := h.out.unique hk
end Go.Proofs.YtinmmkcjjlconaaGreat
namespace Go.Proofs.YtinmmkcjjlconaaGreat
open Go.RowKit W
open Pl (nb bv bv_nb nb_size_zero)
open Lp (S S_succ)
def setAll (sl : List Nat) (V : Nat → Value) (t : Array Value) : Array Value := sl.foldl (fun t s => t.setIfInBounds s (V s)) t
theorem setAll_same (sl : List Nat) (t : Array Value) : setAll sl (fun s => t.getD s undef) t = t := by
 unfold setAll
 have key : ∀ (sl : List Nat) (t' : Array Value), t' = t → sl.foldl (fun t' s => t'.setIfInBounds s (t.getD s undef)) t' = t := by
  intro sl
  induction sl with
  | nil => intro t' h; exact h
  | cons s sl ih =>
   intro t' h
   refine ih _ ?_
   subst h
   apply Array.ext_getElem?
   intro j
   rw [Array.getElem?_setIfInBounds]
   split
   ·next e =>
    subst e
    by_cases hs : s < t'.size
    ·simp [hs, Array.getD_eq_getD_getElem?]
    ·simp [hs]
   ·rfl
 exact key sl t rfl
def InvA (a0 : Act) (sl : List Nat) (J : (Nat → Bool) → (Nat → Value) → World → Prop) (L : Nat → Bool) (a : Act) (w : World) : Prop := ∃ V, a = { tmps := setAll sl V a0.tmps, defers := a0.defers } ∧ J L V w
theorem InvA.start {a0 : Act} {sl : List Nat} {J : (Nat → Bool) → (Nat → Value) → World → Prop} {L : Nat → Bool} {w : World} (h : ∀ V, J L V w) : InvA a0 sl J L a0 w := ⟨fun s => a0.tmps.getD s undef, by rw [setAll_same], h _⟩
def on (L : Nat → Bool) (i j : Nat) : Bool := if j = i then true else L j
abbrev SolC (gx gy : Nat) (q : Rat) : List Value := [.slice (some ⟨gx, 0, none⟩) 1 1, .slice (some ⟨gy, 0, none⟩) 1 1, .bool (decide (q.num < 0)), .string (nb q.num.natAbs), .string (nb q.den)]
structure J9 (w : World) (g8 g10 : Nat) (xh xm : Rat) (L : Nat → Bool) (V : Nat → Value) (W : World) : Prop where
  acc : Below w.heap.size w W
  b8 : Rx W g8 [.bool (decide (xh.num < 0)), .string (nb xh.num.natAbs), .string (nb xh.den)]
  b10 : Rx W g10 [.bool (decide (xm.num < 0)), .string (nb xm.num.natAbs), .string (nb xm.den)]
  f0 : L 13 = false → L 0 = true → Vals 3 W 0 (V 95) [.int .i64 (-1)]
  f1 : L 13 = false → L 1 = true → ∃ a c, V 96 = .slice a 1 c ∧ SlR W (.slice a 1 c) 1 (ofL [-1])
  f2 : L 13 = false → L 2 = true → ∃ g, V 97 = .slice (some ⟨g, 0, none⟩) 1 1 ∧ MatR W (.slice (some ⟨g, 0, none⟩) 1 1) 1 1 (ofM [[-1]])
  f3 : L 3 = true → V 98 = rv xm
  f4 : L 13 = false → L 4 = true → ∃ g, V 99 = .slice (some ⟨g, 0, none⟩) 1 1 ∧ SlR W (.slice (some ⟨g, 0, none⟩) 1 1) 1 (fun _ => xm)
  f5 : L 13 = false → L 5 = true → Vals 3 W 0 (V 100) [.int .i64 (-1)]
  f6 : L 13 = false → L 6 = true → ∃ a c, V 101 = .slice a 1 c ∧ SlR W (.slice a 1 c) 1 (ofL [-1])
  f7 : L 13 = false → L 7 = true → PR W (V 102) 1 1 (ofM [[-1]]) (fun _ => xm) (ofL [-1])
  f8 : L 8 = true → ∃ gx gy, V 103 = .tuple #[solV gx gy 1 1 xm, .int .i64 0] ∧ Row3 W gx 1 (fun _ => q3 xh) ∧ Row3 W gy 1 (fun j => q3 (ofL [1] j)) ∧ (L 12 = true → ∀ g, V 11 = .pointer (some ⟨g, 0, none⟩) → g ≠ gx ∧ g ≠ gy)
  f9 : L 9 = true → L 8 = true ∧ V 94 = V 103
  f10 : L 10 = true → L 8 = true ∧ ∀ gx gy, V 103 = .tuple #[solV gx gy 1 1 xm, .int .i64 0] → V 104 = solV gx gy 1 1 xm
  f11 : L 11 = true → V 105 = .int .i64 0
  f12 : L 12 = true → ∃ g, V 11 = .pointer (some ⟨g, 0, none⟩) ∧ w.heap.size ≤ g ∧ g ≠ g8 ∧ g ≠ g10 ∧ (L 13 = false → Rx W g [.slice none 0 0, .slice none 0 0, .bool false, .string ⟨#[]⟩, .string ⟨#[]⟩]) ∧ (L 13 = true → ∃ gx gy, Rx W g (SolC gx gy xm) ∧ Row3 W gx 1 (fun _ => q3 xh) ∧ Row3 W gy 1 (fun j => q3 (ofL [1] j)))
  f14 : L 14 = true → V 12 = .int .i64 0
  f13 : L 13 = true → ∀ k, k < 13 → k ≠ 11 → L k = true
theorem on_true {L : Nat → Bool} {n k : Nat} (h : L k = true) : on L n k = true := by
 unfold on
 split
 ·rfl
 ·exact h
section
variable {w : World} {g8 g10 : Nat} {xh xm : Rat} {L : Nat → Bool} {V : Nat → Value} {W W' : World}
theorem J9.below (h : J9 w g8 g10 xh xm L V W) (hb : Below W.heap.size W W') : J9 w g8 g10 xh xm L V W' where
 acc := h.acc.trans (hb.mono h.acc.size)
 b8 := h.b8.below hb
 b10 := h.b10.below hb
 f0 := fun h1 h2 => (h.f0 h1 h2).below hb
 f1 := fun h1 h2 => by obtain ⟨a, c, e, s⟩ := h.f1 h1 h2; exact ⟨a, c, e, s.below hb⟩
 f2 := fun h1 h2 => by obtain ⟨g, e, s⟩ := h.f2 h1 h2; exact ⟨g, e, s.below hb⟩
 f3 := h.f3
 f4 := fun h1 h2 => by obtain ⟨g, e, s⟩ := h.f4 h1 h2; exact ⟨g, e, s.below hb⟩
 f5 := fun h1 h2 => (h.f5 h1 h2).below hb
 f6 := fun h1 h2 => by obtain ⟨a, c, e, s⟩ := h.f6 h1 h2; exact ⟨a, c, e, s.below hb⟩
 f7 := fun h1 h2 => (h.f7 h1 h2).below hb
 f8 := fun h1 => by obtain ⟨gx, gy, e, r1, r2, n⟩ := h.f8 h1; exact ⟨gx, gy, e, r1.below hb, r2.below hb, n⟩
 f9 := h.f9
 f10 := h.f10
 f11 := h.f11
 f12 := fun h1 => by
  obtain ⟨g, e, k, n1, n2, r1, r2⟩ := h.f12 h1
  exact ⟨g, e, k, n1, n2, fun h2 => (r1 h2).below hb, fun h2 => by obtain ⟨gx, gy, a, b, c⟩ := r2 h2; exact ⟨gx, gy, a.below hb, b.below hb, c.below hb⟩⟩
 f14 := h.f14
 f13 := h.f13
theorem J9.not13 (h : J9 w g8 g10 xh xm L V W) {k : Nat} (hk : k < 13) (hne : k ≠ 11) (hL : L k = false) : L 13 = false := by
 cases h13 : L 13 with
 | false => rfl
 | true => rw [h.f13 h13 k hk hne] at hL; cases hL
theorem J9.start (h1 : Below w.heap.size w W) (h2 : Rx W g8 [.bool (decide (xh.num < 0)), .string (nb xh.num.natAbs), .string (nb xh.den)]) (h3 : Rx W g10 [.bool (decide (xm.num < 0)), .string (nb xm.num.natAbs), .string (nb xm.den)]) : J9 w g8 g10 xh xm (fun _ => false) V W where
 acc := h1
 b8 := h2
 b10 := h3
 f0 := fun _ h => by cases h
 f1 := fun _ h => by cases h
 f2 := fun _ h => by cases h
 f3 := fun h => by cases h
 f4 := fun _ h => by cases h
 f5 := fun _ h => by cases h
 f6 := fun _ h => by cases h
 f7 := fun _ h => by cases h
 f8 := fun h => by cases h
 f9 := fun h => by cases h
 f10 := fun h => by cases h
 f11 := fun h => by cases h
 f12 := fun h => by cases h
 f14 := fun h => by cases h
 f13 := fun h => by cases h
theorem J9.s0 (h : J9 w g8 g10 xh xm L V W) {v : Value} (hv : Vals 3 W 0 v [.int .i64 (-1)]) : J9 w g8 g10 xh xm (on L 0) (upd V 95 v) W :=
 { acc := h.acc, b8 := h.b8, b10 := h.b10, f0 := fun _ _ => hv, f1 := h.f1, f2 := h.f2, f3 := h.f3, f4 := h.f4, f5 := h.f5, f6 := h.f6, f7 := h.f7, f8 := h.f8, f9 := h.f9, f10 := h.f10, f11 := h.f11, f12 := h.f12, f14 := h.f14, f13 := fun h1 k h2 h3 => on_true (h.f13 h1 k h2 h3) }
theorem J9.s1 (h : J9 w g8 g10 xh xm L V W) {v : Value} (hv : ∃ a c, v = .slice a 1 c ∧ SlR W (.slice a 1 c) 1 (ofL [-1])) : J9 w g8 g10 xh xm (on L 1) (upd V 96 v) W :=
 { acc := h.acc, b8 := h.b8, b10 := h.b10, f0 := h.f0, f1 := fun _ _ => hv, f2 := h.f2, f3 := h.f3, f4 := h.f4, f5 := h.f5, f6 := h.f6, f7 := h.f7, f8 := h.f8, f9 := h.f9, f10 := h.f10, f11 := h.f11, f12 := h.f12, f14 := h.f14, f13 := fun h1 k h2 h3 => on_true (h.f13 h1 k h2 h3) }
theorem J9.s2 (h : J9 w g8 g10 xh xm L V W) {v : Value} (hv : ∃ g, v = .slice (some ⟨g, 0, none⟩) 1 1 ∧ MatR W (.slice (some ⟨g, 0, none⟩) 1 1) 1 1 (ofM [[-1]])) : J9 w g8 g10 xh xm (on L 2) (upd V 97 v) W :=
 { acc := h.acc, b8 := h.b8, b10 := h.b10, f0 := h.f0, f1 := h.f1, f2 := fun _ _ => hv, f3 := h.f3, f4 := h.f4, f5 := h.f5, f6 := h.f6, f7 := h.f7, f8 := h.f8, f9 := h.f9, f10 := h.f10, f11 := h.f11, f12 := h.f12, f14 := h.f14, f13 := fun h1 k h2 h3 => on_true (h.f13 h1 k h2 h3) }
theorem J9.s3 (h : J9 w g8 g10 xh xm L V W) {v : Value} (hv : v = rv xm) : J9 w g8 g10 xh xm (on L 3) (upd V 98 v) W :=
 { acc := h.acc, b8 := h.b8, b10 := h.b10, f0 := h.f0, f1 := h.f1, f2 := h.f2, f3 := fun _ => hv, f4 := h.f4, f5 := h.f5, f6 := h.f6, f7 := h.f7, f8 := h.f8, f9 := h.f9, f10 := h.f10, f11 := h.f11, f12 := h.f12, f14 := h.f14, f13 := fun h1 k h2 h3 => on_true (h.f13 h1 k h2 h3) }
theorem J9.s4 (h : J9 w g8 g10 xh xm L V W) {v : Value} (hv : ∃ g, v = .slice (some ⟨g, 0, none⟩) 1 1 ∧ SlR W (.slice (some ⟨g, 0, none⟩) 1 1) 1 (fun _ => xm)) : J9 w g8 g10 xh xm (on L 4) (upd V 99 v) W :=
 { acc := h.acc, b8 := h.b8, b10 := h.b10, f0 := h.f0, f1 := h.f1, f2 := h.f2, f3 := h.f3, f4 := fun _ _ => hv, f5 := h.f5, f6 := h.f6, f7 := h.f7, f8 := h.f8, f9 := h.f9, f10 := h.f10, f11 := h.f11, f12 := h.f12, f14 := h.f14, f13 := fun h1 k h2 h3 => on_true (h.f13 h1 k h2 h3) }
theorem J9.s5 (h : J9 w g8 g10 xh xm L V W) {v : Value} (hv : Vals 3 W 0 v [.int .i64 (-1)]) : J9 w g8 g10 xh xm (on L 5) (upd V 100 v) W :=
 { acc := h.acc, b8 := h.b8, b10 := h.b10, f0 := h.f0, f1 := h.f1, f2 := h.f2, f3 := h.f3, f4 := h.f4, f5 := fun _ _ => hv, f6 := h.f6, f7 := h.f7, f8 := h.f8, f9 := h.f9, f10 := h.f10, f11 := h.f11, f12 := h.f12, f14 := h.f14, f13 := fun h1 k h2 h3 => on_true (h.f13 h1 k h2 h3) }
theorem J9.s6 (h : J9 w g8 g10 xh xm L V W) {v : Value} (hv : ∃ a c, v = .slice a 1 c ∧ SlR W (.slice a 1 c) 1 (ofL [-1])) : J9 w g8 g10 xh xm (on L 6) (upd V 101 v) W :=
 { acc := h.acc, b8 := h.b8, b10 := h.b10, f0 := h.f0, f1 := h.f1, f2 := h.f2, f3 := h.f3, f4 := h.f4, f5 := h.f5, f6 := fun _ _ => hv, f7 := h.f7, f8 := h.f8, f9 := h.f9, f10 := h.f10, f11 := h.f11, f12 := h.f12, f14 := h.f14, f13 := fun h1 k h2 h3 => on_true (h.f13 h1 k h2 h3) }
theorem J9.s7 (h : J9 w g8 g10 xh xm L V W) {v : Value} (hv : PR W v 1 1 (ofM [[-1]]) (fun _ => xm) (ofL [-1])) : J9 w g8 g10 xh xm (on L 7) (upd V 102 v) W :=
 { acc := h.acc, b8 := h.b8, b10 := h.b10, f0 := h.f0, f1 := h.f1, f2 := h.f2, f3 := h.f3, f4 := h.f4, f5 := h.f5, f6 := h.f6, f7 := fun _ _ => hv, f8 := h.f8, f9 := h.f9, f10 := h.f10, f11 := h.f11, f12 := h.f12, f14 := h.f14, f13 := fun h1 k h2 h3 => on_true (h.f13 h1 k h2 h3) }
theorem J9.s8 (h : J9 w g8 g10 xh xm L V W) (hL : L 8 = false) {v : Value} (hv : ∃ gx gy, v = .tuple #[solV gx gy 1 1 xm, .int .i64 0] ∧ Row3 W gx 1 (fun _ => q3 xh) ∧ Row3 W gy 1 (fun j => q3 (ofL [1] j)) ∧ (L 12 = true → ∀ g, V 11 = .pointer (some ⟨g, 0, none⟩) → g ≠ gx ∧ g ≠ gy)) : J9 w g8 g10 xh xm (on L 8) (upd V 103 v) W :=
 { acc := h.acc, b8 := h.b8, b10 := h.b10, f0 := h.f0, f1 := h.f1, f2 := h.f2, f3 := h.f3, f4 := h.f4, f5 := h.f5, f6 := h.f6, f7 := h.f7, f8 := fun _ => hv, f9 := fun h9 => absurd (h.f9 h9).1 (by rw [hL]; decide), f10 := fun h9 => absurd (h.f10 h9).1 (by rw [hL]; decide), f11 := h.f11, f12 := h.f12, f14 := h.f14, f13 := fun h1 k h2 h3 => on_true (h.f13 h1 k h2 h3) }
theorem J9.s9 (h : J9 w g8 g10 xh xm L V W) (hL : L 8 = true) {v : Value} (hv : v = V 103) : J9 w g8 g10 xh xm (on L 9) (upd V 94 v) W :=
 { acc := h.acc, b8 := h.b8, b10 := h.b10, f0 := h.f0, f1 := h.f1, f2 := h.f2, f3 := h.f3, f4 := h.f4, f5 := h.f5, f6 := h.f6, f7 := h.f7, f8 := h.f8, f9 := fun _ => ⟨hL, hv⟩, f10 := h.f10, f11 := h.f11, f12 := h.f12, f14 := h.f14, f13 := fun h1 k h2 h3 => on_true (h.f13 h1 k h2 h3) }
theorem J9.s10 (h : J9 w g8 g10 xh xm L V W) (hL : L 8 = true) {v : Value} (hv : ∀ gx gy, V 103 = .tuple #[solV gx gy 1 1 xm, .int .i64 0] → v = solV gx gy 1 1 xm) : J9 w g8 g10 xh xm (on L 10) (upd V 104 v) W :=
 { acc := h.acc, b8 := h.b8, b10 := h.b10, f0 := h.f0, f1 := h.f1, f2 := h.f2, f3 := h.f3, f4 := h.f4, f5 := h.f5, f6 := h.f6, f7 := h.f7, f8 := h.f8, f9 := h.f9, f10 := fun _ => ⟨hL, hv⟩, f11 := h.f11, f12 := h.f12, f14 := h.f14, f13 := fun h1 k h2 h3 => on_true (h.f13 h1 k h2 h3) }
theorem J9.s11 (h : J9 w g8 g10 xh xm L V W) {v : Value} (hv : v = .int .i64 0) : J9 w g8 g10 xh xm (on L 11) (upd V 105 v) W :=
 { acc := h.acc, b8 := h.b8, b10 := h.b10, f0 := h.f0, f1 := h.f1, f2 := h.f2, f3 := h.f3, f4 := h.f4, f5 := h.f5, f6 := h.f6, f7 := h.f7, f8 := h.f8, f9 := h.f9, f10 := h.f10, f11 := fun _ => hv, f12 := h.f12, f14 := h.f14, f13 := fun h1 k h2 h3 => on_true (h.f13 h1 k h2 h3) }
theorem J9.s12 (h : J9 w g8 g10 xh xm L V W) (hL : L 13 = false) (hb : Below W.heap.size W W') {g : Nat} (hg : W.heap.size ≤ g) (hr : Rx W' g [.slice none 0 0, .slice none 0 0, .bool false, .string ⟨#[]⟩, .string ⟨#[]⟩]) : J9 w g8 g10 xh xm (on L 12) (upd V 11 (.pointer (some ⟨g, 0, none⟩))) W' := by
  have h' := h.below hb; have n8 := h.b8.lt; have n10 := h.b10.lt; have hs := h.acc.size
  exact { acc := h'.acc, b8 := h'.b8, b10 := h'.b10, f0 := h'.f0, f1 := h'.f1, f2 := h'.f2, f3 := h'.f3, f4 := h'.f4, f5 := h'.f5, f6 := h'.f6, f7 := h'.f7
          f8 := fun h8 => by
            obtain ⟨gx, gy, e, r1, r2, _⟩ := h.f8 h8
            refine ⟨gx, gy, e, r1.below hb, r2.below hb, fun _ g' e' => ?_⟩
            have e' : Value.pointer (some ⟨g, 0, none⟩) = .pointer (some ⟨g', 0, none⟩) := e'
            obtain rfl : g = g' := by simpa using e'
            have := r1.lt; have := r2.lt
            omega
          f9 := h'.f9, f10 := h'.f10, f11 := h'.f11
          f12 := fun _ => ⟨g, rfl, by omega, by omega, by omega, fun _ => hr, fun h13 => by
            have h13 : L 13 = true := h13
            rw [hL] at h13; cases h13⟩
          f14 := h'.f14
          f13 := fun h1 k h2 h3 => on_true (h.f13 h1 k h2 h3) }
theorem J9.v9 (h : J9 w g8 g10 xh xm L V W) (h9 : L 9 = true) : ∃ gx gy, L 8 = true ∧ (∀ gx' gy', V 103 = .tuple #[solV gx' gy' 1 1 xm, .int .i64 0] → solV gx gy 1 1 xm = solV gx' gy' 1 1 xm) ∧ V 94 = .tuple #[.agg #[.slice (some ⟨gx, 0, none⟩) 1 1, .slice (some ⟨gy, 0, none⟩) 1 1, .bool (decide (xm.num < 0)), .string (nb xm.num.natAbs), .string (nb xm.den)], .int .i64 0] := by
 obtain ⟨h8, e9⟩ := h.f9 h9; obtain ⟨gx, gy, e8, q1, q2, nn⟩ := h.f8 h8
 refine ⟨gx, gy, h8, fun gx' gy' e => ?_, e9.trans e8⟩
 rw [e8] at e
 simp only [Value.tuple.injEq, Array.mk.injEq, List.cons.injEq, and_true] at e
 exact e
theorem J9.s13 (h : J9 w g8 g10 xh xm L V W) (hL : L 13 = false) (h12 : L 12 = true) (h10 : L 10 = true) (hall : ∀ k, k < 13 → k ≠ 11 → L k = true) : ∃ g gx gy, V 11 = .pointer (some ⟨g, 0, none⟩) ∧ V 104 = solV gx gy 1 1 xm ∧ Rx W g [.slice none 0 0, .slice none 0 0, .bool false, .string ⟨#[]⟩, .string ⟨#[]⟩] ∧
    ∀ W', Off (fun k => k = g) W W' → Rx W' g (SolC gx gy xm) → J9 w g8 g10 xh xm (on L 13) V W' := by
  obtain ⟨g, e, k, n1, n2, r1, _⟩ := h.f12 h12; obtain ⟨h8, f10⟩ := h.f10 h10; obtain ⟨gx, gy, e8, q1, q2, nn⟩ := h.f8 h8; obtain ⟨m1, m2⟩ := nn h12 g e
  refine ⟨g, gx, gy, e, f10 _ _ e8, r1 hL, fun W' ho hr => ?_⟩
  exact { acc := h.acc.trans (ho.below (B := w.heap.size) (fun k' hk' e' => by omega) h.acc.size), b8 := h.b8.off ho (Ne.symm n1), b10 := h.b10.off ho (Ne.symm n2)
          f0 := fun h1 _ => by cases h1
          f1 := fun h1 _ => by cases h1
          f2 := fun h1 _ => by cases h1
          f3 := h.f3
          f4 := fun h1 _ => by cases h1
          f5 := fun h1 _ => by cases h1
          f6 := fun h1 _ => by cases h1
          f7 := fun h1 _ => by cases h1
          f8 := fun _ => ⟨gx, gy, e8, q1.off ho (Ne.symm m1), q2.off ho (Ne.symm m2), nn⟩
          f9 := h.f9, f10 := h.f10, f11 := h.f11
          f12 := fun _ => ⟨g, e, k, n1, n2, fun h1 => (by cases h1), fun _ => ⟨gx, gy, hr, q1.off ho (Ne.symm m1), q2.off ho (Ne.symm m2)⟩⟩
          f14 := h.f14
          f13 := fun _ k h2 h3 => on_true (hall k h2 h3) }
theorem J9.s14 (h : J9 w g8 g10 xh xm L V W) {v : Value} (hv : v = .int .i64 0) : J9 w g8 g10 xh xm (on L 14) (upd V 12 v) W :=
 { acc := h.acc, b8 := h.b8, b10 := h.b10, f0 := h.f0, f1 := h.f1, f2 := h.f2, f3 := h.f3, f4 := h.f4, f5 := h.f5, f6 := h.f6, f7 := h.f7, f8 := h.f8, f9 := h.f9, f10 := h.f10, f11 := h.f11, f12 := h.f12, f14 := fun _ => hv, f13 := fun h1 k h2 h3 => on_true (h.f13 h1 k h2 h3) }
end
end Go.Proofs.YtinmmkcjjlconaaGreat
namespace Go.Proofs.YtinmmkcjjlconaaGreat
open Go.RowKit W
open Pl (nb bv bv_nb nb_size_zero)
open Lp (S S_succ S_zero Cert Feas Dual Unb Out SolP)
structure Acc (b w : World) : Prop where
  out : Below b.heap.size b w
structure AccK (b : World) (g : Nat) : Prop where
  out : b.heap.size ≤ g
section
variable {b w w' : World}
theorem Acc.refl (w : World) : Acc w w := ⟨Below.refl _ _⟩
theorem Acc.below (h : Acc b w) (hb : Below w.heap.size w w') : Acc b w' := ⟨h.out.trans (hb.mono h.out.size)⟩
theorem Acc.drew (h : Acc b w) : Acc b w.drew := h.below (Below.refl _ _).drew
theorem Acc.alloc (h : Acc b w) (o : Obj) : Acc b (w.alloc o) := ⟨h.out.alloc h.out.size o⟩
theorem Acc.k (h : Acc b w) : AccK b w.heap.size := ⟨h.out.size⟩
theorem Acc.setCell (h : Acc b w) {p : Addr} (k : AccK b p.block) (v : Value) : Acc b (w.setCell p v) := ⟨h.out.setCell k.out v⟩
end
section
variable {w : World} {m n : Nat} {A : Nat → Nat → Rat} {F : Nat → Rat}
abbrev At3 (W : World) (b k : Nat) (q : Rat) : Prop := W.cell? ⟨b, k * 3, none⟩ = some (.bool (decide (q.num < 0))) ∧ W.cell? ⟨b, k * 3 + 1, none⟩ = some (.string (nb q.num.natAbs)) ∧ W.cell? ⟨b, k * 3 + 1 + 1, none⟩ = some (.string (nb q.den))
theorem SlR.get {a : Option Addr} {c k : Nat} (h : SlR w (.slice a m c) m F) (hk : k < m) : ∃ b, a = some ⟨b, 0, none⟩ ∧ ∀ W, Below w.heap.size w W → At3 W b k (F k) := by
 obtain ⟨a', c', e, h1⟩ := h
 obtain ⟨rfl, rfl⟩ : a = a' ∧ c = c' := by simpa using e
 obtain ⟨b, e2, hr⟩ := h1 (by omega)
 exact ⟨b, e2, fun W hb => (hr.below hb).2 k hk⟩
theorem MatR.row {a : Option Addr} {c i : Nat} (h : MatR w (.slice a m c) m n A) (hi : i < m) : ∃ b a2 c2, a = some ⟨b, 0, none⟩ ∧ ∀ W, Below w.heap.size w W → W.cell? ⟨b, i, none⟩ = some (.slice a2 n c2) ∧ SlR W (.slice a2 n c2) n (A i) := by
 obtain ⟨a', c', e, h1⟩ := h
 obtain ⟨rfl, rfl⟩ : a = a' ∧ c = c' := by simpa using e
 obtain ⟨b, e2, hb, h2⟩ := h1 (by omega)
 obtain ⟨vi, h3, hs⟩ := h2 i hi; obtain ⟨a2, c2, rfl, _⟩ := id hs
 exact ⟨b, a2, c2, e2, fun W ho => ⟨(ho.cell (p := ⟨b, i, none⟩) hb).trans h3, hs.below ho⟩⟩
theorem MatR.get {a : Option Addr} {c i j : Nat} (h : MatR w (.slice a m c) m n A) (hi : i < m) (hj : j < n) : ∃ b b2 c2, a = some ⟨b, 0, none⟩ ∧ ∀ W, Below w.heap.size w W → W.cell? ⟨b, i, none⟩ = some (.slice (some ⟨b2, 0, none⟩) n c2) ∧ At3 W b2 j (A i j) := by
 obtain ⟨b, a2, c2, e, h1⟩ := h.row hi; obtain ⟨h2, h3⟩ := h1 w (Below.refl _ _); obtain ⟨b2, rfl, h4⟩ := h3.get hj
 exact ⟨b, b2, c2, e, fun W ho => ⟨(h1 W ho).1, h4 W ho⟩⟩
end
theorem PR.parts {w : World} {pa pb pc : Value} {m n : Nat} {A : Nat → Nat → Rat} {B C : Nat → Rat} (h : PR w (.agg #[pa, pb, pc]) m n A B C) : MatR w pa m n A ∧ SlR w pb m B ∧ SlR w pc n C := by
 obtain ⟨a, b, c, e, h1, h2, h3⟩ := h.ex
 simp only [Value.agg.injEq, Array.mk.injEq, List.cons.injEq, and_true] at e
 obtain ⟨rfl, rfl, rfl⟩ := e
 exact ⟨h1, h2, h3⟩
theorem Row3.slr {w : World} {g m c : Nat} {F : Nat → Rat} (h : Row3 w g m (fun j => q3 (F j))) : SlR w (.slice (some ⟨g, 0, none⟩) m c) m F := ⟨_, _, rfl, fun _ => ⟨g, rfl, h.row (fun _ _ => rfl)⟩⟩
structure SolvC (m n : Nat) (A : Nat → Nat → Rat) (B C : Nat → Rat) (k : Nat) (w : World) (e : Ending) (w' : World) : Prop where
  ex : Below w.heap.size w w' ∧ Out m n A B C k ∧
    ((k = 0 ∧ ∃ gx gy X Y v, e = .returned (.tuple #[solV gx gy n m v, .int .i64 0]) ∧ Cert m n A B C X Y v ∧ w.heap.size ≤ gx ∧ w.heap.size ≤ gy ∧ gx ≠ gy ∧ Row3 w' gx n (fun j => q3 (X j)) ∧ Row3 w' gy m (fun i => q3 (Y i)) ∧ (∀ j, j < n → Sz (X j) 40000) ∧ (∀ i, i < m → Sz (Y i) 40000) ∧ Sz v 33554432) ∨
     (k = 1 ∧ e = .returned (.tuple #[solZ, .int .i64 16])) ∨ (k = 2 ∧ e = .returned (.tuple #[solZ, .int .i64 40])))
structure Fits (m n : Nat) (A : Nat → Nat → Rat) (B C : Nat → Rat) : Prop where
  hm : m ≤ 100
  hn : n ≤ 400
  f : Fit m n A B
  g : FitG m n A B (Lp.cst n C)
  s : SzP m n A B C 40000
theorem Small.fits {m n D H s : Nat} {A : Nat → Nat → Rat} {B C : Nat → Rat} (h : Small m n A B C D H s) (hm : m ≤ 100) (hn : n ≤ 400) (hk : 7 + s + 2 ^ m * (s + 1) ≤ 320000) : Fits m n A B C := by
 obtain ⟨a, b, c⟩ := h.fit (by omega) hk
 exact ⟨hm, hn, a, b, c⟩
theorem solve_c {m n : Nat} {A : Nat → Nat → Rat} {B C : Nat → Rat} (ft : Fits m n A B C) (p : Value) (w : World) (h : PR w p m n A B C) : Calls Tryz.prog 14 #[p] w fun e w' => ∃ k, SolvC m n A B C k w e w' :=
 (solve_any p m n A B C w h ft.hm ft.hn ft.s ft.f ft.g).mono (by
  rintro e w' ⟨hb, code, T, hsol, hres⟩
  refine ⟨code, ⟨hb, hsol.out, ?_⟩⟩
  rcases hres with ⟨rfl, gx, gy, rfl, h1, h2, h3, h4, h5⟩ | h | h
  ·refine .inl ⟨rfl, gx, gy, _, _, _, rfl, hsol.cert, h1, h2, h3, h4, h5, fun j _ => Sz_bsol ft.f hsol.way.1 j, fun i hi => ft.g.y T hsol.way.1 i hi, ?_⟩
   have hn := ft.hn
   refine (Sz_S (k := 80000) (fun j hj => Sz_mul (ft.s.c j hj) (Sz_bsol ft.f hsol.way.1 j)) n (Nat.le_refl _)).mono ?_
   have := Nat.mul_le_mul_left 80001 hn
   omega
  ·exact .inr (.inl h)
  ·exact .inr (.inr h))
theorem make_c (r c : Int) (hr : 0 ≤ r ∧ r ≤ 255) (hc : 0 ≤ c ∧ c ≤ 255) (v : Value) (zs : List Int) (w : World) (h : IntsK .i16 w v zs) (m n : Nat) (hm : (m : Int) = r % 7) (hn : (n : Int) = c % 7) :
  Calls Tryz.prog 13 #[.agg #[.int .u8 r, .int .u8 c, v]] w fun e w' => ∃ a0 c0 a1 c1 a2 c2, e = .returned (.agg #[.slice a0 m c0, .slice a1 m c1, .slice a2 n c2]) ∧ PR w' (.agg #[.slice a0 m c0, .slice a1 m c1, .slice a2 n c2]) m n (plA zs n) (plB zs n) (plC zs m n) ∧ Below w.heap.size w w' :=
 (make_any r c hr hc v zs w h m n hm hn).mono (by
  rintro e w' ⟨g, a0, c0, a1, c1, a2, c2, rv_, lab, rfl, hL⟩
  exact ⟨a0, c0, a1, c1, a2, c2, rfl, hL.pr (fun _ _ => rfl), hL.old⟩)
theorem plan_fits (zs : List Int) (m n : Nat) (hm : m ≤ 6) (hn : n ≤ 6) : Fits m n (plA zs n) (plB zs n) (plC zs m n) := by
 refine (plan_small zs m n).fits (by omega) (by omega) ?_
 have := Nat.pow_le_pow_right (n := 2) (by decide) hm
 omega
end Go.Proofs.YtinmmkcjjlconaaGreat
