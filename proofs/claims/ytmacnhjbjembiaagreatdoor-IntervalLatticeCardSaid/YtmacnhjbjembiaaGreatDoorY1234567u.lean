/- Parts of the proofs about this seat's statements. -/
import Derived.Test.YtmacnhjbjembiaaGreatDoorY1234567s
import Derived.RegionTactic
import Derived.BigRegion
namespace Go.Proofs.YtmacnhjbjembiaaGreatDoor
open Go.RowKit W Go.Shelf
open Pl (uv vn vs fitO makeO roundO p10 cmpI oN oS oB dtext)
open Pl (nb bv bv_nb nb_size_zero)
open Iv
attribute [local go_sem] Oper.semAt_some
theorem heap_more {w : World} {k : Nat} {o o' : Obj} (h : w.heap[k]? = some o) : (w.alloc o').heap[k]? = some o :=
 (((Below.refl w.heap.size w).alloc (Nat.le_refl _) o').block k (Array.getElem?_eq_some_iff.1 h).1).trans h
theorem Rx.ofBlock {w : World} {g : Nat} {vs : List Value} {t : TypeId} (h : w.heap[g]? = some (.cells vs.toArray t (0, 0))) : Rx w g vs :=
 ⟨(Array.getElem?_eq_some_iff.1 h).1, fun i v hv => ⟨by rw [cell_of_row w g i _ _ _ h]; simpa using hv, by rw [World.frozen?, h]; rfl⟩⟩
theorem mm_mem : ∀ {l : List Zb} {p : Int × Int}, mm l = some p → (∃ z : Zb, z.1 = p.1) ∧ (∃ z : Zb, z.1 = p.2) := by
 intro l
 have key : ∀ (l : List Zb) (o : Option (Int × Int)), (∀ p, o = some p → (∃ z : Zb, z.1 = p.1) ∧ (∃ z : Zb, z.1 = p.2)) → ∀ p, l.foldl (fun o (x : Zb) => mm1 o x.1) o = some p → (∃ z : Zb, z.1 = p.1) ∧ (∃ z : Zb, z.1 = p.2) := by
  intro l
  induction l with
  | nil => intro o ho p h; exact ho p h
  | cons x l ih =>
   intro o ho p h
   refine ih (mm1 o x.1) ?_ p h
   intro q hq
   cases o with
   | none => cases hq; exact ⟨⟨x, rfl⟩, ⟨x, rfl⟩⟩
   | some r =>
    have h1 := ho r rfl
    simp only [mm1, Option.some.injEq] at hq
    subst hq
    refine ⟨?_, ?_⟩
    ·show ∃ z : Zb, z.1 = if x.1 < r.1 then x.1 else r.1
     split
     ·exact ⟨x, rfl⟩
     ·exact h1.1
    ·show ∃ z : Zb, z.1 = if r.2 < x.1 then x.1 else r.2
     split
     ·exact ⟨x, rfl⟩
     ·exact h1.2
 intro p h
 exact key l none (fun _ h => by cases h) p h
theorem sgn_rK {K : Nat} (hK : 0 < K) (u v : Int) : (Rq.sgn (rK K u - rK K v) < 0 ↔ u < v) ∧ (0 < Rq.sgn (rK K u - rK K v) ↔ v < u) := by
 have h := Rq.sgn_cases (rK K u - rK K v); have h1 := Rq.sgn_lt (q := rK K u - rK K v); have h2 := Rq.sgn_gt (q := rK K u - rK K v); have e1 := rK_lt (u := u) (v := v) hK; have e2 := rK_lt (u := v) (v := u) hK
 have f1 : rK K u - rK K v < 0 ↔ rK K u < rK K v := by constructor <;> intro h <;> grind
 have f2 : 0 < rK K u - rK K v ↔ rK K v < rK K u := by constructor <;> intro h <;> grind
 constructor
 ·rw [← e1, ← f1, ← h1]; omega
 ·rw [← e2, ← f2, ← h2]; omega
theorem eight (w : World) (o0 o1 o2 o3 o4 o5 o6 o7 : Obj) (W0 : World) (hW : W0 = (((((((w.alloc o0).alloc o1).alloc o2).alloc o3).alloc o4).alloc o5).alloc o6).alloc o7) :
  W0.heap.size = w.heap.size + 8 ∧ Below w.heap.size w W0 ∧ W0.heap[w.heap.size + 2]? = some o2 ∧ W0.heap[w.heap.size + 3]? = some o3 ∧ W0.heap[w.heap.size + 4]? = some o4 ∧ W0.heap[w.heap.size + 5]? = some o5 ∧ W0.heap[w.heap.size + 6]? = some o6 ∧ W0.heap[w.heap.size + 7]? = some o7 := by
 have n := fun (u : World) (o : Obj) (k : Nat) (hk : k = u.heap.size) => show (u.alloc o).heap[k]? = some o by rw [hk]; exact heap_alloc_new u o
 subst hW
 refine ⟨by simp, ?_, ?_, ?_, ?_, ?_, ?_, ?_⟩
 ·exact ((((((((Below.refl w.heap.size w).alloc (Nat.le_refl _) _).alloc (by simp) _).alloc (by simp; omega) _).alloc (by simp; omega) _).alloc (by simp; omega) _).alloc (by simp; omega) _).alloc (by simp; omega) _).alloc (by simp; omega) _
 ·exact heap_more (heap_more (heap_more (heap_more (heap_more (n _ _ _ (by simp))))))
 ·exact heap_more (heap_more (heap_more (heap_more (n _ _ _ (by simp)))))
 ·exact heap_more (heap_more (heap_more (n _ _ _ (by simp))))
 ·exact heap_more (heap_more (n _ _ _ (by simp)))
 ·exact heap_more (n _ _ _ (by simp))
 ·exact n _ _ _ (by simp)
set_option maxRecDepth 100000 in
set_option maxHeartbeats 8000000 in
theorem iext_any (fop K : Nat) (x y : Int × Int) (xs : List Zb) (w : World) (hG : GI w) (hC : Cands fop K x y xs) (m : Int × Int) (hm : mm xs = some m) :
    Calls Tryz.prog 68 #[gv x, gv y, .func (.func fop) #[] #[]] w fun e w' => e = .returned (.tuple #[rv (rK K m.1), rv (rK K m.2)]) ∧ Below w.heap.size w w' := by
  refine (callsIn_wide (n := 9)).1 ?_
  refine callsIn_of_wp_marks Tryz.func68 rfl trivial ?_ rfl
  simp only [Tryz.ntmps68, List.size_toArray, List.length_cons, List.length_nil, Nat.reduceAdd, Nat.reduceSub, Array.replicate_succ, Array.replicate_zero, List.push_toArray, List.append_toArray, List.nil_append, List.cons_append]
  refine wpIn_wide.2 ?_
  go_wp2_with fail
  refine (icand_any _ _ _ _ _ _ _ _ fop _).mono ?_
  rintro e wC ⟨rfl, rfl⟩
  go_wp2_with fail
  obtain ⟨W0, hW⟩ : ∃ W0, W0 = (((((((w.alloc (.cells #[.int .i64 (Dn x.1), .int .i64 (Ds x.1), .int .i64 (Dn x.2), .int .i64 (Ds x.2)] 30)).alloc (.cells #[.int .i64 (Dn y.1), .int .i64 (Ds y.1), .int .i64 (Dn y.2), .int .i64 (Ds y.2)] 30)).alloc (.cells #[.bool false, .string ⟨#[]⟩, .string ⟨#[]⟩] 92)).alloc (.cells #[.bool false, .string ⟨#[]⟩, .string ⟨#[]⟩] 92)).alloc (.cells #[.bool true] 4)).alloc (.cells #[.int .i64 (Dn x.1), .int .i64 (Ds x.1), .int .i64 (Dn x.2), .int .i64 (Ds x.2)] 30)).alloc (.cells #[.int .i64 (Dn y.1), .int .i64 (Ds y.1), .int .i64 (Dn y.2), .int .i64 (Ds y.2)] 30)).alloc (.cells #[.func (.func fop) #[] #[]] 87) := ⟨_, rfl⟩
  obtain ⟨hsz, hbl, h6, h7, h8, hA, hB, hO⟩ := eight w _ _ _ _ _ _ _ _ W0 hW; rw [← hW]; have e1 : w.heap.size + 1 + 1 = w.heap.size + 2 := rfl
  simp only [Nat.add_assoc, Nat.reduceAdd]
  clear hW e1
  have k6 : w.heap.size ≤ w.heap.size + 2 := by omega
  have k7 : w.heap.size ≤ w.heap.size + 3 := by omega
  have k8 : w.heap.size ≤ w.heap.size + 4 := by omega
  obtain ⟨T, hT⟩ : ∃ T : Nat → Prop, ∀ k, T k ↔ k = w.heap.size + 2 ∨ k = w.heap.size + 3 ∨ k = w.heap.size + 4 := ⟨_, fun _ => Iff.rfl⟩
  have hit := hC.it (w.heap.size + 5) (w.heap.size + 6) (w.heap.size + 7) T w W0 hG hbl (fun k hk => by have := (hT k).1 hk; omega) (fun hk => by have := (hT _).1 hk; omega) (fun hk => by have := (hT _).1 hk; omega) (fun hk => by have := (hT _).1 hk; omega) hA hB hO
  have hE0 : EI K (w.heap.size + 2) (w.heap.size + 3) (w.heap.size + 4) w [] W0 := ⟨Rx.ofBlock h6, Rx.ofBlock h7, Rx.ofBlock h8, hbl⟩; have T6 := (hT (w.heap.size + 2)).2 (.inl rfl); have T7 := (hT (w.heap.size + 3)).2 (.inr (.inl rfl)); have T8 := (hT (w.heap.size + 4)).2 (.inr (.inr rfl))
  have n67 : w.heap.size + 2 ≠ w.heap.size + 3 := by omega
  have n68 : w.heap.size + 2 ≠ w.heap.size + 4 := by omega
  have n78 : w.heap.size + 3 ≠ w.heap.size + 4 := by omega
  have l6 : w.heap.size + 2 < W0.heap.size := by omega
  have l7 : w.heap.size + 3 < W0.heap.size := by omega
  have l8 : w.heap.size + 4 < W0.heap.size := by omega
  have hw0 : w.heap.size ≤ W0.heap.size := by omega
  clear hsz hbl h6 h7 h8 hA hB hO; generalize w.heap.size + 2 = b6 at *; generalize w.heap.size + 3 = b7 at *; generalize w.heap.size + 4 = b8 at *; generalize w.heap.size + 5 = ba at *; generalize w.heap.size + 6 = bb at *; generalize w.heap.size + 7 = bo at *
  refine (wpIn_wide (n := 9)).1 ?_
  apply wpIn_rangeFunc_ownH (F := Fence.wide) rfl (by omega) (gf := 144) (lb := #[.pointer (some ⟨ba, 0, none⟩), .pointer (some ⟨bb, 0, none⟩), .pointer (some ⟨bo, 0, none⟩)]) rfl trivial (enters_of Tryz.func144 (by kernel_rfl) rfl) hit
    (fun h k => h.t k) (fun W l o o' hl ho hc hk => ⟨KeptC.b W l o o' hl ho hc hk, belowK_b (w := w) (Nat.le_refl _) W l o o' (Nat.le_trans hw0 hl) ho hc hk⟩) (Below.refl _ _) (fun _ => rfl)
    (fun pre W => EI K b6 b7 b8 w pre W ∧ W0.heap.size ≤ W.heap.size) (fun _ _ _ => False)
    (fun s A C row hs hg hr => ⟨EI.own l6 l7 l8 hw0 s A C row hs.1 hg hr, Nat.le_trans hs.2 hg.size⟩) (fun _ _ _ _ _ hs _ _ => hs) ⟨hE0, Nat.le_refl _⟩
    (AxE K W0.heap.size (fun B9 v => { tmps := #[gv x, gv y, .func (.func fop) #[] #[], .pointer (some ⟨w.heap.size, 0, none⟩), .pointer (some ⟨w.heap.size + 1, 0, none⟩), undef, .pointer (some ⟨b6, 0, none⟩), .pointer (some ⟨b7, 0, none⟩), .pointer (some ⟨b8, 0, none⟩), .pointer (some ⟨B9, 0, none⟩), gv x, gv y, .func (.func fop) #[] #[], .func (.func 144) #[] #[.pointer (some ⟨ba, 0, none⟩), .pointer (some ⟨bb, 0, none⟩), .pointer (some ⟨bo, 0, none⟩)], v, undef, undef, undef, undef, undef, undef, undef, undef, undef, undef, undef, undef, undef, undef, undef, undef, undef, undef], defers := [] })) AxE.own
  case hstop =>
    rintro D c pre W _ _ h _
    exact h.elim
  case hassign =>
    intro l pre z W Kx hI hK
    gi_wp2
    have hbl := (Below.refl W.heap.size W).alloc (Nat.le_refl _) (.cells (vR (rK K z.1)).toArray 92)
    exact hK _ _ ((KeepsOthers.alloc _ _).from _) (KP.below hbl (Nat.le_trans hw0 hI.2)) ⟨hI.1.below hbl, Nat.le_trans hI.2 hbl.size⟩ ⟨W.heap.size, hI.2, heap_alloc_new _ _, rfl⟩
  case hbody =>
    rintro l pre z a' W hl hr ⟨hI, hsW⟩ ⟨B9, hB9, h9, rfl⟩ hlt
    have hd : 1 ≤ 9 - 1 - 1 := by omega
    have b9 : Rx W B9 (vR (rK K z.1)) := Rx.ofBlock h9; have hR : RK T w.heap.size W0.heap.size W W := RK.refl W
    have n69 : b6 ≠ B9 := by omega
    have n79 : b7 ≠ B9 := by omega
    have n89 : b8 ≠ B9 := by omega
    have hSZ := hC.sz z; have hKp := hC.kp; have hms := mm_snoc pre z; have hmem := @mm_mem pre; clear hit hE0 h9 hl hr; obtain ⟨bL, bG, bF, hacc⟩ := hI
    have HI : Hid (∀ (W' : World) (v : Int × Int), mm1 (mm pre) z.1 = some v → Rx W' b6 (vR (rK K v.1)) → Rx W' b7 (vR (rK K v.2)) → Rx W' b8 [.bool false] → Below w.heap.size w W' → EI K b6 b7 b8 w (pre ++ [z]) W') := Lib.hid (fun W' v hv h1 h2 h3 h4 => ⟨by rw [hms, hv]; exact h1, by rw [hms, hv]; exact h2, by rw [hms, hv]; exact h3, h4⟩)
    clear hms
    cases hmm : mm pre with
    | none =>
      rw [hmm] at bL bG bF HI; have hv : mm1 none z.1 = some (z.1, z.1) := rfl; have HI2 := Lib.hid (fun W' => HI.out W' _ hv); clear HI hv hmm hmem hSZ hKp
      simp only [Option.map_none, Option.isNone_none, vL, vR] at bL bG bF b9 HI2
      generalize decide ((rK K z.1).num < 0) = z0 at *; generalize nb (rK K z.1).num.natAbs = z1 at *; generalize nb (rK K z.1).den = z2 at *; have c60 := bL.at 0 rfl; have c61 := bL.at 1 rfl; have c62 := bL.at 2 rfl; have f60 := bL.fr 0 rfl; have f61 := bL.fr 1 rfl; have f62 := bL.fr 2 rfl; have c70 := bG.at 0 rfl; have c71 := bG.at 1 rfl; have c72 := bG.at 2 rfl; have f70 := bG.fr 0 rfl; have f71 := bG.fr 1 rfl
      have f72 := bG.fr 2 rfl; have ⟨c80, f80⟩ := bF.all1; have c90 := b9.at 0 rfl; have c91 := b9.at 1 rfl; have c92 := b9.at 2 rfl
      gi_wp2
      refine ⟨trivial, ?_⟩
      gi_wp2
      refine ⟨trivial, ?_⟩
      gi_wp2
      exact ⟨(((((((hR.set (p := ⟨b6, 0, none⟩) T6 k6 _).set (p := ⟨b6, 1, none⟩) T6 k6 _).set (p := ⟨b6, 2, none⟩) T6 k6 _).set (p := ⟨b7, 0, none⟩) T7 k7 _).set (p := ⟨b7, 1, none⟩) T7 k7 _).set (p := ⟨b7, 2, none⟩) T7 k7 _).set (p := ⟨b8, 0, none⟩) T8 k8 _).k, (((((((hR.set (p := ⟨b6, 0, none⟩) T6 k6 _).set (p := ⟨b6, 1, none⟩) T6 k6 _).set (p := ⟨b6, 2, none⟩) T6 k6 _).set (p := ⟨b7, 0, none⟩) T7 k7 _).set (p := ⟨b7, 1, none⟩) T7 k7 _).set (p := ⟨b7, 2, none⟩) T7 k7 _).set (p := ⟨b8, 0, none⟩) T8 k8 _).p, HI2.out _ (((((bL.put3 _ _ _).other (p := ⟨b7, 0, none⟩) n67.symm _).other (p := ⟨b7, 1, none⟩) n67.symm _).other (p := ⟨b7, 2, none⟩) n67.symm _).other (p := ⟨b8, 0, none⟩) n68.symm _) (((((bG.other (p := ⟨b6, 0, none⟩) n67 _).other (p := ⟨b6, 1, none⟩) n67 _).other (p := ⟨b6, 2, none⟩) n67 _).put3 _ _ _).other (p := ⟨b8, 0, none⟩) n78.symm _) (((((((bF.other (p := ⟨b6, 0, none⟩) n68 _).other (p := ⟨b6, 1, none⟩) n68 _).other (p := ⟨b6, 2, none⟩) n68 _).other (p := ⟨b7, 0, none⟩) n78 _).other (p := ⟨b7, 1, none⟩) n78 _).other (p := ⟨b7, 2, none⟩) n78 _).put 0 (.bool false) (by simp)) (((((((hacc.setCell (p := ⟨b6, 0, none⟩) k6 _).setCell (p := ⟨b6, 1, none⟩) k6 _).setCell (p := ⟨b6, 2, none⟩) k6 _).setCell (p := ⟨b7, 0, none⟩) k7 _).setCell (p := ⟨b7, 1, none⟩) k7 _).setCell (p := ⟨b7, 2, none⟩) k7 _).setCell (p := ⟨b8, 0, none⟩) k8 _), Nat.le_trans hsW (((((((hR.set (p := ⟨b6, 0, none⟩) T6 k6 _).set (p := ⟨b6, 1, none⟩) T6 k6 _).set (p := ⟨b6, 2, none⟩) T6 k6 _).set (p := ⟨b7, 0, none⟩) T7 k7 _).set (p := ⟨b7, 1, none⟩) T7 k7 _).set (p := ⟨b7, 2, none⟩) T7 k7 _).set (p := ⟨b8, 0, none⟩) T8 k8 _).k.size⟩
    | some p =>
      rw [hmm] at bL bG bF HI; obtain ⟨⟨za, hza⟩, ⟨zb, hzb⟩⟩ := hmem hmm
      have sa : Sz (rK K p.1) 33554432 := by rw [← hza]; exact hC.sz za
      have sb : Sz (rK K p.2) 33554432 := by rw [← hzb]; exact hC.sz zb
      have HL := Lib.hid (fun W => acmp_any (rK K z.1) (rK K p.1) W hSZ sa); have HG := Lib.hid (fun W => acmp_any (rK K z.1) (rK K p.2) W hSZ sb); have s1 := (sgn_rK hKp z.1 p.1).1; have s2 := (sgn_rK hKp z.1 p.2).2; clear hza hzb sa sb hSZ hKp hmm hmem; generalize Rq.sgn (rK K z.1 - rK K p.1) = q1 at *; generalize Rq.sgn (rK K z.1 - rK K p.2) = q2 at *; have hv : mm1 (some p) z.1 = some (if z.1 < p.1 then z.1 else p.1, if p.2 < z.1 then z.1 else p.2) := rfl
      have HI2 := HI.out; clear HI
      by_cases t1 : z.1 < p.1
      · rw [if_pos t1] at hv
        have u1 := s1.2 t1
        by_cases t2 : p.2 < z.1
        · rw [if_pos t2] at hv
          have u2 := s2.2 t2; have HI3 := Lib.hid (fun W' => HI2 W' _ hv); clear HI2 hv s1 s2 t1 t2
          simp only [Option.map_some, Option.isNone_some, vL, vR] at bL bG bF b9 HI3
          simp only [rv] at HL HG
          generalize decide ((rK K z.1).num < 0) = z0 at *; generalize nb (rK K z.1).num.natAbs = z1 at *; generalize nb (rK K z.1).den = z2 at *; generalize decide ((rK K p.1).num < 0) = p0 at *; generalize nb (rK K p.1).num.natAbs = p1 at *; generalize nb (rK K p.1).den = p2 at *; generalize decide ((rK K p.2).num < 0) = r0 at *; generalize nb (rK K p.2).num.natAbs = r1 at *; generalize nb (rK K p.2).den = r2 at *
          have d1 : decide (q1 < 0) = true := decide_eq_true u1; have d2 : decide (0 < q2) = true := decide_eq_true u2; have c60 := bL.at 0 rfl; have c61 := bL.at 1 rfl; have c62 := bL.at 2 rfl; have f60 := bL.fr 0 rfl; have f61 := bL.fr 1 rfl; have f62 := bL.fr 2 rfl; have c70 := bG.at 0 rfl; have c71 := bG.at 1 rfl; have c72 := bG.at 2 rfl; have f70 := bG.fr 0 rfl; have f71 := bG.fr 1 rfl; have f72 := bG.fr 2 rfl
          have ⟨c80, f80⟩ := bF.all1; have c90 := b9.at 0 rfl; have c91 := b9.at 1 rfl; have c92 := b9.at 2 rfl
          gi_wp2
          refine ⟨trivial, ?_⟩
          refine (CallsIn.inRound l (callsIn_wide.2 (HL.out _))).mono ?_
          rintro e wX ⟨rfl, hbX⟩; clear c60 c61 c62 f60 f61 f62 c70 c71 c72 f70 f71 f72 c80 f80 c90 c91 c92; have hR := hR.below hbX (Nat.le_trans hw0 (Nat.le_trans hsW hR.k.size)); have bL := bL.below hbX; have bG := bG.below hbX; have bF := bF.below hbX; have b9 := b9.below hbX; have hacc := hacc.trans (hbX.mono hacc.size); clear hbX; have c60 := bL.at 0 rfl; have c61 := bL.at 1 rfl; have c62 := bL.at 2 rfl
          have f60 := bL.fr 0 rfl; have f61 := bL.fr 1 rfl; have f62 := bL.fr 2 rfl; have c70 := bG.at 0 rfl; have c71 := bG.at 1 rfl; have c72 := bG.at 2 rfl; have f70 := bG.fr 0 rfl; have f71 := bG.fr 1 rfl; have f72 := bG.fr 2 rfl; have ⟨c80, f80⟩ := bF.all1; have c90 := b9.at 0 rfl; have c91 := b9.at 1 rfl; have c92 := b9.at 2 rfl
          gi_wp2
          clear c60 c61 c62 f60 f61 f62 c70 c71 c72 f70 f71 f72 c80 f80 c90 c91 c92; have hR := (((hR.set (p := ⟨b6, 0, none⟩) T6 k6 (.bool z0)).set (p := ⟨b6, 1, none⟩) T6 k6 (.string z1)).set (p := ⟨b6, 2, none⟩) T6 k6 (.string z2)); have bG := (((bG.other (p := ⟨b6, 0, none⟩) n67 (.bool z0)).other (p := ⟨b6, 1, none⟩) n67 (.string z1)).other (p := ⟨b6, 2, none⟩) n67 (.string z2)); have bF := (((bF.other (p := ⟨b6, 0, none⟩) n68 (.bool z0)).other (p := ⟨b6, 1, none⟩) n68 (.string z1)).other (p := ⟨b6, 2, none⟩) n68 (.string z2))
          have b9 := (((b9.other (p := ⟨b6, 0, none⟩) n69 (.bool z0)).other (p := ⟨b6, 1, none⟩) n69 (.string z1)).other (p := ⟨b6, 2, none⟩) n69 (.string z2)); have hacc := (((hacc.setCell (p := ⟨b6, 0, none⟩) k6 (.bool z0)).setCell (p := ⟨b6, 1, none⟩) k6 (.string z1)).setCell (p := ⟨b6, 2, none⟩) k6 (.string z2)); have bL := bL.put3 (.bool z0) (.string z1) (.string z2)
          refine ⟨trivial, ?_⟩
          refine (CallsIn.inRound l (callsIn_wide.2 (HG.out _))).mono ?_
          rintro e wY ⟨rfl, hbX⟩; have hR := hR.below hbX (Nat.le_trans hw0 (Nat.le_trans hsW hR.k.size)); have bL := bL.below hbX; have bG := bG.below hbX; have bF := bF.below hbX; have b9 := b9.below hbX; have hacc := hacc.trans (hbX.mono hacc.size); clear hbX; have c60 := bL.at 0 rfl; have c61 := bL.at 1 rfl; have c62 := bL.at 2 rfl; have f60 := bL.fr 0 rfl; have f61 := bL.fr 1 rfl; have f62 := bL.fr 2 rfl
          have c70 := bG.at 0 rfl; have c71 := bG.at 1 rfl; have c72 := bG.at 2 rfl; have f70 := bG.fr 0 rfl; have f71 := bG.fr 1 rfl; have f72 := bG.fr 2 rfl; have ⟨c80, f80⟩ := bF.all1; have c90 := b9.at 0 rfl; have c91 := b9.at 1 rfl; have c92 := b9.at 2 rfl
          gi_wp2
          exact ⟨((((hR.set (p := ⟨b7, 0, none⟩) T7 k7 _).set (p := ⟨b7, 1, none⟩) T7 k7 _).set (p := ⟨b7, 2, none⟩) T7 k7 _).set (p := ⟨b8, 0, none⟩) T8 k8 _).k, ((((hR.set (p := ⟨b7, 0, none⟩) T7 k7 _).set (p := ⟨b7, 1, none⟩) T7 k7 _).set (p := ⟨b7, 2, none⟩) T7 k7 _).set (p := ⟨b8, 0, none⟩) T8 k8 _).p, HI3.out _ ((((bL.other (p := ⟨b7, 0, none⟩) n67.symm _).other (p := ⟨b7, 1, none⟩) n67.symm _).other (p := ⟨b7, 2, none⟩) n67.symm _).other (p := ⟨b8, 0, none⟩) n68.symm _) ((bG.put3 _ _ _).other (p := ⟨b8, 0, none⟩) n78.symm _) ((((bF.other (p := ⟨b7, 0, none⟩) n78 _).other (p := ⟨b7, 1, none⟩) n78 _).other (p := ⟨b7, 2, none⟩) n78 _).put 0 (.bool false) (by simp)) ((((hacc.setCell (p := ⟨b7, 0, none⟩) k7 _).setCell (p := ⟨b7, 1, none⟩) k7 _).setCell (p := ⟨b7, 2, none⟩) k7 _).setCell (p := ⟨b8, 0, none⟩) k8 _), Nat.le_trans hsW ((((hR.set (p := ⟨b7, 0, none⟩) T7 k7 _).set (p := ⟨b7, 1, none⟩) T7 k7 _).set (p := ⟨b7, 2, none⟩) T7 k7 _).set (p := ⟨b8, 0, none⟩) T8 k8 _).k.size⟩
        · rw [if_neg t2] at hv
          have u2 := fun h => t2 (s2.1 h); have HI3 := Lib.hid (fun W' => HI2 W' _ hv); clear HI2 hv s1 s2 t1 t2
          simp only [Option.map_some, Option.isNone_some, vL, vR] at bL bG bF b9 HI3
          simp only [rv] at HL HG
          generalize decide ((rK K z.1).num < 0) = z0 at *; generalize nb (rK K z.1).num.natAbs = z1 at *; generalize nb (rK K z.1).den = z2 at *; generalize decide ((rK K p.1).num < 0) = p0 at *; generalize nb (rK K p.1).num.natAbs = p1 at *; generalize nb (rK K p.1).den = p2 at *; generalize decide ((rK K p.2).num < 0) = r0 at *; generalize nb (rK K p.2).num.natAbs = r1 at *; generalize nb (rK K p.2).den = r2 at *
          have d1 : decide (q1 < 0) = true := decide_eq_true u1; have d2 : decide (0 < q2) = false := decide_eq_false u2; have c60 := bL.at 0 rfl; have c61 := bL.at 1 rfl; have c62 := bL.at 2 rfl; have f60 := bL.fr 0 rfl; have f61 := bL.fr 1 rfl; have f62 := bL.fr 2 rfl; have c70 := bG.at 0 rfl; have c71 := bG.at 1 rfl; have c72 := bG.at 2 rfl; have f70 := bG.fr 0 rfl; have f71 := bG.fr 1 rfl; have f72 := bG.fr 2 rfl
          have ⟨c80, f80⟩ := bF.all1; have c90 := b9.at 0 rfl; have c91 := b9.at 1 rfl; have c92 := b9.at 2 rfl
          gi_wp2
          refine ⟨trivial, ?_⟩
          refine (CallsIn.inRound l (callsIn_wide.2 (HL.out _))).mono ?_
          rintro e wX ⟨rfl, hbX⟩; clear c60 c61 c62 f60 f61 f62 c70 c71 c72 f70 f71 f72 c80 f80 c90 c91 c92; have hR := hR.below hbX (Nat.le_trans hw0 (Nat.le_trans hsW hR.k.size)); have bL := bL.below hbX; have bG := bG.below hbX; have bF := bF.below hbX; have b9 := b9.below hbX; have hacc := hacc.trans (hbX.mono hacc.size); clear hbX; have c60 := bL.at 0 rfl; have c61 := bL.at 1 rfl; have c62 := bL.at 2 rfl
          have f60 := bL.fr 0 rfl; have f61 := bL.fr 1 rfl; have f62 := bL.fr 2 rfl; have c70 := bG.at 0 rfl; have c71 := bG.at 1 rfl; have c72 := bG.at 2 rfl; have f70 := bG.fr 0 rfl; have f71 := bG.fr 1 rfl; have f72 := bG.fr 2 rfl; have ⟨c80, f80⟩ := bF.all1; have c90 := b9.at 0 rfl; have c91 := b9.at 1 rfl; have c92 := b9.at 2 rfl
          gi_wp2
          clear c60 c61 c62 f60 f61 f62 c70 c71 c72 f70 f71 f72 c80 f80 c90 c91 c92; have hR := (((hR.set (p := ⟨b6, 0, none⟩) T6 k6 (.bool z0)).set (p := ⟨b6, 1, none⟩) T6 k6 (.string z1)).set (p := ⟨b6, 2, none⟩) T6 k6 (.string z2)); have bG := (((bG.other (p := ⟨b6, 0, none⟩) n67 (.bool z0)).other (p := ⟨b6, 1, none⟩) n67 (.string z1)).other (p := ⟨b6, 2, none⟩) n67 (.string z2)); have bF := (((bF.other (p := ⟨b6, 0, none⟩) n68 (.bool z0)).other (p := ⟨b6, 1, none⟩) n68 (.string z1)).other (p := ⟨b6, 2, none⟩) n68 (.string z2))
          have b9 := (((b9.other (p := ⟨b6, 0, none⟩) n69 (.bool z0)).other (p := ⟨b6, 1, none⟩) n69 (.string z1)).other (p := ⟨b6, 2, none⟩) n69 (.string z2)); have hacc := (((hacc.setCell (p := ⟨b6, 0, none⟩) k6 (.bool z0)).setCell (p := ⟨b6, 1, none⟩) k6 (.string z1)).setCell (p := ⟨b6, 2, none⟩) k6 (.string z2)); have bL := bL.put3 (.bool z0) (.string z1) (.string z2)
          refine ⟨trivial, ?_⟩
          refine (CallsIn.inRound l (callsIn_wide.2 (HG.out _))).mono ?_
          rintro e wY ⟨rfl, hbX⟩; have hR := hR.below hbX (Nat.le_trans hw0 (Nat.le_trans hsW hR.k.size)); have bL := bL.below hbX; have bG := bG.below hbX; have bF := bF.below hbX; have b9 := b9.below hbX; have hacc := hacc.trans (hbX.mono hacc.size); clear hbX; have c60 := bL.at 0 rfl; have c61 := bL.at 1 rfl; have c62 := bL.at 2 rfl; have f60 := bL.fr 0 rfl; have f61 := bL.fr 1 rfl; have f62 := bL.fr 2 rfl
          have c70 := bG.at 0 rfl; have c71 := bG.at 1 rfl; have c72 := bG.at 2 rfl; have f70 := bG.fr 0 rfl; have f71 := bG.fr 1 rfl; have f72 := bG.fr 2 rfl; have ⟨c80, f80⟩ := bF.all1; have c90 := b9.at 0 rfl; have c91 := b9.at 1 rfl; have c92 := b9.at 2 rfl
          gi_wp2
          exact ⟨(hR.set (p := ⟨b8, 0, none⟩) T8 k8 _).k, (hR.set (p := ⟨b8, 0, none⟩) T8 k8 _).p, HI3.out _ (bL.other (p := ⟨b8, 0, none⟩) n68.symm _) (bG.other (p := ⟨b8, 0, none⟩) n78.symm _) (bF.put 0 (.bool false) (by simp)) (hacc.setCell (p := ⟨b8, 0, none⟩) k8 _), Nat.le_trans hsW (hR.set (p := ⟨b8, 0, none⟩) T8 k8 _).k.size⟩
      · rw [if_neg t1] at hv
        have u1 := fun h => t1 (s1.1 h)
        by_cases t2 : p.2 < z.1
        · rw [if_pos t2] at hv
          have u2 := s2.2 t2; have HI3 := Lib.hid (fun W' => HI2 W' _ hv); clear HI2 hv s1 s2 t1 t2
          simp only [Option.map_some, Option.isNone_some, vL, vR] at bL bG bF b9 HI3
          simp only [rv] at HL HG
          generalize decide ((rK K z.1).num < 0) = z0 at *; generalize nb (rK K z.1).num.natAbs = z1 at *; generalize nb (rK K z.1).den = z2 at *; generalize decide ((rK K p.1).num < 0) = p0 at *; generalize nb (rK K p.1).num.natAbs = p1 at *; generalize nb (rK K p.1).den = p2 at *; generalize decide ((rK K p.2).num < 0) = r0 at *; generalize nb (rK K p.2).num.natAbs = r1 at *; generalize nb (rK K p.2).den = r2 at *
          have d1 : decide (q1 < 0) = false := decide_eq_false u1; have d2 : decide (0 < q2) = true := decide_eq_true u2; have c60 := bL.at 0 rfl; have c61 := bL.at 1 rfl; have c62 := bL.at 2 rfl; have f60 := bL.fr 0 rfl; have f61 := bL.fr 1 rfl; have f62 := bL.fr 2 rfl; have c70 := bG.at 0 rfl; have c71 := bG.at 1 rfl; have c72 := bG.at 2 rfl; have f70 := bG.fr 0 rfl; have f71 := bG.fr 1 rfl; have f72 := bG.fr 2 rfl
          have ⟨c80, f80⟩ := bF.all1; have c90 := b9.at 0 rfl; have c91 := b9.at 1 rfl; have c92 := b9.at 2 rfl
          gi_wp2
          refine ⟨trivial, ?_⟩
          refine (CallsIn.inRound l (callsIn_wide.2 (HL.out _))).mono ?_
          rintro e wX ⟨rfl, hbX⟩; clear c60 c61 c62 f60 f61 f62 c70 c71 c72 f70 f71 f72 c80 f80 c90 c91 c92; have hR := hR.below hbX (Nat.le_trans hw0 (Nat.le_trans hsW hR.k.size)); have bL := bL.below hbX; have bG := bG.below hbX; have bF := bF.below hbX; have b9 := b9.below hbX; have hacc := hacc.trans (hbX.mono hacc.size); clear hbX; have c60 := bL.at 0 rfl; have c61 := bL.at 1 rfl; have c62 := bL.at 2 rfl
          have f60 := bL.fr 0 rfl; have f61 := bL.fr 1 rfl; have f62 := bL.fr 2 rfl; have c70 := bG.at 0 rfl; have c71 := bG.at 1 rfl; have c72 := bG.at 2 rfl; have f70 := bG.fr 0 rfl; have f71 := bG.fr 1 rfl; have f72 := bG.fr 2 rfl; have ⟨c80, f80⟩ := bF.all1; have c90 := b9.at 0 rfl; have c91 := b9.at 1 rfl; have c92 := b9.at 2 rfl
          gi_wp2
          refine ⟨trivial, ?_⟩
          refine (CallsIn.inRound l (callsIn_wide.2 (HG.out _))).mono ?_
          rintro e wY ⟨rfl, hbX⟩; clear c60 c61 c62 f60 f61 f62 c70 c71 c72 f70 f71 f72 c80 f80 c90 c91 c92; have hR := hR.below hbX (Nat.le_trans hw0 (Nat.le_trans hsW hR.k.size)); have bL := bL.below hbX; have bG := bG.below hbX; have bF := bF.below hbX; have b9 := b9.below hbX; have hacc := hacc.trans (hbX.mono hacc.size); clear hbX; have c60 := bL.at 0 rfl; have c61 := bL.at 1 rfl; have c62 := bL.at 2 rfl
          have f60 := bL.fr 0 rfl; have f61 := bL.fr 1 rfl; have f62 := bL.fr 2 rfl; have c70 := bG.at 0 rfl; have c71 := bG.at 1 rfl; have c72 := bG.at 2 rfl; have f70 := bG.fr 0 rfl; have f71 := bG.fr 1 rfl; have f72 := bG.fr 2 rfl; have ⟨c80, f80⟩ := bF.all1; have c90 := b9.at 0 rfl; have c91 := b9.at 1 rfl; have c92 := b9.at 2 rfl
          gi_wp2
          exact ⟨((((hR.set (p := ⟨b7, 0, none⟩) T7 k7 _).set (p := ⟨b7, 1, none⟩) T7 k7 _).set (p := ⟨b7, 2, none⟩) T7 k7 _).set (p := ⟨b8, 0, none⟩) T8 k8 _).k, ((((hR.set (p := ⟨b7, 0, none⟩) T7 k7 _).set (p := ⟨b7, 1, none⟩) T7 k7 _).set (p := ⟨b7, 2, none⟩) T7 k7 _).set (p := ⟨b8, 0, none⟩) T8 k8 _).p, HI3.out _ ((((bL.other (p := ⟨b7, 0, none⟩) n67.symm _).other (p := ⟨b7, 1, none⟩) n67.symm _).other (p := ⟨b7, 2, none⟩) n67.symm _).other (p := ⟨b8, 0, none⟩) n68.symm _) ((bG.put3 _ _ _).other (p := ⟨b8, 0, none⟩) n78.symm _) ((((bF.other (p := ⟨b7, 0, none⟩) n78 _).other (p := ⟨b7, 1, none⟩) n78 _).other (p := ⟨b7, 2, none⟩) n78 _).put 0 (.bool false) (by simp)) ((((hacc.setCell (p := ⟨b7, 0, none⟩) k7 _).setCell (p := ⟨b7, 1, none⟩) k7 _).setCell (p := ⟨b7, 2, none⟩) k7 _).setCell (p := ⟨b8, 0, none⟩) k8 _), Nat.le_trans hsW ((((hR.set (p := ⟨b7, 0, none⟩) T7 k7 _).set (p := ⟨b7, 1, none⟩) T7 k7 _).set (p := ⟨b7, 2, none⟩) T7 k7 _).set (p := ⟨b8, 0, none⟩) T8 k8 _).k.size⟩
        · rw [if_neg t2] at hv
          have u2 := fun h => t2 (s2.1 h); have HI3 := Lib.hid (fun W' => HI2 W' _ hv); clear HI2 hv s1 s2 t1 t2
          simp only [Option.map_some, Option.isNone_some, vL, vR] at bL bG bF b9 HI3
          simp only [rv] at HL HG
          generalize decide ((rK K z.1).num < 0) = z0 at *; generalize nb (rK K z.1).num.natAbs = z1 at *; generalize nb (rK K z.1).den = z2 at *; generalize decide ((rK K p.1).num < 0) = p0 at *; generalize nb (rK K p.1).num.natAbs = p1 at *; generalize nb (rK K p.1).den = p2 at *; generalize decide ((rK K p.2).num < 0) = r0 at *; generalize nb (rK K p.2).num.natAbs = r1 at *; generalize nb (rK K p.2).den = r2 at *
          have d1 : decide (q1 < 0) = false := decide_eq_false u1; have d2 : decide (0 < q2) = false := decide_eq_false u2; have c60 := bL.at 0 rfl; have c61 := bL.at 1 rfl; have c62 := bL.at 2 rfl; have f60 := bL.fr 0 rfl; have f61 := bL.fr 1 rfl; have f62 := bL.fr 2 rfl; have c70 := bG.at 0 rfl; have c71 := bG.at 1 rfl; have c72 := bG.at 2 rfl; have f70 := bG.fr 0 rfl; have f71 := bG.fr 1 rfl; have f72 := bG.fr 2 rfl
          have ⟨c80, f80⟩ := bF.all1; have c90 := b9.at 0 rfl; have c91 := b9.at 1 rfl; have c92 := b9.at 2 rfl
          gi_wp2
          refine ⟨trivial, ?_⟩
          refine (CallsIn.inRound l (callsIn_wide.2 (HL.out _))).mono ?_
          rintro e wX ⟨rfl, hbX⟩; clear c60 c61 c62 f60 f61 f62 c70 c71 c72 f70 f71 f72 c80 f80 c90 c91 c92; have hR := hR.below hbX (Nat.le_trans hw0 (Nat.le_trans hsW hR.k.size)); have bL := bL.below hbX; have bG := bG.below hbX; have bF := bF.below hbX; have b9 := b9.below hbX; have hacc := hacc.trans (hbX.mono hacc.size); clear hbX; have c60 := bL.at 0 rfl; have c61 := bL.at 1 rfl; have c62 := bL.at 2 rfl
          have f60 := bL.fr 0 rfl; have f61 := bL.fr 1 rfl; have f62 := bL.fr 2 rfl; have c70 := bG.at 0 rfl; have c71 := bG.at 1 rfl; have c72 := bG.at 2 rfl; have f70 := bG.fr 0 rfl; have f71 := bG.fr 1 rfl; have f72 := bG.fr 2 rfl; have ⟨c80, f80⟩ := bF.all1; have c90 := b9.at 0 rfl; have c91 := b9.at 1 rfl; have c92 := b9.at 2 rfl
          gi_wp2
          refine ⟨trivial, ?_⟩
          refine (CallsIn.inRound l (callsIn_wide.2 (HG.out _))).mono ?_
          rintro e wY ⟨rfl, hbX⟩; clear c60 c61 c62 f60 f61 f62 c70 c71 c72 f70 f71 f72 c80 f80 c90 c91 c92; have hR := hR.below hbX (Nat.le_trans hw0 (Nat.le_trans hsW hR.k.size)); have bL := bL.below hbX; have bG := bG.below hbX; have bF := bF.below hbX; have b9 := b9.below hbX; have hacc := hacc.trans (hbX.mono hacc.size); clear hbX; have c60 := bL.at 0 rfl; have c61 := bL.at 1 rfl; have c62 := bL.at 2 rfl
          have f60 := bL.fr 0 rfl; have f61 := bL.fr 1 rfl; have f62 := bL.fr 2 rfl; have c70 := bG.at 0 rfl; have c71 := bG.at 1 rfl; have c72 := bG.at 2 rfl; have f70 := bG.fr 0 rfl; have f71 := bG.fr 1 rfl; have f72 := bG.fr 2 rfl; have ⟨c80, f80⟩ := bF.all1; have c90 := b9.at 0 rfl; have c91 := b9.at 1 rfl; have c92 := b9.at 2 rfl
          gi_wp2
          exact ⟨(hR.set (p := ⟨b8, 0, none⟩) T8 k8 _).k, (hR.set (p := ⟨b8, 0, none⟩) T8 k8 _).p, HI3.out _ (bL.other (p := ⟨b8, 0, none⟩) n68.symm _) (bG.other (p := ⟨b8, 0, none⟩) n78.symm _) (bF.put 0 (.bool false) (by simp)) (hacc.setCell (p := ⟨b8, 0, none⟩) k8 _), Nat.le_trans hsW (hR.set (p := ⟨b8, 0, none⟩) T8 k8 _).k.size⟩
  case hdone =>
    rintro D ys W hD rfl ⟨⟨bL, bG, bF, hacc⟩, hsW⟩ hK; rw [hm] at bL bG
    have n6D : D ≠ b6 := by omega
    have n7D : D ≠ b7 := by omega
    clear hit hE0 bF hC hm T6 T7 T8 hT
    simp only [Option.map_some, vL, vR] at bL bG
    have c60 := bL.at 0 rfl; have c61 := bL.at 1 rfl; have c62 := bL.at 2 rfl; have f60 := bL.fr 0 rfl; have f61 := bL.fr 1 rfl; have f62 := bL.fr 2 rfl; have c70 := bG.at 0 rfl; have c71 := bG.at 1 rfl; have c72 := bG.at 2 rfl; have f70 := bG.fr 0 rfl; have f71 := bG.fr 1 rfl; have f72 := bG.fr 2 rfl
    go_wp2_with fail
    go_region
    have bL2 := ((((bL.put3 (.bool (decide ((rK K m.1).num < 0))) (.string (nb (rK K m.1).num.natAbs)) (.string (nb (rK K m.1).den))).other (p := ⟨b7, 0, none⟩) n67.symm (.bool (decide ((rK K m.2).num < 0)))).other (p := ⟨b7, 1, none⟩) n67.symm (.string (nb (rK K m.2).num.natAbs))).other (p := ⟨b7, 2, none⟩) n67.symm (.string (nb (rK K m.2).den))).drew; have bG2 := ((((bG.other (p := ⟨b6, 0, none⟩) n67 (.bool (decide ((rK K m.1).num < 0)))).other (p := ⟨b6, 1, none⟩) n67 (.string (nb (rK K m.1).num.natAbs))).other (p := ⟨b6, 2, none⟩) n67 (.string (nb (rK K m.1).den))).put3 (.bool (decide ((rK K m.2).num < 0))) (.string (nb (rK K m.2).num.natAbs)) (.string (nb (rK K m.2).den))).drew
    have hacc2 := ((((((hacc.setCell (p := ⟨b6, 0, none⟩) k6 (.bool (decide ((rK K m.1).num < 0)))).setCell (p := ⟨b6, 1, none⟩) k6 (.string (nb (rK K m.1).num.natAbs))).setCell (p := ⟨b6, 2, none⟩) k6 (.string (nb (rK K m.1).den))).setCell (p := ⟨b7, 0, none⟩) k7 (.bool (decide ((rK K m.2).num < 0)))).setCell (p := ⟨b7, 1, none⟩) k7 (.string (nb (rK K m.2).num.natAbs))).setCell (p := ⟨b7, 2, none⟩) k7 (.string (nb (rK K m.2).den))).drew
    have hK2 : ((((((W.setCell ⟨b6, 0, none⟩ (.bool (decide ((rK K m.1).num < 0)))).setCell ⟨b6, 1, none⟩ (.string (nb (rK K m.1).num.natAbs))).setCell ⟨b6, 2, none⟩ (.string (nb (rK K m.1).den))).setCell ⟨b7, 0, none⟩ (.bool (decide ((rK K m.2).num < 0)))).setCell ⟨b7, 1, none⟩ (.string (nb (rK K m.2).num.natAbs))).setCell ⟨b7, 2, none⟩ (.string (nb (rK K m.2).den))).drew.heap[D]? = some (.deferred (some [])) := by
      show ((((((W.setCell ⟨b6, 0, none⟩ (.bool (decide ((rK K m.1).num < 0)))).setCell ⟨b6, 1, none⟩ (.string (nb (rK K m.1).num.natAbs))).setCell ⟨b6, 2, none⟩ (.string (nb (rK K m.1).den))).setCell ⟨b7, 0, none⟩ (.bool (decide ((rK K m.2).num < 0)))).setCell ⟨b7, 1, none⟩ (.string (nb (rK K m.2).num.natAbs))).setCell ⟨b7, 2, none⟩ (.string (nb (rK K m.2).den))).heap[D]? = _
      rw [Below.heap_setCell _ _ _ _ n7D, Below.heap_setCell _ _ _ _ n7D, Below.heap_setCell _ _ _ _ n7D, Below.heap_setCell _ _ _ _ n6D, Below.heap_setCell _ _ _ _ n6D, Below.heap_setCell _ _ _ _ n6D]
      exact hK
    clear c60 c61 c62 f60 f61 f62 c70 c71 c72 f70 f71 f72 bL bG hacc hK; generalize ((((((W.setCell ⟨b6, 0, none⟩ (.bool (decide ((rK K m.1).num < 0)))).setCell ⟨b6, 1, none⟩ (.string (nb (rK K m.1).num.natAbs))).setCell ⟨b6, 2, none⟩ (.string (nb (rK K m.1).den))).setCell ⟨b7, 0, none⟩ (.bool (decide ((rK K m.2).num < 0)))).setCell ⟨b7, 1, none⟩ (.string (nb (rK K m.2).num.natAbs))).setCell ⟨b7, 2, none⟩ (.string (nb (rK K m.2).den))).drew = W2 at *
    go_wp2_with fail
    have q6 := bL2.keptG (grownBy_putObj' W2 D (.deferred none)) (fun e => n6D (by cases e; rfl))
    have q7 := bG2.keptG (grownBy_putObj' W2 D (.deferred none)) (fun e => n7D (by cases e; rfl))
    have c60 := q6.at 0 rfl; have c61 := q6.at 1 rfl; have c62 := q6.at 2 rfl; have c70 := q7.at 0 rfl; have c71 := q7.at 1 rfl; have c72 := q7.at 2 rfl
    refine ⟨by simp, .inl ⟨_, _, rfl, run_takeDeferred hK2, ?_⟩⟩
    refine ⟨.tuple #[rv (rK K m.1), rv (rK K m.2)], by simp [results, Tryz.results68, go_sem, c60, c61, c62, c70, c71, c72], rfl, ?_⟩
    exact hacc2.trans (belowK_b (w := w) (Nat.le_refl _) W2 D _ _ (Nat.le_trans hw0 hD) hK2 rfl rfl)
end Go.Proofs.YtmacnhjbjembiaaGreatDoor
