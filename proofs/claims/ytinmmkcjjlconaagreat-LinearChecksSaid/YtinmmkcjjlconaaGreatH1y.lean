/- Parts of the proofs about this seat's statements. -/
import Derived.Test.YtinmmkcjjlconaaGreatH1x
set_option maxRecDepth 100000
set_option maxHeartbeats 16000000
namespace Go.Proofs.YtinmmkcjjlconaaGreat
open Go.RowKit W
open Pl (nb)
open Lp (Tab wc Climb Inv0 Pos)
theorem best_step {m N var : Nat} {T : Tab} {g : Nat → Rat} {r c : Nat} (hb : Lp.Best id (wc m T g) c m r) (hc : c < var) (hv : var ≤ N) (hp : 0 < (wc m T g).c c) (hl : ∀ j, j < c → (wc m T g).c j ≤ 0) : Lp.Step m N id (· < var) (wc m T g) r c where
 hr := hb.lt
 hs := by omega
 als := hc
 cs := hp
 least := fun j _ _ h => hl j h
 ars := hb.pos
 ratio := hb.ratio
 tie := hb.tie
theorem ix_next {P k var c : Nat} (hk : k < P) (_hc : c < var) : (P - (k + 1)) * (var + 1) + (var - 0) < (P - k) * (var + 1) + (var - c) := by
 obtain ⟨q, hq⟩ : ∃ q, P - k = q + 1 := ⟨P - k - 1, by omega⟩
 have h1 : P - (k + 1) = q := by omega
 rw [h1, hq, Nat.add_mul]
 omega
theorem rclimb_any (w0 w : World) (b m N var : Nat) (T : Tab) (g : Nat → Rat) (h : RT w0 w b m N (wc m T g)) (hvar : var ≤ N) (hm : m ≤ 100) (hN : N ≤ 900) (hI : Inv0 m N T) (hP : Pos m T) (hsz : ∀ k U, Climb m N id (· < var) g k T U → (∀ i j, i < m → j ≤ N → Sz (rowF N (wc m U g) i j) 40000) ∧ (∀ j, j ≤ N → Sz (costF N (wc m U g) j) 40000)) :
    Calls Tryz.prog 50 #[.pointer (some ⟨b, 0, none⟩), .int .i64 (var : Int)] w fun e w' => ∃ k U, Climb m N id (· < var) g k T U ∧ RT w0 w' b m N (wc m U g) ∧ ((e = .returned (.bool true) ∧ Lp.End m N (· < var) g U) ∨ (e = .returned (.bool false) ∧ ∃ s, Lp.Free m N id (· < var) g U s)) := by
  go_enter Tryz.func50, Tryz.ntmps50
  go_wp2_with fail
  refine wp_loop_ix (n := (2 ^ N - 0) * (var + 1) + (var - 0)) (fun ix a W => ∃ k U c, Climb m N id (· < var) g k T U ∧ RT w0 W b m N (wc m U g) ∧ c ≤ var ∧ (∀ j, j < c → (wc m U g).c j ≤ 0) ∧ ix = (2 ^ N - k) * (var + 1) + (var - c) ∧ ∃ x2 x3 x4 x6 x7 x8 x9 x10 x11 x12 x13 x14 x15 x16 x17 x18 x19 x20 x21 x22 x23 x24 x25 x26 x27 x28 x29 : Value, a = { tmps := #[.pointer (some ⟨b, 0, none⟩), .int .i64 (var : Int), x2, x3, x4, .int .i64 (c : Int), x6, x7, x8, x9, x10, x11, x12, x13, x14, x15, x16, x17, x18, x19, x20, x21, x22, x23, x24, x25, x26, x27, x28, x29], defers := [] })
    ⟨0, T, 0, .refl T, h, Nat.zero_le _, fun j hj => by omega, rfl, _, _, _, _, _, _, _, _, _, _, _, _, _, _, _, _, _, _, _, _, _, _, _, _, _, _, _, rfl⟩ ?_
  clear h; rintro ix a W ⟨k, U, c, hcl, hU, hcv, hle, hix, x2, x3, x4, x6, x7, x8, x9, x10, x11, x12, x13, x14, x15, x16, x17, x18, x19, x20, x21, x22, x23, x24, x25, x26, x27, x28, x29, rfl⟩; have hk := hcl.short hI hP (fun _ _ e => e); obtain ⟨hI2, hP2, _⟩ := hcl.all hI hP; obtain ⟨sR, sC⟩ := hsz k U hcl
  have hw1 : IntKind.i64.wrap ((c : Int) + 1) = (c : Int) + 1 := by rw [IntKind.wrap_i64]; omega
  have HB9 := Lib.hid (fun i (hi : i < m) => (show (wc m U g).bas i ≤ 100000 from by have h9 : U.bas i < N := hI2.bas i hi; show U.bas i ≤ 100000; omega))
  have HLE := Lib.hid hle; have HCL := Lib.hid hcl; clear hle hcl
  by_cases hlt : c < var
  · have hc0 : (0 : Int) ≤ (c : Int) := by omega
    have hcl : (c : Int) < (var : Int) := by omega
    have hcN : c < N + 1 := by omega
    have HCN := Lib.hid (show c < N by omega)
    obtain ⟨ar, cr, ab, cb, ac, cc, rv_, Tt, hS, hp⟩ := id hU
    obtain ⟨gc, rfl, _⟩ := (hS.lst hp.co).slr.get (show 0 < N + 1 by omega)
    have k0 := (hS.box hp.bx).at 2 rfl
    obtain ⟨⟨e0, e1, e2⟩, _⟩ := (hS.e3 hp.co hcN).to (cost_lt (show c < N by omega))
    dsimp only [q3] at e0 e1 e2
    have hcc : (c : Int) < ((N + 1 : Nat) : Int) := by omega
    have HSg := Lib.hid (fun W => rsign2_any ((wc m U g).c c) W ((((cost_lt (show c < N by omega) : costF N (wc m U g) c = _) ▸ sC c (by omega))).mono (by decide)))
    simp only [rv] at HSg
    generalize N + 1 = M at *; clear hS
    go_wp2_with fail
    clear k0 e0 e1 e2
    with_reducible refine (HSg.out _).mono ?_
    rintro e wX ⟨rfl, am⟩; have hU := hU.below am; clear am
    by_cases hpc : (wc m U g).c c ≤ 0
    · have hs := sgn_pos'.2 hpc
      have HP := Lib.hid hpc; clear hpc
      go_wp2_with fail
      exact ⟨_, by rw [hix]; omega, k, U, c + 1, HCL.out, hU, by omega, fun j hj => (by
        rcases (by omega : j < c ∨ j = c) with h | rfl
        · exact HLE.out j h
        · exact HP.out), rfl, _, _, _, _, _, _, _, _, _, _, _, _, _, _, _, _, _, _, _, _, _, _, _, _, _, _, _, rfl⟩
    · have hs : ¬ Rq.sgn ((wc m U g).c c) ≤ 0 := fun h => hpc (sgn_pos'.1 h)
      have HP := Lib.hid (Rat.not_le.1 hpc); clear hpc
      go_wp2_with fail
      with_reducible refine (rleaving_any w0 _ b m N (wc m U g) c hU HCN.out hm hN sR HB9.out).mono ?_
      rintro e wL hz; obtain ⟨z, rfl, am, hz⟩ := hz.ex; have hU := hU.below am; clear am
      rcases hz with ⟨rfl, hno⟩ | ⟨r, rfl, hbest⟩
      · have HF : Hid (Lp.Free m N id (· < var) g U c) := Lib.hid ⟨by omega, hlt, HP.out, fun j _ _ h => HLE.out j h, hno⟩
        clear hno
        go_wp2_with fail
        go_ret
        exact ⟨k, U, HCL.out, hU, .inr ⟨rfl, c, HF.out⟩⟩
      · have hst := best_step hbest hlt hvar HP.out HLE.out
        have hrm := hbest.lt; have hne : (wc m U g).a r c ≠ 0 := Rat.ne_of_gt hbest.pos
        have hr0 : ¬ (r : Int) < 0 := by omega
        have HST := Lib.hid hst; have HNE := Lib.hid hne; clear hst hbest hne
        go_wp2_with fail
        with_reducible refine (rpivot_any w0 _ b m N (wc m U g) r c hU hrm HCN.out HNE.out hm hN sR sC).mono ?_
        rintro e wP ⟨⟨v, rfl⟩, hU2⟩; rw [← Lp.wc_pivot (T := U) hrm HNE.out] at hU2
        go_wp2_with fail
        exact ⟨_, by rw [hix]; exact ix_next hk hlt, k + 1, Lp.pivot U r c, 0, HCL.out.step HST.out, hU2, Nat.zero_le _, fun j hj => (by omega), rfl, _, _, _, _, _, _, _, _, _, _, _, _, _, _, _, _, _, _, _, _, _, _, _, _, _, _, _, rfl⟩
  · have hcl : ¬ (c : Int) < (var : Int) := by omega
    go_wp2_with fail
    go_ret
    exact ⟨k, U, HCL.out, hU, .inl ⟨rfl, fun j _ hj => HLE.out j (by have hj : j < var := hj; omega)⟩⟩
end Go.Proofs.YtinmmkcjjlconaaGreat
namespace Go.Proofs.YtinmmkcjjlconaaGreat
open Go.RowKit W
open Pl (nb bv bv_nb nb_size_zero)
open Lp (S S_succ Cert Out Unb)
theorem rright2_rv (q : Rat) (w : World) (h : Sz q 134217728) : Calls Tryz.prog 52 #[rv q] w fun e w' => e = .returned (.bool true) ∧ Below w.heap.size w w' := by
 have := rright2_any (decide (q.num < 0)) (nb q.num.natAbs) (nb q.den) w h.1 h.2
 rwa [rawB_rat] at this
structure PosR (m : Nat) (F : Nat → Rat) (e : Ending) : Prop where
  ex : ∃ r : Bool, e = .returned (.bool r) ∧ (r = true ↔ ∀ i, i < m → 0 ≤ F i)
theorem sgn_lt0 (q : Rat) : Rq.sgn q < 0 ↔ q < 0 := by
 rw [← Rq.sgn_lt]; have := Rq.sgn_cases q
 omega
theorem numbers_any (a : Option Addr) (m c : Nat) (F : Nat → Rat) (w : World) (h : SlO w (.slice a m c) m F) (hm : m ≤ 100000) (sF : ∀ i, i < m → Sz (F i) 134217728) :
  Calls Tryz.prog 51 #[.slice a m c] w fun e w' => e = .returned (.bool true) ∧ Below w.heap.size w w' := by
 have HR := Lib.hid (fun j (hj : j < m) W => rright2_rv (F j) W (sF j hj)); have HF := Lib.hid (fun j (hj : j < m) => h.get hj)
 simp only [rv] at HR
 clear h sF
 go_enter Tryz.func51, Tryz.ntmps51
 have ag := (Below.refl w.heap.size w)
 go_upto_region 1 with fail
 have ag := Below.refl w.heap.size w
 go_wp2_with fail
 go_loopw [3] (fun s3 wr => ∃ i : Nat, i ≤ m ∧ s3 = .int .i64 (i : Int) ∧ Below w.heap.size w wr) (fun s3 _ => m - (intOf s3).toNat)
 case atStart => exact ⟨0, by omega, rfl, ag⟩
 case round =>
  clear ag; obtain ⟨i, hi, rfl, ag⟩ := hrel
  have hw1 : IntKind.i64.wrap ((i : Int) + 1) = (i : Int) + 1 := by rw [IntKind.wrap_i64]; omega
  by_cases hlt : i < m
  ·have hi0 : (0 : Int) ≤ (i : Int) := by omega
   have hi1 : (i : Int) < (m : Int) := by omega
   obtain ⟨g, o, rfl, hg⟩ := HF.out i hlt; obtain ⟨k0, k1, k2⟩ := hg _ ag; clear hg
   go_wp2_with fail
   clear k0 k1 k2
   with_reducible refine (HR.out i hlt _).mono ?_
   rintro e wX ⟨rfl, am⟩; replace ag := ag.tr am; clear am
   go_wp2_with fail
   go_roundw
   case rel => exact ⟨i + 1, by omega, by go_num, ag⟩
   case measure => simp [intOf]; omega
  ·obtain rfl : m = i := by omega
   have hi1 : ¬ (m : Int) < (m : Int) := by omega
   go_wp2_with fail
   go_ret
   exact ⟨rfl, ag⟩
theorem positive_any (a : Option Addr) (m c : Nat) (F : Nat → Rat) (w : World) (h : SlO w (.slice a m c) m F) (hm : m ≤ 100000) (sF : ∀ i, i < m → Sz (F i) 134217728) :
  Calls Tryz.prog 53 #[.slice a m c] w fun e w' => PosR m F e ∧ Below w.heap.size w w' := by
 have HR := Lib.hid (fun j (hj : j < m) W => rsign2_any (F j) W (sF j hj)); have HG := Lib.hid (fun j => sgn_lt0 (F j)); have HF := Lib.hid (fun j (hj : j < m) => h.get hj)
 simp only [rv] at HR
 clear h sF
 go_enter Tryz.func53, Tryz.ntmps53
 have ag := (Below.refl w.heap.size w)
 go_upto_region 1 with fail
 have ag := Below.refl w.heap.size w
 go_wp2_with fail
 go_loopw [3] (fun s3 wr => ∃ i : Nat, i ≤ m ∧ s3 = .int .i64 (i : Int) ∧ Below w.heap.size w wr ∧ Hid (∀ j, j < i → 0 ≤ F j)) (fun s3 _ => m - (intOf s3).toNat)
 case atStart => exact ⟨0, by omega, rfl, ag, Lib.hid (fun j hj => by omega)⟩
 case round =>
  clear ag; obtain ⟨i, hi, rfl, ag, HP⟩ := hrel
  have hw1 : IntKind.i64.wrap ((i : Int) + 1) = (i : Int) + 1 := by rw [IntKind.wrap_i64]; omega
  by_cases hlt : i < m
  ·have hi0 : (0 : Int) ≤ (i : Int) := by omega
   have hi1 : (i : Int) < (m : Int) := by omega
   obtain ⟨g, o, rfl, hg⟩ := HF.out i hlt; obtain ⟨k0, k1, k2⟩ := hg _ ag; clear hg
   go_wp2_with fail
   clear k0 k1 k2
   with_reducible refine (HR.out i hlt _).mono ?_
   rintro e wX ⟨rfl, am⟩; replace ag := ag.tr am; clear am
   by_cases hp : F i < 0
   ·have hs := (HG.out i).2 hp
    have HN := Lib.hid hp; clear hp
    go_wp2_with fail
    go_ret
    exact ⟨⟨false, rfl, ⟨fun h => (by cases h), fun h => absurd (h i hlt) (Rat.not_le.2 HN.out)⟩⟩, ag⟩
   ·have hs : ¬ Rq.sgn (F i) < 0 := fun h => hp ((HG.out i).1 h)
    have HN := Lib.hid (Rat.not_lt.1 hp); clear hp
    go_wp2_with fail
    go_roundw
    case rel => exact ⟨i + 1, by omega, by go_num, ag, Lib.hid (fun j hj => (by
     rcases (by omega : j < i ∨ j = i) with h | rfl
     ·exact HP.out j h
     ·exact HN.out))⟩
    case measure => simp [intOf]; omega
  ·obtain rfl : m = i := by omega
   have hi1 : ¬ (m : Int) < (m : Int) := by omega
   go_wp2_with fail
   go_ret
   exact ⟨⟨true, rfl, ⟨fun _ => HP.out, fun _ => rfl⟩⟩, ag⟩
end Go.Proofs.YtinmmkcjjlconaaGreat
namespace Go.Proofs.YtinmmkcjjlconaaGreat
open Go.RowKit W
open Pl (nb bv bv_nb nb_size_zero)
open Lp (S S_succ Cert Out Unb)
theorem rprog_any (m n : Nat) (A : Nat → Nat → Rat) (B C : Nat → Rat) (a0 a1 a2 : Option Addr) (c0 c1 c2 : Nat) (w : World) (h : PR w (.agg #[.slice a0 m c0, .slice a1 m c1, .slice a2 n c2]) m n A B C) (hm : m ≤ 100) (hn : n ≤ 5000) (hs : SzP m n A B C 134217728) :
  Calls Tryz.prog 45 #[.agg #[.slice a0 m c0, .slice a1 m c1, .slice a2 n c2]] w fun e w' => e = .returned (.bool true) ∧ Below w.heap.size w w' := by
 obtain ⟨hA, hB, hC⟩ := h.parts
 have HB := Lib.hid (fun W (hb : Below w.heap.size w W) => numbers_any a1 m c1 B W (hB.below hb) (by omega) (fun i hi => hs.b i hi))
 have HC := Lib.hid (fun W (hb : Below w.heap.size w W) => numbers_any a2 n c2 C W (hC.below hb) (by omega) (fun j hj => hs.c j hj))
 have HA := Lib.hid (fun i (hi : i < m) => hA.row hi)
 have HN := Lib.hid (fun i (hi : i < m) a c W hr => numbers_any a n c (A i) W hr (by omega) (fun j hj => hs.a i j hi hj))
 have hm1 : ¬ (100 : Int) < (m : Int) := by omega
 have hn1 : ¬ (5000 : Int) < (n : Int) := by omega
 clear h hA hB hC hs
 go_enter Tryz.func45, Tryz.ntmps45
 have ⟨bP, ag⟩ := opn1 w [.slice a0 m c0, .slice a1 m c1, .slice a2 n c2] 29
 go_upto_region 1 with fail
 generalize w.alloc (.cells #[.slice a0 m c0, .slice a1 m c1, .slice a2 n c2] 29) = W0 at *; obtain ⟨gP, hgP⟩ : ∃ g, g = w.heap.size := ⟨_, rfl⟩; rw [← hgP] at bP
 simp only [← hgP]
 have kgP : w.heap.size ≤ gP := by omega
 clear hgP; have ⟨cP0, fP0, cP1, fP1, cP2, fP2⟩ := bP.all3
 go_wp2_with fail
 clear cP0 fP0 cP1 fP1 cP2 fP2
 with_reducible refine (HB.out _ ag).mono ?_
 rintro e wX ⟨rfl, am⟩; replace ag := ag.tr am; replace bP := bP.below am; clear am; have ⟨cP0, fP0, cP1, fP1, cP2, fP2⟩ := bP.all3
 go_wp2_with fail
 clear cP0 fP0 cP1 fP1 cP2 fP2
 with_reducible refine (HC.out _ ag).mono ?_
 rintro e wX ⟨rfl, am⟩; replace ag := ag.tr am; replace bP := bP.below am; clear am; have ⟨cP0, fP0, cP1, fP1, cP2, fP2⟩ := bP.all3
 go_wp2_with fail
 clear cP0 fP0 cP1 fP1 cP2 fP2
 go_loopw [5] (fun s5 wr => ∃ i : Nat, i ≤ m ∧ s5 = .int .i64 (i : Int) ∧ Rx wr gP [.slice a0 m c0, .slice a1 m c1, .slice a2 n c2] ∧ Below w.heap.size w wr) (fun s5 _ => m - (intOf s5).toNat)
 case atStart => exact ⟨0, by omega, rfl, bP, ag⟩
 case round =>
  clear bP ag; obtain ⟨i, hi, rfl, bP, ag⟩ := hrel; have p0 := bP.at 0 rfl
  have hw1 : IntKind.i64.wrap ((i : Int) + 1) = (i : Int) + 1 := by rw [IntKind.wrap_i64]; omega
  by_cases hlt : i < m
  ·have hi0 : (0 : Int) ≤ (i : Int) := by omega
   have hi1 : (i : Int) < (m : Int) := by omega
   obtain ⟨g1, e1, f1, rfl, hr1⟩ := HA.out i hlt; obtain ⟨k1, hsl⟩ := hr1 _ ag; have HR1 := Lib.hid hr1; clear hr1
   go_wp2_with fail
   clear p0 k1
   with_reducible refine (HN.out i hlt _ _ _ hsl).mono ?_
   rintro e wX ⟨rfl, am⟩; clear hsl; replace ag := ag.tr am; replace bP := bP.below am; clear am
   go_upto_region 9 with fail
   replace bP := bP.drew; replace ag := ag.drew
   refine wp_schH (S := fun w' => w'.cell? ⟨gP, 0, none⟩ = some (.slice (some ⟨g1, 0, none⟩) m c0) ∧ w'.cell? ⟨gP, 2, none⟩ = some (.slice a2 n c2) ∧ w'.cell? ⟨g1, i, none⟩ = some (.slice e1 n f1)) (hc := by as_aux_lemma => kernel_rfl) (.p 0 (.p 1 (.p 2 (.p 3 (.p 4 (.p 5 (.p 6 (.p 7 (.p 8 (.p 9 (.p 10 (.p 11 (.p 12 (.p 13 .e)))))))))))))) [1, 5, 6] fun zA WD hA aq => ?_
   simp only [← aq.out] at bP ag
   clear aq
   refine ⟨⟨bP.at 0 rfl, bP.at 2 rfl, (HR1.out _ ag).1⟩, fun hS0 => ?_⟩
   repeat' first
    | ((with_reducible refine isP ?_); refine tkO ?_)
   refine enP hA ?_
   clear hA
   go_wp2_with fail
   go_roundw
   case rel => exact ⟨i + 1, by omega, by go_num, bP, ag⟩
   case measure => simp [intOf]; omega
  ·obtain rfl : m = i := by omega
   have hi1 : ¬ (m : Int) < (m : Int) := by omega
   go_wp2_with fail
   go_ret
   exact ⟨rfl, ag⟩
end Go.Proofs.YtinmmkcjjlconaaGreat
namespace Go.Proofs.YtinmmkcjjlconaaGreat
open Go.RowKit W
open Pl (nb bv bv_nb nb_size_zero)
open Lp (S S_succ Cert Out Unb)
theorem app_slr {w : World} {ops : Array Oper} {rest : List Oper} {o : Oper} {a : Act} {Q : Exit → Act → World → Prop} {s x : Operand} {v v2 : Value} {l : List Raw} {m : Nat} {F : Nat → Rat}
  (hgd : o.guard = none)
  (ho : o.op = .call { callee := .builtin .append, args := #[s, x], argTypes := #[27, 27] })
  (hs : a.eval s = v) (hx : a.eval x = v2) (B : Nat) (hown : Rats w B v l) (h2 : SlR w v2 m F)
  (hlen : l.length + m < 1000000000) (hB : B ≤ w.heap.size)
  (h : ∀ v' w', Rats w' B v' (l ++ raws m F) → w.grownBy w' v.ownBlock → (v'.ownBlock = v.ownBlock ∨ v'.ownBlock = some w.heap.size) → wpList Tryz.prog ops Q rest (a.put o.dst v') w') : wpList Tryz.prog ops Q (o :: rest) a w := by
 refine wpList_plain hgd fun K hK => ?_
 obtain ⟨v', w', hr, e1, e2, e3⟩ := run_app_slr o.type hown h2 hlen hB; unfold Oper.wp execOp
 simp only [ho, resolve, invoke, builtin, Sem.run_bind, Sem.run_pure, Result.andThen_ok, List.map_toArray, List.map_cons, List.map_nil, hs, hx, hr]
 exact hK _ _ (h v' w' e1 e2 e3)
theorem Sep.rebase {wb wc W : World} {T : Nat → Thing} (hb : Below wb.heap.size wb wc) (h : Sep wc W T) : Sep wb W T where
 acc := hb.trans (h.acc.mono hb.size)
 p := h.p
 o := fun i b hi => by have := h.o i b hi; have := hb.size; omega
 d := h.d
theorem Sep.appI {wb W W' : World} {T : Nat → Thing} {x : Nat} {v v' : Value} {l l' : List Value} (h : Sep wb W T) (e : T x = intT v l) (hg : W.grownBy W' v.ownBlock) (hv : Vals 3 W' 0 v' l') (ho : v'.ownBlock = v.ownBlock ∨ v'.ownBlock = some W.heap.size) : Sep wb W' (upd T x (intT v' l')) := by
 refine h.step x _ ?_ hv (fun b hb => ?_)
 ·rw [e]; exact off_grown hg
 ·rw [e]
  rcases ho with eo | eo
  ·exact .inl (by show v.ownBlock = some b; rw [← eo]; exact hb)
  ·have hb : v'.ownBlock = some b := hb
   have := hv.low b hb; rw [eo] at hb
   obtain rfl : W.heap.size = b := by simpa using hb
   exact .inr ⟨Nat.le_refl _, this⟩
section
variable {m n : Nat} {A : Nat → Nat → Rat} {B : Nat → Rat} {i j k : Nat}
abbrev row0 (m n : Nat) (A : Nat → Nat → Rat) (B : Nat → Rat) (i : Nat) : Nat → Rat := rowF (n + m + 1) (Lp.tab0 m n A B) i
theorem row0_lt (h : j < n) : row0 m n A B i j = A i j := by
 unfold row0
 rw [row_lt (by omega)]
 exact if_pos h
theorem row0_slack (hk : k < m) : row0 m n A B i (n + k) = if i = k then 1 else 0 := by
 unfold row0
 rw [row_lt (by omega)]
 exact Lp.mat_slack i k hk
theorem row0_help : row0 m n A B i (n + m) = -1 := by
 unfold row0
 rw [row_lt (by omega)]
 show Lp.mat m n A i (n + m) = -1
 unfold Lp.mat
 rw [if_neg (by omega), if_pos rfl]
theorem row0_end : row0 m n A B i (n + m + 1) = B i := row_end
theorem cost0 : costF (n + m + 1) (Lp.tab0 m n A B) j = 0 := by
 unfold costF
 split
 ·rfl
 ·exact Rat.neg_zero
end
theorem newTable_any (m n : Nat) (A : Nat → Nat → Rat) (B C : Nat → Rat) (a0 a1 a2 : Option Addr) (c0 c1 c2 : Nat) (w : World) (h : PR w (.agg #[.slice a0 m c0, .slice a1 m c1, .slice a2 n c2]) m n A B C) (hm : m ≤ 100) (hn : n ≤ 400) :
  Calls Tryz.prog 46 #[.agg #[.slice a0 m c0, .slice a1 m c1, .slice a2 n c2]] w fun e w' => ∃ b, e = .returned (.pointer (some ⟨b, 0, none⟩)) ∧ RT w w' b m (n + m + 1) (Lp.tab0 m n A B) := by
 obtain ⟨hPA, hPB, _⟩ := h.parts
 have HO1 := Lib.hid (fun W => rof2_any 1 W (by decide) (by decide))
 have HOm := Lib.hid (fun W => rof2_any (-1) W (by decide) (by decide))
 have HZ := Lib.hid (fun W => rzero_any W); obtain ⟨z0, hz0⟩ : ∃ z : Rat, z = 0 := ⟨_, rfl⟩; obtain ⟨z1, hz1⟩ : ∃ z : Rat, z = 1 := ⟨_, rfl⟩; obtain ⟨zm, hzm⟩ : ∃ z : Rat, z = -1 := ⟨_, rfl⟩; rw [show ((1 : Int) : Rat) = z1 from hz1.symm ▸ rfl] at HO1; rw [show ((-1 : Int) : Rat) = zm from hzm.symm ▸ rfl] at HOm; rw [← hz0] at HZ; have H0 := Lib.hid hz0; have H1 := Lib.hid hz1; have Hm := Lib.hid hzm
 simp only [rv] at HO1 HOm HZ
 clear h hz0 hz1 hzm
 go_enter Tryz.func46, Tryz.ntmps46
 have ⟨bP, ag⟩ := opn1 w [.slice a0 m c0, .slice a1 m c1, .slice a2 n c2] 29
 go_upto_region 1 with fail
 generalize w.alloc (.cells #[.slice a0 m c0, .slice a1 m c1, .slice a2 n c2] 29) = W0 at *; obtain ⟨gP, hgP⟩ : ∃ g, g = w.heap.size := ⟨_, rfl⟩; rw [← hgP] at bP
 simp only [← hgP]
 have kgP : w.heap.size ≤ gP := by omega
 clear hgP
 go_upto_region 1 with fail
 have HbP := Lib.hid (fun W (hb : Below W0.heap.size W0 W) => bP.below hb); have HB0 := Lib.hid ag; have HA := Lib.hid (fun i (hi : i < m) => (hPA.row hi)); have HBb := Lib.hid (fun i (hi : i < m) => (hPB.get hi)); have HA2 := Lib.hid (fun W (hb : Below W0.heap.size W0 W) => ag.tr hb); clear hPA hPB bP ag kgP; obtain ⟨wB, hwB⟩ : ∃ wB, wB = W0 := ⟨_, rfl⟩
 simp only [← hwB] at *
 clear hwB; have hS := (Sep.start (Below.refl wB.heap.size wB)).newbox (x := 0) rfl [.slice none 0 0, .slice none 0 0, .slice none 0 0] 83
 go_upto_region 2 with fail
 generalize wB.heap.size = b at hS ⊢; generalize wB.alloc (.cells #[.slice none 0 0, .slice none 0 0, .slice none 0 0] 83) = W1 at *; have hx := HbP.out _ hS.acc; have k0 := hx.at 0 rfl; have k2 := hx.at 2 rfl; clear hx
 go_wp2_with fail
 clear k0 k2
 go_loopw [6] (fun s6 wr => ∃ i : Nat, i ≤ m ∧ s6 = .int .i64 (i : Int) ∧ ∃ vA vB T rv_, Sep wB wr T ∧ T 0 = boxT b [vA, vB, .slice none 0 0] ∧ T 1 = valsT vA ((List.range i).map rv_) ∧ T 2 = intT vB ((List.range i).map fun q : Nat => .int .i64 ((n : Int) + (q : Int))) ∧ (∀ q, q < i → T (4 + q) = listT (rv_ q) (raws (n + m + 2) (row0 m n A B q))) ∧ ∀ x, x = 3 ∨ 4 + i ≤ x → T x = nothing) (fun s6 _ => m - (intOf s6).toNat)
 case atStart => exact ⟨0, by omega, rfl, .slice none 0 0, .slice none 0 0, _, fun _ => undef, (hS.same 1 (valsT (.slice none 0 0) []) (Vals.nil _ _ _) (fun _ e => (own_none e).elim)).same 2 (intT (.slice none 0 0) []) (Vals.nil _ _ _) (fun _ e => (own_none e).elim), rfl, rfl, rfl, fun q hq => by omega, fun x hx => by
  rw [upd_ne (by omega), upd_ne (by omega), upd_ne (by omega)]⟩
 case round =>
  clear hS; obtain ⟨i, hi, rfl, vA, vB, T, rv_, hS, t0, t1, t2, tr, tn⟩ := hrel
  have hw1 : IntKind.i64.wrap ((i : Int) + 1) = (i : Int) + 1 := by rw [IntKind.wrap_i64]; omega
  by_cases hlt : i < m
  ·have hi0 : (0 : Int) ≤ (i : Int) := by omega
   have hi1 : (i : Int) < (m : Int) := by omega
   obtain ⟨bA, aR, cR, rfl, hAR⟩ := HA.out i hlt; have HAR := Lib.hid (fun W hb => hAR W (HA2.out W hb)); clear hAR
   have hlit : Rats (wr.alloc (.cells #[] 33)) 0 (.slice (some ⟨wr.heap.size, 0, none⟩) 0 0) [] := Rats.lit wr (Nat.zero_le _) [] (by simp)
   have hb1 := (Below.refl wr.heap.size wr).alloc (Nat.le_refl _) (.cells #[] 33); have hS1 := hS.newlit (tn (4 + i) (.inr (Nat.le_refl _))) hlit (Nat.le_refl _) hb1; have k0 := (HbP.out _ hS1.acc).at 0 rfl; obtain ⟨k1, hsl1⟩ := HAR.out _ hS1.acc
   have hln : ([] : List Raw).length + n < 1000000000 := by simp; omega
   clear hlit hb1
   go_wp2_with (at_builtin; refine app_slr (by rfl) (by rfl) (by rfl) (by rfl) 0 (hS1.lst (upd_same _ _ _)) hsl1 hln (Nat.zero_le _) ?_; intro v2 w2_ e1 e2 e3)
   have hSb := hS1.app (upd_same _ _ _) e2 e1 e3; rw [upd_upd, List.nil_append, show raws n (A i) = raws n (row0 m n A B i) from raws_congr fun j hj => (row0_lt hj).symm] at hSb; clear hS hS1 hsl1 hln e1 e2 e3 k0 k1
   go_loopw [7, 8] (fun s7 s8 wr => ∃ k : Nat, k ≤ m ∧ s8 = .int .i64 (k : Int) ∧ Sep wB wr (upd T (4 + i) (listT s7 (raws (n + k) (row0 m n A B i))))) (fun _ s8 _ => m - (intOf s8).toNat)
   case atStart => exact ⟨0, by omega, rfl, hSb⟩
   case round =>
    clear hSb; obtain ⟨k, hk, rfl, hS⟩ := hrel
    have hw2 : IntKind.i64.wrap ((k : Int) + 1) = (k : Int) + 1 := by rw [IntKind.wrap_i64]; omega
    by_cases hkt : k < m
    ·have hk0 : (0 : Int) ≤ (k : Int) := by omega
     have hk1 : (k : Int) < (m : Int) := by omega
     have ag := Below.refl wr.heap.size wr
     by_cases hki : i = k
     ·have he : (k : Int) = (i : Int) := by omega
      have HX : Hid (raws (n + (k + 1)) (row0 m n A B i) = raws (n + k) (row0 m n A B i) ++ [⟨decide (z1.num < 0), nb z1.num.natAbs, nb z1.den⟩]) := Lib.hid (by
       have h := raws_succ (n + k) (row0 m n A B i); rw [row0_slack hkt, if_pos hki, ← H1.out] at h
       exact h)
      clear hki; have HIE := Lib.hid he
      have hse : ((k : Int) == (i : Int)) = true := by rw [he]; simp
      clear he
      go_wp2_with fail
      with_reducible refine (HO1.out _).mono ?_
      rintro e wX ⟨rfl, am⟩; replace ag := ag.tr am; replace hS := hS.below am; clear am
      have hL := Rats.lit (B := 0) wX (Nat.zero_le _) [⟨decide (z1.num < 0), nb z1.num.natAbs, nb z1.den⟩] (by simp)
      have hSa := hS.alloc (.cells #[.bool (decide (z1.num < 0)), .string (nb z1.num.natAbs), .string (nb z1.den)] 33)
      have hln : (raws (n + k) (row0 m n A B i)).length + [(⟨decide (z1.num < 0), nb z1.num.natAbs, nb z1.den⟩ : Raw)].length < 1000000000 := by rw [raws_len]; simp; omega
      go_wp2_with (at_builtin; refine app_rats (by rfl) (by rfl) (by rfl) (by rfl) 0 (hSa.lst (upd_same _ _ _)) hL hln (Nat.zero_le _) ?_; intro v2 w2_ e1 e2 e3)
      have hSb := hSa.app (upd_same _ _ _) e2 e1 e3; rw [upd_upd, ← HX.out] at hSb; clear hS hSa hL hln e1 e2 e3; clear ag
      go_wp2_with fail
      go_roundw
      case rel => exact ⟨k + 1, by omega, by go_num, hSb⟩
      case measure => simp [intOf]; omega
     ·have he : ¬ (k : Int) = (i : Int) := by omega
      have HX : Hid (raws (n + (k + 1)) (row0 m n A B i) = raws (n + k) (row0 m n A B i) ++ [⟨decide (z0.num < 0), nb z0.num.natAbs, nb z0.den⟩]) := Lib.hid (by
       have h := raws_succ (n + k) (row0 m n A B i); rw [row0_slack hkt, if_neg hki, ← H0.out] at h
       exact h)
      clear hki
      go_wp2_with fail
      with_reducible refine (HZ.out _).mono ?_
      rintro e wX ⟨rfl, am⟩; replace ag := ag.tr am; replace hS := hS.below am; clear am
      have hL := Rats.lit (B := 0) wX (Nat.zero_le _) [⟨decide (z0.num < 0), nb z0.num.natAbs, nb z0.den⟩] (by simp)
      have hSa := hS.alloc (.cells #[.bool (decide (z0.num < 0)), .string (nb z0.num.natAbs), .string (nb z0.den)] 33)
      have hln : (raws (n + k) (row0 m n A B i)).length + [(⟨decide (z0.num < 0), nb z0.num.natAbs, nb z0.den⟩ : Raw)].length < 1000000000 := by rw [raws_len]; simp; omega
      go_wp2_with (at_builtin; refine app_rats (by rfl) (by rfl) (by rfl) (by rfl) 0 (hSa.lst (upd_same _ _ _)) hL hln (Nat.zero_le _) ?_; intro v2 w2_ e1 e2 e3)
      have hSb := hSa.app (upd_same _ _ _) e2 e1 e3; rw [upd_upd, ← HX.out] at hSb; clear hS hSa hL hln e1 e2 e3; clear ag
      go_wp2_with fail
      go_roundw
      case rel => exact ⟨k + 1, by omega, by go_num, hSb⟩
      case measure => simp [intOf]; omega
    ·obtain rfl : m = k := by omega
     have hk1 : ¬ (m : Int) < (m : Int) := by omega
     obtain ⟨bB, rfl, hBi⟩ := HBb.out i hlt; have HBi := Lib.hid (fun W hb => hBi W (HA2.out W hb))
     have HX : Hid (raws (n + m + 2) (row0 m n A B i) = raws (n + m) (row0 m n A B i) ++ [⟨decide (zm.num < 0), nb zm.num.natAbs, nb zm.den⟩, ⟨decide ((B i).num < 0), nb (B i).num.natAbs, nb (B i).den⟩]) := Lib.hid (by
      have h := raws_succ (n + m + 1) (row0 m n A B i); rw [raws_succ (n + m), List.append_assoc, row0_help, row0_end, ← Hm.out] at h
      exact h)
     clear hBi; generalize B i = u' at *
     go_upto_region 14 with fail
     go_cut [61] from 46 to 63 (fun _ wx => ∃ U a c e d, Sep wB wx U ∧ (∀ x, x ≠ 4 + i → x ≠ 1 → x ≠ 0 → U x = T x) ∧ U (4 + i) = listT (.slice e (n + m + 2) d) (raws (n + m + 2) (row0 m n A B i)) ∧ U 1 = valsT (.slice a (i + 1) c) ((List.range i).map rv_ ++ [.slice e (n + m + 2) d]) ∧ U 0 = boxT b [.slice a (i + 1) c, vB, .slice none 0 0])
     case first =>
      replace hS := hS.drew
      refine wp_schH (S := fun w' => w'.cell? ⟨gP, 1, none⟩ = some (.slice (some ⟨bB, 0, none⟩) m c1) ∧ w'.cell? ⟨bB, i * 3, none⟩ = some (.bool (decide (u'.num < 0))) ∧ w'.cell? ⟨bB, i * 3 + 1, none⟩ = some (.string (nb u'.num.natAbs)) ∧ w'.cell? ⟨bB, i * 3 + 1 + 1, none⟩ = some (.string (nb u'.den))) (hc := by as_aux_lemma => kernel_rfl) (.p 0 (.p 1 (.p 2 (.p 3 (.p 5 (.p 7 (.p 8 (.p 9 (.p 10 (.p 11 (.b (.c 4 (.c 6 (.c 12 (.c 13 (.c 14 (.c 15 (.p 16 (.p 17 (.c 18 .e))))))))) (.c 6 (.b (.c 4 (.c 12 (.c 13 (.c 14 (.c 15 (.p 16 (.p 17 (.c 18 .e)))))))) (.c 12 (.b (.c 4 (.c 13 (.c 14 (.c 15 (.p 16 (.p 17 (.c 18 .e))))))) (.c 13 (.b (.c 4 (.c 14 (.c 15 (.p 16 (.p 17 (.c 18 .e)))))) (.c 14 (.c 4 (.c 15 (.p 16 (.p 17 (.c 18 .e))))))))))))))))))))))) [3, 7, 1, 6] fun zA WD hA aq => ?_
      simp only [← aq.out] at hS
      clear aq
      refine ⟨⟨(HbP.out _ hS.acc).at 1 rfl, (HBi.out _ hS.acc).1, (HBi.out _ hS.acc).2.1, (HBi.out _ hS.acc).2.2⟩, fun hS0 => ?_⟩
      repeat' first
       | ((with_reducible refine isP ?_); refine tkO ?_)
       | (with_reducible refine brO ?_ ?_)
       | (
        with_reducible refine isC (i := 4) ?_
        refine ldC (i := 4) ((hS.box (upd_o (by omega) t0)).at 0 rfl) ⟨(HbP.out _ hS.acc).at 1 rfl, (HBi.out _ hS.acc).1, (HBi.out _ hS.acc).2.1, (HBi.out _ hS.acc).2.2⟩ ?_)
       | (
        with_reducible refine isC (i := 6) ?_
        refine caO (i := 6) (HOm.out _) fun e wn hz => ?_
        obtain ⟨rfl, hb⟩ := hz; replace hS := hS.below hb; clear hb
        refine ⟨_, rfl, ⟨(HbP.out _ hS.acc).at 1 rfl, (HBi.out _ hS.acc).1, (HBi.out _ hS.acc).2.1, (HBi.out _ hS.acc).2.2⟩, ?_⟩)
       | (
        with_reducible refine isC (i := 12) ?_
        refine liO (i := 12) (k := 2) (l := [⟨decide (zm.num < 0), nb zm.num.natAbs, nb zm.den⟩, ⟨decide (u'.num < 0), nb u'.num.natAbs, nb u'.den⟩]) (by simp) rfl rfl fun _ _ hr hg hb => ?_
        replace hS := hS.below hb; have hlit := hr; clear hr hg hb
        refine ⟨⟨(HbP.out _ hS.acc).at 1 rfl, (HBi.out _ hS.acc).1, (HBi.out _ hS.acc).2.1, (HBi.out _ hS.acc).2.2⟩, ?_⟩)
       | (
        with_reducible refine isC (i := 13) ?_
        refine apS (i := 13) (x := 4 + i) (k := n + m + 2) hS (upd_same _ _ _) hlit (by rw [raws_len]; rfl) (by omega) fun aX cX wa hz _ => ?_
        replace hS := hz; clear hz hlit; rw [upd_upd, ← HX.out] at hS
        refine ⟨⟨(HbP.out _ hS.acc).at 1 rfl, (HBi.out _ hS.acc).1, (HBi.out _ hS.acc).2.1, (HBi.out _ hS.acc).2.2⟩, ?_⟩)
       | (
        with_reducible refine isC (i := 14) ?_
        refine liV (i := 14) (k := 1) (l := [.slice aX (n + m + 2) cX]) (by simp) rfl fun _ _ hr hg hb => ?_
        replace hS := hS.below hb; have hlitV := hr; clear hr hg hb
        refine ⟨⟨(HbP.out _ hS.acc).at 1 rfl, (HBi.out _ hS.acc).1, (HBi.out _ hS.acc).2.1, (HBi.out _ hS.acc).2.2⟩, ?_⟩)
       | (
        with_reducible refine isC (i := 15) ?_
        refine apV (i := 15) (x := 1) (k := i + 1) hS (upd_o (by omega) t1) hlitV (fun u hu => by simp only [List.mem_singleton] at hu; subst hu; rfl) (by simp) (by omega) fun aV cV wa hz _ => ?_
        replace hS := hz; clear hz hlitV
        refine ⟨⟨(HbP.out _ hS.acc).at 1 rfl, (HBi.out _ hS.acc).1, (HBi.out _ hS.acc).2.1, (HBi.out _ hS.acc).2.2⟩, ?_⟩)
       | (
        with_reducible refine isC (i := 18) ?_
        refine stB (i := 18) (x := 0) (j := 0) hS (upd_o (by omega) (upd_o (by omega) t0)) rfl fun ws hz => ?_
        replace hS := hz; clear hz
        refine ⟨⟨(HbP.out _ hS.acc).at 1 rfl, (HBi.out _ hS.acc).1, (HBi.out _ hS.acc).2.1, (HBi.out _ hS.acc).2.2⟩, ?_⟩)
      all_goals (
       refine enP hA ?_
       clear hA
       simp only [List.set] at hS
       obtain ⟨U, hS, hk, h1, h2, h3⟩ := hS.gen3 (by omega) (by omega) (by decide)
       go_wp2_with fail
       go_meet
       exact ⟨U, _, _, _, _, hS, hk, h1, h2, h3⟩)
     case rest =>
      clear hS HX; obtain ⟨U, aA, cA, aE, cE, hS, hk, u4, hu1, hu0⟩ := hcut
      have hu2 := (hk 2 (by omega) (by decide) (by decide)).trans t2
      have hw3 : IntKind.i64.wrap ((n : Int) + (i : Int)) = (n : Int) + (i : Int) := by rw [IntKind.wrap_i64]; omega
      have hL := Vals.lit (B := 0) wc (Nat.zero_le _) 3 [.int .i64 ((n : Int) + (i : Int))] (by simp)
      have hSa := hS.alloc (.cells #[.int .i64 ((n : Int) + (i : Int))] 3)
      have hone : ∀ u ∈ [Value.int .i64 ((n : Int) + (i : Int))], u.oneCell' = true := fun u hu => by simp only [List.mem_singleton] at hu; subst hu; rfl
      have hlen : ((List.range i).map fun q : Nat => Value.int .i64 ((n : Int) + (q : Int))).length + [Value.int .i64 ((n : Int) + (i : Int))].length < 1000000000 := by simp only [List.length_map, List.length_range, List.length_cons, List.length_nil]; omega
      have k1 := (hS.box hu0).at 1 rfl
      go_wp2_with (at_builtin; refine app_vals Tryz.underlying81 info_int rfl (by decide) (by rfl) (by rfl) (by rfl) (by rfl) 0 (hSa.ints hu2) hL hone hlen (Nat.zero_le _) ?_; intro vB2 w2_ e1 e2 e3; clear k1; obtain ⟨aY, cY, rfl⟩ : ∃ a c, vB2 = .slice a (i + 1) c := (by obtain ⟨a, c, e, _⟩ := e1.form; simp only [List.length_append, List.length_map, List.length_range, List.length_cons, List.length_nil, Nat.zero_add] at e; exact ⟨a, c, e⟩); have hSb := hSa.appI hu2 e2 e1 e3; have k1 := (hSb.box (upd_o (by decide) hu0)).at 1 rfl; have f1 := (hSb.box (upd_o (by decide) hu0)).fr 1 rfl)
      have hSc := hSb.setbox (upd_o (by decide) hu0) (.slice aY (i + 1) cY) (j := 1) (by simp)
      simp only [List.set] at hSc
      obtain ⟨V, hSd, hk2, v2, v0⟩ := hSc.gen2 (by decide)
      clear hS hSa hSb hSc hL hone hlen e1 e2 e3 k1 f1
      go_roundw
      case rel =>
       refine ⟨i + 1, by omega, by go_num, _, _, V, upd rv_ i (.slice aE (n + m + 2) cE), hSd, v0, ?_, ?_, fun q hq => ?_, fun x hx => ?_⟩
       ·rw [(hk2 1 (by decide) (by decide)).trans hu1, List.range_succ, List.map_append, List.map_singleton, upd_same]
        congr 2
        exact List.map_congr_left fun q hq => by rw [upd_ne (Nat.ne_of_lt (List.mem_range.1 hq))]
       ·rw [v2, List.range_succ, List.map_append, List.map_singleton]
       ·by_cases e : q = i
        ·subst e
         rw [upd_same]
         exact (hk2 _ (by omega) (by omega)).trans u4
        ·rw [upd_ne e]
         exact (hk2 _ (by omega) (by omega)).trans ((hk _ (by omega) (by omega) (by omega)).trans (tr q (by omega)))
       ·exact (hk2 x (by omega) (by omega)).trans ((hk x (by omega) (by omega) (by omega)).trans (tn x (by omega)))
      case measure => simp [intOf]; omega
  ·obtain rfl : m = i := by omega
   have hi1 : ¬ (m : Int) < (m : Int) := by omega
   have t3 := tn 3 (.inl rfl); have hS3 := hS.same 3 (listT (.slice none 0 0) []) (Rats.nil _ _) (fun _ e => (own_none e).elim); obtain ⟨V, hS, hk, v3⟩ := hS3.gen1
   have v0 := (hk 0 (by decide)).trans t0
   have v1 := (hk 1 (by decide)).trans t1
   have v2 := (hk 2 (by decide)).trans t2
   have vr := fun q (hq : q < m) => (hk (4 + q) (by omega)).trans (tr q hq)
   clear hS3 t0 t1 t2 tr tn hk t3
   have hwn : IntKind.i64.wrap ((n : Int) + (m : Int)) = (n : Int) + (m : Int) := by rw [IntKind.wrap_i64]; omega
   have hwn2 : IntKind.i64.wrap ((n : Int) + (m : Int) + 2) = (n : Int) + (m : Int) + 2 := by rw [IntKind.wrap_i64]; omega
   go_wp2_with fail
   go_loopw [9] (fun s9 wr => ∃ k : Nat, k ≤ n + m + 2 ∧ s9 = .int .i64 (k : Int) ∧ ∃ U vC, Sep wB wr U ∧ (∀ x, x ≠ 0 → x ≠ 3 → U x = V x) ∧ U 0 = boxT b [vA, vB, vC] ∧ U 3 = listT vC (raws k (fun _ => z0))) (fun s9 _ => n + m + 2 - (intOf s9).toNat)
   case atStart => exact ⟨0, by omega, rfl, V, _, hS, fun _ _ _ => rfl, v0, v3⟩
   case round =>
    clear hS v0 v3; obtain ⟨k, hk, rfl, U, vC, hS, hku, hu0, hu3⟩ := hrel
    have hw2 : IntKind.i64.wrap ((k : Int) + 1) = (k : Int) + 1 := by rw [IntKind.wrap_i64]; omega
    by_cases hkt : k < n + m + 2
    ·have hk0 : (0 : Int) ≤ (k : Int) := by omega
     have hk1 : (k : Int) < (n : Int) + (m : Int) + 2 := by omega
     have HX := Lib.hid (raws_succ k (fun _ => z0))
     go_upto_region 19 with fail
     replace hS := hS.drew
     refine wp_schH (S := fun _ => True) (hc := by as_aux_lemma => kernel_rfl) (.p 0 (.p 1 (.p 2 (.p 3 (.b (.c 4 (.c 5 (.c 6 (.c 7 (.p 8 (.p 9 (.c 10 .e))))))) (.c 5 (.b (.c 4 (.c 6 (.c 7 (.p 8 (.p 9 (.c 10 .e)))))) (.c 6 (.c 4 (.c 7 (.p 8 (.p 9 (.c 10 .e))))))))))))) [3] fun zA WD hA aq => ?_
     simp only [← aq.out] at hS
     clear aq
     refine ⟨trivial, fun hS0 => ?_⟩
     repeat' first
      | ((with_reducible refine isP ?_); refine tkO ?_)
      | (with_reducible refine brO ?_ ?_)
      | (
       with_reducible refine isC (i := 4) ?_
       refine ldC (i := 4) ((hS.box hu0).at 2 rfl) trivial ?_)
      | (
       with_reducible refine isC (i := 5) ?_
       refine caO (i := 5) (HZ.out _) fun e wn hz => ?_
       obtain ⟨rfl, hb⟩ := hz; replace hS := hS.below hb; clear hb
       refine ⟨_, rfl, trivial, ?_⟩)
      | (
       with_reducible refine isC (i := 6) ?_
       refine liO (i := 6) (k := 1) (l := [⟨decide (z0.num < 0), nb z0.num.natAbs, nb z0.den⟩]) (by simp) rfl rfl fun _ _ hr hg hb => ?_
       replace hS := hS.below hb; have hlit := hr; clear hr hg hb
       refine ⟨trivial, ?_⟩)
      | (
       with_reducible refine isC (i := 7) ?_
       refine apS (i := 7) (x := 3) (k := k + 1) hS hu3 hlit (by rw [raws_len]; rfl) (by omega) fun aa ca wa hz _ => ?_
       replace hS := hz; clear hz hlit
       refine ⟨trivial, ?_⟩)
      | (
       with_reducible refine isC (i := 10) ?_
       refine stB (i := 10) (x := 0) (j := 2) hS (upd_o (by omega) hu0) rfl fun ws hz => ?_
       replace hS := hz; clear hz
       refine ⟨trivial, ?_⟩)
     all_goals (
      refine enP hA ?_
      clear hA
      simp only [List.set] at hS
      rw [← HX.out] at hS
      obtain ⟨U2, hS, hk2, h1, h2⟩ := hS.gen2 (by decide)
      go_wp2_with fail
      go_roundw
      case rel => exact ⟨k + 1, by omega, by go_num, U2, _, hS, fun x e0 e3 => (hk2 x e3 e0).trans (hku x e0 e3), h2, h1⟩
      case measure => simp [intOf]; omega)
    ·obtain rfl : k = n + m + 2 := by omega
     have hk1 : ¬ ((n + m + 2 : Nat) : Int) < (n : Int) + (m : Int) + 2 := by omega
     generalize ((n + m + 2 : Nat) : Int) = kk at *
     go_wp2_with fail
     go_ret
     obtain ⟨a3, c3, e3⟩ := (hS.lst hu3).form; rw [raws_len] at e3
     obtain ⟨a4, c4, e4, _⟩ := (hS.vals ((hku 1 (by decide) (by decide)).trans v1)).form
     obtain ⟨a5, c5, e5, _⟩ := (hS.ints ((hku 2 (by decide) (by decide)).trans v2)).form
     rw [List.length_map, List.length_range] at e4 e5; subst e3 e4 e5
     refine ⟨b, rfl, a4, c4, a5, c5, a3, c3, rv_, U, hS.rebase HB0.out, hu0, (hku 1 (by decide) (by decide)).trans v1, ((hku 2 (by decide) (by decide)).trans v2).trans ?_, hu3.trans ?_, fun q hq => (hku _ (by omega) (by omega)).trans (vr q hq)⟩
     ·rfl
     ·rw [show n + m + 1 + 1 = n + m + 2 from rfl]
      congr 1
      exact raws_congr fun j _ => by rw [cost0]; exact H0.out
end Go.Proofs.YtinmmkcjjlconaaGreat
