/- Parts of the proofs about this seat's statements. -/
import Derived.Test.YtmacnhjbjembiaaGreatDoorY235a
import Derived.Test.YtmacnhjbjembiaaGreatDoorY345a
namespace Iv
open Pl
theorem jn_in {p q : Int × Int} (hp : InP p) (hq : InP q) : InP (jn p q) := by
 have h1 := nrm_in hp; have h2 := nrm_in hq; unfold jn
 split
 ·exact h2
 ·split
  ·exact h1
  ·exact ⟨inR_min2 h1.1 h2.1, inR_max2 h1.2 h2.2⟩
theorem mt_in {p q : Int × Int} (hp : InP p) (hq : InP q) : InP (mt p q) :=
 nrm_in ⟨inR_max2 (nrm_in hp).1 (nrm_in hq).1, inR_min2 (nrm_in hp).2 (nrm_in hq).2⟩
end Iv
namespace Iv
open Pl Go.Lib
end Iv
namespace Go.Proofs.YtmacnhjbjembiaaGreatDoor
open Iv
def Sb (p q : Int × Int) : Prop := p.2 < p.1 ∨ (q.1 ≤ p.1 ∧ p.2 ≤ q.2)
theorem witB_iff {p q : Int × Int} : witB p q = true ↔ Sb p q := by
 unfold witB Sb; simp
theorem jn_sb (p q : Int × Int) : Sb p (jn p q) := by
 unfold Sb jn
 by_cases h : p.2 < p.1
 ·exact .inl h
 ·right
  rw [nrm_no h, if_neg h]
  split
  ·exact ⟨Int.le_refl _, Int.le_refl _⟩
  ·constructor <;> (simp only []; omega)
theorem j0_a {x : Int × Int} (y : Int × Int) (h : x.2 < x.1) : j0 x y = y := by unfold j0; rw [if_pos h]
theorem j0_b {x y : Int × Int} (h : ¬ x.2 < x.1) (h2 : y.2 < y.1) : j0 x y = x := by unfold j0; rw [if_neg h, if_pos h2]
theorem j0_c {x y : Int × Int} (h : ¬ x.2 < x.1) (h2 : ¬ y.2 < y.1) : j0 x y = (min x.1 y.1, max x.2 y.2) := by unfold j0; rw [if_neg h, if_neg h2]
end Go.Proofs.YtmacnhjbjembiaaGreatDoor
namespace Go.Proofs.YtmacnhjbjembiaaGreatDoor
open Go.RowKit W
open Pl (uv vn vs fitO makeO roundO p10 cmpI oN oS oB dtext)
open Pl (nb bv bv_nb nb_size_zero)
open Iv
theorem ijoin_gr (p : Int × Int) (ip : InP p) (k l m n : Int) (w : World) (hG : GI w) : Calls Tryz.prog 34 #[gv p, rg k l m n] w fun e w' => e = .returned (gv (jn p (uv k l, uv m n))) ∧ Below w.heap.size w w' := by
 have h := ijoin_any (Dn p.1) (Ds p.1) (Dn p.2) (Ds p.2) k l m n w hG; rw [uv_D ip.1, uv_D ip.2] at h
 exact h
theorem imeet_gr (p : Int × Int) (ip : InP p) (k l m n : Int) (w : World) (hG : GI w) : Calls Tryz.prog 35 #[gv p, rg k l m n] w fun e w' => e = .returned (gv (mt p (uv k l, uv m n))) ∧ Below w.heap.size w w' := by
 have h := imeet_any (Dn p.1) (Ds p.1) (Dn p.2) (Ds p.2) k l m n w hG; rw [uv_D ip.1, uv_D ip.2] at h
 exact h
end Go.Proofs.YtmacnhjbjembiaaGreatDoor
