/- Parts of the proofs about this seat's statements. -/
import Derived.Test.YtmacnhjbjembiaaGreatDoorY234a
import Derived.Test.YtmacnhjbjembiaaGreatDoorY345a
namespace Go.Proofs.YtmacnhjbjembiaaGreatDoor
open Iv
def El (p : Int × Int) (u : Int) : Prop := p.1 ≤ u ∧ u ≤ p.2
theorem conB_iff {p : Int × Int} {u : Int} : conB p true u = true ↔ El p u := by unfold conB El; simp
theorem el_ne {p : Int × Int} {u : Int} (h : El p u) : ¬ p.2 < p.1 := by have := h.1; have := h.2; omega
end Go.Proofs.YtmacnhjbjembiaaGreatDoor
namespace Go.Proofs.YtmacnhjbjembiaaGreatDoor
open Go.RowKit W
open Pl (uv vn vs fitO makeO roundO p10 cmpI oN oS oB dtext)
open Pl (nb bv bv_nb nb_size_zero)
open Iv
theorem icon_g (p : Int × Int) (ip : InP p) (n s : Int) (w : World) (hG : GI w) : Calls Tryz.prog 21 #[gv p, dc n s] w fun e w' => e = .returned (.bool (conB p (Pl.rightB n s) (uv n s))) ∧ Below w.heap.size w w' := by
 have h := icon_any (Dn p.1) (Ds p.1) (Dn p.2) (Ds p.2) n s w hG; rw [uv_D ip.1, uv_D ip.2] at h
 exact h
end Go.Proofs.YtmacnhjbjembiaaGreatDoor
