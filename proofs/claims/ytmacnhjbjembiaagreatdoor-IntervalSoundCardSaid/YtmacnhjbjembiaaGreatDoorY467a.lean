/- Parts of the proofs about this seat's statements. -/
import Derived.Test.YtmacnhjbjembiaaGreatDoorY1234567za
namespace Go.Proofs.YtmacnhjbjembiaaGreatDoor
open Go.RowKit W
open Pl (uv vn vs fitO makeO roundO p10 cmpI oN oS oB dtext)
open Iv
theorem Rx.put2 {w : World} {g : Nat} {a b : Value} (h : Rx w g [a, b]) (x y : Value) : Rx ((w.setCell ⟨g, 0, none⟩ x).setCell ⟨g, 1, none⟩ y) g [x, y] := (h.put 0 x (by simp)).put 1 y (by simp)
end Go.Proofs.YtmacnhjbjembiaaGreatDoor
