/- Parts of the proofs about this seat's statements. -/
import Derived.Test.YtmacnhjbjembiaaGreatDoorY1234567za
namespace Go.Proofs.YtmacnhjbjembiaaGreatDoor
open Iv
def j0 (x y : Int × Int) : Int × Int := if x.2 < x.1 then y else if y.2 < y.1 then x else (min x.1 y.1, max x.2 y.2)
end Go.Proofs.YtmacnhjbjembiaaGreatDoor
