/- Parts of the proofs about this seat's statements. -/
import Derived.Test.YtmacnhjbjembiaaGreatDoorY12345a
namespace Pl
end Pl
namespace Pl
end Pl
namespace Pl
end Pl
namespace Pl
open Go
end Pl
namespace Pl
end Pl
namespace Pl
end Pl
namespace Pl
open Go.Lib
end Pl
namespace Pl
open Go.Lib
end Pl
namespace Pl
open Go.Lib
end Pl
namespace Pl
open Go.Lib
end Pl
namespace Pl
open Go.Lib
end Pl
namespace Pl
end Pl
namespace Pl
end Pl
namespace Pl
open Go.Lib
theorem cmpI_le {a b : Int} : cmpI a b ≤ 0 ↔ a ≤ b := by unfold cmpI; split <;> (try split) <;> omega
end Pl
namespace Go.Proofs.YtmacnhjbjembiaaGreatDoor
open Go.RowKit W
open Pl (uv vn vs fitO makeO roundO p10 cmpI oN oS oB dtext)
open Iv
theorem mt' {a b : Prop} (h : a → b) (hb : ¬ b) : ¬ a := fun ha => hb (h ha)
end Go.Proofs.YtmacnhjbjembiaaGreatDoor
