/- The law WireNil, walked: it returns true, and nothing that was there is changed. No condition. -/
import Derived.Test.YtpjaghaapmbanaaDoorWNil
import Derived.Test.YtpjaghaapmbanaaDoorAwake02
namespace Go.Proofs.YtpjaghaapmbanaaDoor
open Go.RowKit

theorem walk_WireNil (W : World) :
    Calls Tryd.prog 5 #[] W fun e w' => e = .returned (.bool true) ∧ Below W.heap.size W w' := wireNil_any awake02_any W
end Go.Proofs.YtpjaghaapmbanaaDoor
