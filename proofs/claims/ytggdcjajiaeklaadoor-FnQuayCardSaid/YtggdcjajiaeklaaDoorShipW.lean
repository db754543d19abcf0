/- Walks of ships: the rota of the quay, and what is loaded in a ship. -/
import Derived.Test.YtggdcjajiaeklaaDoorShipV
namespace Go.Proofs.YtggdcjajiaeklaaDoor
open Go.RowKit
end Go.Proofs.YtggdcjajiaeklaaDoor
