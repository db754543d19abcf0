/- The draw of a stock: some stock. -/
import Derived.Test.YtcljfdpjlkaagaaDoorDraw
import Derived.Test.YtcljfdpjlkaagaaDoorServe
import Derived.Test.YtcljfdpjlkaagaaDoorRoom
namespace Go.Proofs.YtcljfdpjlkaagaaDoor
open Go.RowKit
end Go.Proofs.YtcljfdpjlkaagaaDoor
