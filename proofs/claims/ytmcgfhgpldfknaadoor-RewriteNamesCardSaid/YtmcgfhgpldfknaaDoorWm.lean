/-
  Layer 6: the walks of Depth.
-/
import Derived.Test.YtmcgfhgpldfknaaDoorWl
namespace Go.Proofs.YtmcgfhgpldfknaaDoor
open Go.RowKit

end Go.Proofs.YtmcgfhgpldfknaaDoor
