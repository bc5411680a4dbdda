/- The laws' helper: power. -/
import Derived.Test.YtjnnnciifjajmaaDoorEqE
namespace Go.Proofs.YtjnnnciifjajmaaDoor
open Go.RowKit FP

end Go.Proofs.YtjnnnciifjajmaaDoor
