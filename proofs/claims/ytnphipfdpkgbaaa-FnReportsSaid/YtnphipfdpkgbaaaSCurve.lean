/- The laws' own helpers at slices of Curve: what they compute. Conditions: lengths of at most 1048576. -/
import Derived.Test.YtnphipfdpkgbaaaTo
import Derived.Test.YtnphipfdpkgbaaaBase2
namespace Go.Proofs.Ytnphipfdpkgbaaa
open Go Go.RowKit

end Go.Proofs.Ytnphipfdpkgbaaa
