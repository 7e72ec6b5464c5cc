/- The laws' own helpers at slices of Report: what they compute. Conditions: lengths of at most 1048576. -/
import Derived.Test.YtnphipfdpkgbaaaTo
import Derived.Test.YtnphipfdpkgbaaaBase2
import Derived.Test.YtnphipfdpkgbaaaSEntry
namespace Go.Proofs.Ytnphipfdpkgbaaa
open Go Go.RowKit

end Go.Proofs.Ytnphipfdpkgbaaa
