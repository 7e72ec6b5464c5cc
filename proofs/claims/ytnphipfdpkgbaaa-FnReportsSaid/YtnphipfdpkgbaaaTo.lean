/- The walks of the laws' own helpers at one curve, entry, record, report: toX, eqX. Conditions: none. -/
import Derived.Test.YtnphipfdpkgbaaaBase
namespace Go.Proofs.Ytnphipfdpkgbaaa
open Go Go.RowKit

end Go.Proofs.Ytnphipfdpkgbaaa
