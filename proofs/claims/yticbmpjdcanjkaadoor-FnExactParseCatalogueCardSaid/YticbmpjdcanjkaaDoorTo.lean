/- The walks of the laws' own helpers at one curve, entry, record, report: toX, eqX. Conditions: none. -/
import Derived.Test.YticbmpjdcanjkaaDoorBase
namespace Go.Proofs.YticbmpjdcanjkaaDoor
open Go Go.RowKit

end Go.Proofs.YticbmpjdcanjkaaDoor
