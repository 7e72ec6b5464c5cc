/- The walks of the laws' own helpers at one curve, entry, record, report: toX, eqX. Conditions: none. -/
import Derived.Test.YtjnghjgfhlgbiaaDoorBase
namespace Go.Proofs.YtjnghjgfhlgbiaaDoor
open Go Go.RowKit

end Go.Proofs.YtjnghjgfhlgbiaaDoor
