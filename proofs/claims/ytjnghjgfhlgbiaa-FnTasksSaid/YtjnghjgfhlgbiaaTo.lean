/- The walks of the laws' own helpers at one curve, entry, record, report: toX, eqX. Conditions: none. -/
import Derived.Test.YtjnghjgfhlgbiaaBase
namespace Go.Proofs.Ytjnghjgfhlgbiaa
open Go Go.RowKit

end Go.Proofs.Ytjnghjgfhlgbiaa
