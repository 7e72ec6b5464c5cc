/- The laws' own helpers at slices of Point: what they compute. Conditions: lengths of at most 1048576. -/
import Derived.Test.YtjnghjgfhlgbiaaTo
import Derived.Test.YtjnghjgfhlgbiaaBase2
namespace Go.Proofs.Ytjnghjgfhlgbiaa
open Go Go.RowKit

end Go.Proofs.Ytjnghjgfhlgbiaa
