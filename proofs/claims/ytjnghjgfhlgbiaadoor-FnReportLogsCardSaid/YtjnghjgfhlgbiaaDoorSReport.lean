/- The laws' own helpers at slices of Report: what they compute. Conditions: lengths of at most 1048576. -/
import Derived.Test.YtjnghjgfhlgbiaaDoorTo
import Derived.Test.YtjnghjgfhlgbiaaDoorBase2
import Derived.Test.YtjnghjgfhlgbiaaDoorSEntry
namespace Go.Proofs.YtjnghjgfhlgbiaaDoor
open Go Go.RowKit

end Go.Proofs.YtjnghjgfhlgbiaaDoor
