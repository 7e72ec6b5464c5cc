/- The walks of the functions that ask whether a list is a catalogue. Conditions: none. -/
import Derived.Test.YtjnghjgfhlgbiaaDoorBase2
namespace Go.Proofs.YtjnghjgfhlgbiaaDoor
open Go Go.RowKit

end Go.Proofs.YtjnghjgfhlgbiaaDoor
