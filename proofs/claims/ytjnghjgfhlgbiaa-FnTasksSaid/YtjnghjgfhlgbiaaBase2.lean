/- The walks of the functions that speak of one record or report, and of the order of curves and reports. Conditions: none but the bounds that each theorem names. -/
import Derived.Test.YtjnghjgfhlgbiaaBase
namespace Go.Proofs.Ytjnghjgfhlgbiaa
open Go Go.RowKit



theorem cmpI_sub (x y : Int) : cmpI (x - y) 0 = cmpI x y := by unfold cmpI; repeat' split
                                                               all_goals omega


end Go.Proofs.Ytjnghjgfhlgbiaa
