/- The functions that stand already. -/
import Derived.Test.YtlpkandfmbnlnaaDoorC0
import Derived.Test.YtlpkandfmbnlnaaDoorR1
import Derived.Test.YtlpkandfmbnlnaaDoorR2
namespace Go.Proofs.YtlpkandfmbnlnaaDoor.R
open Go.RowKit Go.Proofs.YtlpkandfmbnlnaaDoor.C Go.Proofs.YtlpkandfmbnlnaaDoorW.PrintWords Go.Proofs.YtlpkandfmbnlnaaDoorW.PrintLast Go.Proofs.YtlpkandfmbnlnaaDoorW.PrintMore
end Go.Proofs.YtlpkandfmbnlnaaDoor.R
