/- The functions that stand already. -/
import Derived.Test.YtlpkandfmbnlnaaDoorE0
import Derived.Test.YtlpkandfmbnlnaaDoorR1
import Derived.Test.YtlpkandfmbnlnaaDoorR2
import Derived.Test.YtlpkandfmbnlnaaDoorC1
namespace Go.Proofs.YtlpkandfmbnlnaaDoor.R
end Go.Proofs.YtlpkandfmbnlnaaDoor.R
namespace Go.Proofs.YtlpkandfmbnlnaaDoor.C
open Go.RowKit Go.Proofs.YtlpkandfmbnlnaaDoor.E Go.Proofs.YtlpkandfmbnlnaaDoorW.PrintWords Go.Proofs.YtlpkandfmbnlnaaDoorW.PrintLast Go.Proofs.YtlpkandfmbnlnaaDoorW.PrintMore
end Go.Proofs.YtlpkandfmbnlnaaDoor.C
