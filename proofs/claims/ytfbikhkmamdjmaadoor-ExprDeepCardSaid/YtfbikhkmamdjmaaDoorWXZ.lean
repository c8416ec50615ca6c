/- ExprDeep: every input. -/
import Derived.Test.YtfbikhkmamdjmaaDoorWXW
import Derived.Test.YtfbikhkmamdjmaaDoorWXE
namespace Go.Proofs.YtfbikhkmamdjmaaDoor.CodesX
open Go Go.Ab
theorem law_w (n w : Int) : CallW D1 9 [.int .i64 n, .int .i64 w] Heap.empty fun v _ => v = .bool true := (law_pu all_checks n w Heap.empty fine0).mono fun _ _ hc => hc.1
end Go.Proofs.YtfbikhkmamdjmaaDoor.CodesX
