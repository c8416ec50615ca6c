/- A clock: the law's pieces, evaluated. -/
import Derived.Test.YtfbikhkmamdjmaaGreatDoorWC2
namespace Go.Proofs.YtfbikhkmamdjmaaGreatDoor.CodesW
open Go Go.Ab
set_option maxRecDepth 100000
def dC (n : Int) : V := .agg [i64 3, i64 0, .str [97], .str [], i64 0, i64 n, i64 0, .str [], .cpx .f64 0 0]
/-- the event, the board -/
def evC (f n : Int) : V := .fsl [.agg [i64 f, i64 n, i64 0, i64 1, i64 1, .fsl [dC n] none]] none
def bdC (n : Int) : V := .fsl [.agg [.str [97], i64 0, i64 n, i64 0, .str [], .cpx .f64 0 0]] none
/-- the law's pieces behind its guards -/
noncomputable def runC (x y b : Int) : Option (Ex × Kn × Heap × List V × List V) := execS (callA D3 (altC 234 y) 100000 1000) (capOfD c6.dep) 100000 (mid6 7) [(0, i64 x), (1, i64 y), (2, i64 b)] (hp H0 []) [] []
def lookC (q : Option (Ex × Kn × Heap × List V × List V)) : Option (List (Option V) × List (Option (List V)) × List V) := lookS [1, 2, 10, 11] [] q
def wantC (y b f : Int) (q : Option (Ex × Kn × Heap × List V × List V)) : Option (List (Option V) × List (Option (List V)) × List V) := rightL [i64 y, i64 b, evC f y, bdC y] [] q
end Go.Proofs.YtfbikhkmamdjmaaGreatDoor.CodesW
