/- A pick: ticks, where the best weight's place is given. -/
import Derived.Test.YtfbikhkmamdjmaaGreatDoorWS1
namespace Go.Proofs.YtfbikhkmamdjmaaGreatDoor.CodesS
open Go Go.Ab
set_option maxRecDepth 100000
set_option maxHeartbeats 1600000

def lP : List (Nat × (List V → Option V)) := [(7, e7), (238, e238), (268, e268), (137, e137)]
noncomputable def DP : OCtx := over D lP
def nameP (i : Nat) : List Nat := [[97, 98, 99, 101, 102, 103, 104, 105].getD i 0]
def upP (f : Nat → V) : Nat → Nat → List V
  | 0, _ => []
  | k + 1, i => f i :: upP f k (i + 1)
def doP (i : Nat) : V := .agg [i64 9, i64 0, i64 0, .str (nameP i), i64 0, i64 0, .str [], .nilsl, .nilsl, .nilsl]
def wtP (i : Nat) : V := .agg [i64 2, i64 0, .str (nameP i), .nilsl]
def topP (n : Nat) : V := .agg [i64 11, i64 0, i64 0, .str [], i64 0, i64 0, .str [], .nilsl, .fsl (upP doP n 0) none, .fsl (upP wtP n 0) none]
def bdP : List Int → Nat → List V
  | [], _ => []
  | w :: r, i => .agg [.str (nameP i), i64 0, i64 w, i64 0, .str [], .cpx .f64 0 0] :: bdP r (i + 1)
def outP (i : Nat) : V := .agg [.str (nameP i), i64 3]
def envP (ws : List Int) : V := .agg [i64 0, i64 0, i64 0, .fsl (bdP ws 0) none, .fsl (upP outP ws.length 0) none, .nilsl]
def actP (k : Int) (s : Int) (i : Nat) : V := .agg [i64 k, i64 s, .str (nameP i), .str [], i64 0, i64 0, i64 0, .str [], .cpx .f64 0 0]
def bitP (t i : Nat) : V := match Nat.beq i t with
  | true => i64 1
  | false => i64 0
def stP (n t : Nat) : V := .fsl (i64 (t + 1 : Nat) :: upP (bitP t) n 0) none
def res1 (n t : Nat) : V := .agg [i64 3, i64 2, .fsl [actP 1 3 t] none, stP n t]
def res2 (n t u : Nat) : V := .agg [i64 3, i64 2, .fsl [actP 2 0 t, actP 1 3 u] none, stP n u]
noncomputable def altP (ws : List Int) (t : Nat) (f : Nat) : Option (List V → Heap → List V → List V → Option (V × Heap × List V × List V)) := match Nat.beq f 157 with
  | true => some (givenA [.fsl (ws.map i64) none] (i64 (t : Nat)))
  | false => (match Nat.beq f 149 with
    | true => some (twoS v149x0 v149x1 1000)
    | false => none)
noncomputable def run1 (ws : List Int) (t : Nat) : Option (V × Heap × List V × List V) := callA DP (altP ws t) 100000 1000 8 [topP ws.length, .nilsl, envP ws] Heap.empty [] []
noncomputable def run2 (ws : List Int) (t u : Nat) : Option (V × Heap × List V × List V) := callA DP (altP ws u) 100000 1000 8 [topP ws.length, stP ws.length t, envP ws] Heap.empty [] []
theorem p2x0 (w0 w1 : Int) : leftF (run1 [w0, w1] 0) = rightF (res1 2 0) (run1 [w0, w1] 0) := by kernel_rfl
theorem p2x1 (w0 w1 : Int) : leftF (run1 [w0, w1] 1) = rightF (res1 2 1) (run1 [w0, w1] 1) := by kernel_rfl
theorem q2x01 (w0 w1 : Int) : leftF (run2 [w0, w1] 0 1) = rightF (res2 2 0 1) (run2 [w0, w1] 0 1) := by kernel_rfl
theorem q2x00 (w0 w1 : Int) : leftF (run2 [w0, w1] 0 0) = rightF (res1 2 0) (run2 [w0, w1] 0 0) := by kernel_rfl
end Go.Proofs.YtfbikhkmamdjmaaGreatDoor.CodesS
