/- A pick: all ticks; the document's place of the greatest weight. -/
import Derived.Test.YtfbikhkmamdjmaaGreatDoorWP501
import Derived.Test.YtfbikhkmamdjmaaGreatDoorWP502
import Derived.Test.YtfbikhkmamdjmaaGreatDoorWP503
import Derived.Test.YtfbikhkmamdjmaaGreatDoorWP504
import Derived.Test.YtfbikhkmamdjmaaGreatDoorWP505
import Derived.Test.YtfbikhkmamdjmaaGreatDoorWP506
import Derived.Test.YtfbikhkmamdjmaaGreatDoorWP507
import Derived.Test.YtfbikhkmamdjmaaGreatDoorWP508
import Derived.Test.YtfbikhkmamdjmaaGreatDoorWP509
import Derived.Test.YtfbikhkmamdjmaaGreatDoorWP510
import Derived.Test.YtfbikhkmamdjmaaGreatDoorWP511
import Derived.Test.YtfbikhkmamdjmaaGreatDoorWP512
import Derived.Test.YtfbikhkmamdjmaaGreatDoorWP513
import Derived.Test.YtfbikhkmamdjmaaGreatDoorWP514
import Derived.Test.YtfbikhkmamdjmaaGreatDoorWP515
namespace Go.Proofs.YtfbikhkmamdjmaaGreatDoor.CodesS
open Go Go.Ab
set_option maxRecDepth 100000
set_option maxHeartbeats 1600000
theorem L8 {n : Nat} (h : Nat.ble n 8 = true) : n ≤ 8 := Nat.le_of_ble_eq_true h
theorem first1 (w0 : Int) (t : Nat) (ht : t < 1) (hb : bestAt [w0] 1 = (t : Nat)) : CallW DP2 8 [topP 1, .nilsl, envP [w0]] Heap.empty fun v h1 => V.own v = true ∧ Go.Ab.freeze h1.clean 0 fuelF v = some (res1 1 t) := by
  match t, ht, hb with
  | 0, _, hb => exact evalAF (altP_ok _ 0 (L8 rfl) hb) (tick1x0 w0)
  | _ + 1, h, _ => omega
theorem then1x0 (w0 : Int) (t : Nat) (ht : t < 1) (hb : bestAt [w0] 1 = ((0 : Nat) : Int)) : CallW DP2 8 [topP 1, stP 1 t, envP [w0]] Heap.empty fun v h1 => V.own v = true ∧ Go.Ab.freeze h1.clean 0 fuelF v = some (if t = 0 then res1 1 t else res2 1 t 0) := by
  match t, ht with
  | 0, _ => exact evalAF (altP_ok _ 0 (L8 rfl) hb) (next1x0x0 w0)
  | _ + 1, h => omega
theorem first2 (w0 w1 : Int) (t : Nat) (ht : t < 2) (hb : bestAt [w0, w1] 2 = (t : Nat)) : CallW DP2 8 [topP 2, .nilsl, envP [w0, w1]] Heap.empty fun v h1 => V.own v = true ∧ Go.Ab.freeze h1.clean 0 fuelF v = some (res1 2 t) := by
  match t, ht, hb with
  | 0, _, hb => exact evalAF (altP_ok _ 0 (L8 rfl) hb) (tick2x0 w0 w1)
  | 1, _, hb => exact evalAF (altP_ok _ 1 (L8 rfl) hb) (tick2x1 w0 w1)
  | _ + 2, h, _ => omega
theorem then2x0 (w0 w1 : Int) (t : Nat) (ht : t < 2) (hb : bestAt [w0, w1] 2 = ((0 : Nat) : Int)) : CallW DP2 8 [topP 2, stP 2 t, envP [w0, w1]] Heap.empty fun v h1 => V.own v = true ∧ Go.Ab.freeze h1.clean 0 fuelF v = some (if t = 0 then res1 2 t else res2 2 t 0) := by
  match t, ht with
  | 0, _ => exact evalAF (altP_ok _ 0 (L8 rfl) hb) (next2x0x0 w0 w1)
  | 1, _ => exact evalAF (altP_ok _ 0 (L8 rfl) hb) (next2x1x0 w0 w1)
  | _ + 2, h => omega
theorem then2x1 (w0 w1 : Int) (t : Nat) (ht : t < 2) (hb : bestAt [w0, w1] 2 = ((1 : Nat) : Int)) : CallW DP2 8 [topP 2, stP 2 t, envP [w0, w1]] Heap.empty fun v h1 => V.own v = true ∧ Go.Ab.freeze h1.clean 0 fuelF v = some (if t = 1 then res1 2 t else res2 2 t 1) := by
  match t, ht with
  | 0, _ => exact evalAF (altP_ok _ 1 (L8 rfl) hb) (next2x0x1 w0 w1)
  | 1, _ => exact evalAF (altP_ok _ 1 (L8 rfl) hb) (next2x1x1 w0 w1)
  | _ + 2, h => omega
theorem first3 (w0 w1 w2 : Int) (t : Nat) (ht : t < 3) (hb : bestAt [w0, w1, w2] 3 = (t : Nat)) : CallW DP2 8 [topP 3, .nilsl, envP [w0, w1, w2]] Heap.empty fun v h1 => V.own v = true ∧ Go.Ab.freeze h1.clean 0 fuelF v = some (res1 3 t) := by
  match t, ht, hb with
  | 0, _, hb => exact evalAF (altP_ok _ 0 (L8 rfl) hb) (tick3x0 w0 w1 w2)
  | 1, _, hb => exact evalAF (altP_ok _ 1 (L8 rfl) hb) (tick3x1 w0 w1 w2)
  | 2, _, hb => exact evalAF (altP_ok _ 2 (L8 rfl) hb) (tick3x2 w0 w1 w2)
  | _ + 3, h, _ => omega
theorem then3x0 (w0 w1 w2 : Int) (t : Nat) (ht : t < 3) (hb : bestAt [w0, w1, w2] 3 = ((0 : Nat) : Int)) : CallW DP2 8 [topP 3, stP 3 t, envP [w0, w1, w2]] Heap.empty fun v h1 => V.own v = true ∧ Go.Ab.freeze h1.clean 0 fuelF v = some (if t = 0 then res1 3 t else res2 3 t 0) := by
  match t, ht with
  | 0, _ => exact evalAF (altP_ok _ 0 (L8 rfl) hb) (next3x0x0 w0 w1 w2)
  | 1, _ => exact evalAF (altP_ok _ 0 (L8 rfl) hb) (next3x1x0 w0 w1 w2)
  | 2, _ => exact evalAF (altP_ok _ 0 (L8 rfl) hb) (next3x2x0 w0 w1 w2)
  | _ + 3, h => omega
theorem then3x1 (w0 w1 w2 : Int) (t : Nat) (ht : t < 3) (hb : bestAt [w0, w1, w2] 3 = ((1 : Nat) : Int)) : CallW DP2 8 [topP 3, stP 3 t, envP [w0, w1, w2]] Heap.empty fun v h1 => V.own v = true ∧ Go.Ab.freeze h1.clean 0 fuelF v = some (if t = 1 then res1 3 t else res2 3 t 1) := by
  match t, ht with
  | 0, _ => exact evalAF (altP_ok _ 1 (L8 rfl) hb) (next3x0x1 w0 w1 w2)
  | 1, _ => exact evalAF (altP_ok _ 1 (L8 rfl) hb) (next3x1x1 w0 w1 w2)
  | 2, _ => exact evalAF (altP_ok _ 1 (L8 rfl) hb) (next3x2x1 w0 w1 w2)
  | _ + 3, h => omega
theorem then3x2 (w0 w1 w2 : Int) (t : Nat) (ht : t < 3) (hb : bestAt [w0, w1, w2] 3 = ((2 : Nat) : Int)) : CallW DP2 8 [topP 3, stP 3 t, envP [w0, w1, w2]] Heap.empty fun v h1 => V.own v = true ∧ Go.Ab.freeze h1.clean 0 fuelF v = some (if t = 2 then res1 3 t else res2 3 t 2) := by
  match t, ht with
  | 0, _ => exact evalAF (altP_ok _ 2 (L8 rfl) hb) (next3x0x2 w0 w1 w2)
  | 1, _ => exact evalAF (altP_ok _ 2 (L8 rfl) hb) (next3x1x2 w0 w1 w2)
  | 2, _ => exact evalAF (altP_ok _ 2 (L8 rfl) hb) (next3x2x2 w0 w1 w2)
  | _ + 3, h => omega
theorem first4 (w0 w1 w2 w3 : Int) (t : Nat) (ht : t < 4) (hb : bestAt [w0, w1, w2, w3] 4 = (t : Nat)) : CallW DP2 8 [topP 4, .nilsl, envP [w0, w1, w2, w3]] Heap.empty fun v h1 => V.own v = true ∧ Go.Ab.freeze h1.clean 0 fuelF v = some (res1 4 t) := by
  match t, ht, hb with
  | 0, _, hb => exact evalAF (altP_ok _ 0 (L8 rfl) hb) (tick4x0 w0 w1 w2 w3)
  | 1, _, hb => exact evalAF (altP_ok _ 1 (L8 rfl) hb) (tick4x1 w0 w1 w2 w3)
  | 2, _, hb => exact evalAF (altP_ok _ 2 (L8 rfl) hb) (tick4x2 w0 w1 w2 w3)
  | 3, _, hb => exact evalAF (altP_ok _ 3 (L8 rfl) hb) (tick4x3 w0 w1 w2 w3)
  | _ + 4, h, _ => omega
theorem then4x0 (w0 w1 w2 w3 : Int) (t : Nat) (ht : t < 4) (hb : bestAt [w0, w1, w2, w3] 4 = ((0 : Nat) : Int)) : CallW DP2 8 [topP 4, stP 4 t, envP [w0, w1, w2, w3]] Heap.empty fun v h1 => V.own v = true ∧ Go.Ab.freeze h1.clean 0 fuelF v = some (if t = 0 then res1 4 t else res2 4 t 0) := by
  match t, ht with
  | 0, _ => exact evalAF (altP_ok _ 0 (L8 rfl) hb) (next4x0x0 w0 w1 w2 w3)
  | 1, _ => exact evalAF (altP_ok _ 0 (L8 rfl) hb) (next4x1x0 w0 w1 w2 w3)
  | 2, _ => exact evalAF (altP_ok _ 0 (L8 rfl) hb) (next4x2x0 w0 w1 w2 w3)
  | 3, _ => exact evalAF (altP_ok _ 0 (L8 rfl) hb) (next4x3x0 w0 w1 w2 w3)
  | _ + 4, h => omega
theorem then4x1 (w0 w1 w2 w3 : Int) (t : Nat) (ht : t < 4) (hb : bestAt [w0, w1, w2, w3] 4 = ((1 : Nat) : Int)) : CallW DP2 8 [topP 4, stP 4 t, envP [w0, w1, w2, w3]] Heap.empty fun v h1 => V.own v = true ∧ Go.Ab.freeze h1.clean 0 fuelF v = some (if t = 1 then res1 4 t else res2 4 t 1) := by
  match t, ht with
  | 0, _ => exact evalAF (altP_ok _ 1 (L8 rfl) hb) (next4x0x1 w0 w1 w2 w3)
  | 1, _ => exact evalAF (altP_ok _ 1 (L8 rfl) hb) (next4x1x1 w0 w1 w2 w3)
  | 2, _ => exact evalAF (altP_ok _ 1 (L8 rfl) hb) (next4x2x1 w0 w1 w2 w3)
  | 3, _ => exact evalAF (altP_ok _ 1 (L8 rfl) hb) (next4x3x1 w0 w1 w2 w3)
  | _ + 4, h => omega
theorem then4x2 (w0 w1 w2 w3 : Int) (t : Nat) (ht : t < 4) (hb : bestAt [w0, w1, w2, w3] 4 = ((2 : Nat) : Int)) : CallW DP2 8 [topP 4, stP 4 t, envP [w0, w1, w2, w3]] Heap.empty fun v h1 => V.own v = true ∧ Go.Ab.freeze h1.clean 0 fuelF v = some (if t = 2 then res1 4 t else res2 4 t 2) := by
  match t, ht with
  | 0, _ => exact evalAF (altP_ok _ 2 (L8 rfl) hb) (next4x0x2 w0 w1 w2 w3)
  | 1, _ => exact evalAF (altP_ok _ 2 (L8 rfl) hb) (next4x1x2 w0 w1 w2 w3)
  | 2, _ => exact evalAF (altP_ok _ 2 (L8 rfl) hb) (next4x2x2 w0 w1 w2 w3)
  | 3, _ => exact evalAF (altP_ok _ 2 (L8 rfl) hb) (next4x3x2 w0 w1 w2 w3)
  | _ + 4, h => omega
theorem then4x3 (w0 w1 w2 w3 : Int) (t : Nat) (ht : t < 4) (hb : bestAt [w0, w1, w2, w3] 4 = ((3 : Nat) : Int)) : CallW DP2 8 [topP 4, stP 4 t, envP [w0, w1, w2, w3]] Heap.empty fun v h1 => V.own v = true ∧ Go.Ab.freeze h1.clean 0 fuelF v = some (if t = 3 then res1 4 t else res2 4 t 3) := by
  match t, ht with
  | 0, _ => exact evalAF (altP_ok _ 3 (L8 rfl) hb) (next4x0x3 w0 w1 w2 w3)
  | 1, _ => exact evalAF (altP_ok _ 3 (L8 rfl) hb) (next4x1x3 w0 w1 w2 w3)
  | 2, _ => exact evalAF (altP_ok _ 3 (L8 rfl) hb) (next4x2x3 w0 w1 w2 w3)
  | 3, _ => exact evalAF (altP_ok _ 3 (L8 rfl) hb) (next4x3x3 w0 w1 w2 w3)
  | _ + 4, h => omega
theorem first5 (w0 w1 w2 w3 w4 : Int) (t : Nat) (ht : t < 5) (hb : bestAt [w0, w1, w2, w3, w4] 5 = (t : Nat)) : CallW DP2 8 [topP 5, .nilsl, envP [w0, w1, w2, w3, w4]] Heap.empty fun v h1 => V.own v = true ∧ Go.Ab.freeze h1.clean 0 fuelF v = some (res1 5 t) := by
  match t, ht, hb with
  | 0, _, hb => exact evalAF (altP_ok _ 0 (L8 rfl) hb) (tick5x0 w0 w1 w2 w3 w4)
  | 1, _, hb => exact evalAF (altP_ok _ 1 (L8 rfl) hb) (tick5x1 w0 w1 w2 w3 w4)
  | 2, _, hb => exact evalAF (altP_ok _ 2 (L8 rfl) hb) (tick5x2 w0 w1 w2 w3 w4)
  | 3, _, hb => exact evalAF (altP_ok _ 3 (L8 rfl) hb) (tick5x3 w0 w1 w2 w3 w4)
  | 4, _, hb => exact evalAF (altP_ok _ 4 (L8 rfl) hb) (tick5x4 w0 w1 w2 w3 w4)
  | _ + 5, h, _ => omega
theorem then5x0 (w0 w1 w2 w3 w4 : Int) (t : Nat) (ht : t < 5) (hb : bestAt [w0, w1, w2, w3, w4] 5 = ((0 : Nat) : Int)) : CallW DP2 8 [topP 5, stP 5 t, envP [w0, w1, w2, w3, w4]] Heap.empty fun v h1 => V.own v = true ∧ Go.Ab.freeze h1.clean 0 fuelF v = some (if t = 0 then res1 5 t else res2 5 t 0) := by
  match t, ht with
  | 0, _ => exact evalAF (altP_ok _ 0 (L8 rfl) hb) (next5x0x0 w0 w1 w2 w3 w4)
  | 1, _ => exact evalAF (altP_ok _ 0 (L8 rfl) hb) (next5x1x0 w0 w1 w2 w3 w4)
  | 2, _ => exact evalAF (altP_ok _ 0 (L8 rfl) hb) (next5x2x0 w0 w1 w2 w3 w4)
  | 3, _ => exact evalAF (altP_ok _ 0 (L8 rfl) hb) (next5x3x0 w0 w1 w2 w3 w4)
  | 4, _ => exact evalAF (altP_ok _ 0 (L8 rfl) hb) (next5x4x0 w0 w1 w2 w3 w4)
  | _ + 5, h => omega
theorem then5x1 (w0 w1 w2 w3 w4 : Int) (t : Nat) (ht : t < 5) (hb : bestAt [w0, w1, w2, w3, w4] 5 = ((1 : Nat) : Int)) : CallW DP2 8 [topP 5, stP 5 t, envP [w0, w1, w2, w3, w4]] Heap.empty fun v h1 => V.own v = true ∧ Go.Ab.freeze h1.clean 0 fuelF v = some (if t = 1 then res1 5 t else res2 5 t 1) := by
  match t, ht with
  | 0, _ => exact evalAF (altP_ok _ 1 (L8 rfl) hb) (next5x0x1 w0 w1 w2 w3 w4)
  | 1, _ => exact evalAF (altP_ok _ 1 (L8 rfl) hb) (next5x1x1 w0 w1 w2 w3 w4)
  | 2, _ => exact evalAF (altP_ok _ 1 (L8 rfl) hb) (next5x2x1 w0 w1 w2 w3 w4)
  | 3, _ => exact evalAF (altP_ok _ 1 (L8 rfl) hb) (next5x3x1 w0 w1 w2 w3 w4)
  | 4, _ => exact evalAF (altP_ok _ 1 (L8 rfl) hb) (next5x4x1 w0 w1 w2 w3 w4)
  | _ + 5, h => omega
theorem then5x2 (w0 w1 w2 w3 w4 : Int) (t : Nat) (ht : t < 5) (hb : bestAt [w0, w1, w2, w3, w4] 5 = ((2 : Nat) : Int)) : CallW DP2 8 [topP 5, stP 5 t, envP [w0, w1, w2, w3, w4]] Heap.empty fun v h1 => V.own v = true ∧ Go.Ab.freeze h1.clean 0 fuelF v = some (if t = 2 then res1 5 t else res2 5 t 2) := by
  match t, ht with
  | 0, _ => exact evalAF (altP_ok _ 2 (L8 rfl) hb) (next5x0x2 w0 w1 w2 w3 w4)
  | 1, _ => exact evalAF (altP_ok _ 2 (L8 rfl) hb) (next5x1x2 w0 w1 w2 w3 w4)
  | 2, _ => exact evalAF (altP_ok _ 2 (L8 rfl) hb) (next5x2x2 w0 w1 w2 w3 w4)
  | 3, _ => exact evalAF (altP_ok _ 2 (L8 rfl) hb) (next5x3x2 w0 w1 w2 w3 w4)
  | 4, _ => exact evalAF (altP_ok _ 2 (L8 rfl) hb) (next5x4x2 w0 w1 w2 w3 w4)
  | _ + 5, h => omega
theorem then5x3 (w0 w1 w2 w3 w4 : Int) (t : Nat) (ht : t < 5) (hb : bestAt [w0, w1, w2, w3, w4] 5 = ((3 : Nat) : Int)) : CallW DP2 8 [topP 5, stP 5 t, envP [w0, w1, w2, w3, w4]] Heap.empty fun v h1 => V.own v = true ∧ Go.Ab.freeze h1.clean 0 fuelF v = some (if t = 3 then res1 5 t else res2 5 t 3) := by
  match t, ht with
  | 0, _ => exact evalAF (altP_ok _ 3 (L8 rfl) hb) (next5x0x3 w0 w1 w2 w3 w4)
  | 1, _ => exact evalAF (altP_ok _ 3 (L8 rfl) hb) (next5x1x3 w0 w1 w2 w3 w4)
  | 2, _ => exact evalAF (altP_ok _ 3 (L8 rfl) hb) (next5x2x3 w0 w1 w2 w3 w4)
  | 3, _ => exact evalAF (altP_ok _ 3 (L8 rfl) hb) (next5x3x3 w0 w1 w2 w3 w4)
  | 4, _ => exact evalAF (altP_ok _ 3 (L8 rfl) hb) (next5x4x3 w0 w1 w2 w3 w4)
  | _ + 5, h => omega
theorem then5x4 (w0 w1 w2 w3 w4 : Int) (t : Nat) (ht : t < 5) (hb : bestAt [w0, w1, w2, w3, w4] 5 = ((4 : Nat) : Int)) : CallW DP2 8 [topP 5, stP 5 t, envP [w0, w1, w2, w3, w4]] Heap.empty fun v h1 => V.own v = true ∧ Go.Ab.freeze h1.clean 0 fuelF v = some (if t = 4 then res1 5 t else res2 5 t 4) := by
  match t, ht with
  | 0, _ => exact evalAF (altP_ok _ 4 (L8 rfl) hb) (next5x0x4 w0 w1 w2 w3 w4)
  | 1, _ => exact evalAF (altP_ok _ 4 (L8 rfl) hb) (next5x1x4 w0 w1 w2 w3 w4)
  | 2, _ => exact evalAF (altP_ok _ 4 (L8 rfl) hb) (next5x2x4 w0 w1 w2 w3 w4)
  | 3, _ => exact evalAF (altP_ok _ 4 (L8 rfl) hb) (next5x3x4 w0 w1 w2 w3 w4)
  | 4, _ => exact evalAF (altP_ok _ 4 (L8 rfl) hb) (next5x4x4 w0 w1 w2 w3 w4)
  | _ + 5, h => omega
theorem first6 (w0 w1 w2 w3 w4 w5 : Int) (t : Nat) (ht : t < 6) (hb : bestAt [w0, w1, w2, w3, w4, w5] 6 = (t : Nat)) : CallW DP2 8 [topP 6, .nilsl, envP [w0, w1, w2, w3, w4, w5]] Heap.empty fun v h1 => V.own v = true ∧ Go.Ab.freeze h1.clean 0 fuelF v = some (res1 6 t) := by
  match t, ht, hb with
  | 0, _, hb => exact evalAF (altP_ok _ 0 (L8 rfl) hb) (tick6x0 w0 w1 w2 w3 w4 w5)
  | 1, _, hb => exact evalAF (altP_ok _ 1 (L8 rfl) hb) (tick6x1 w0 w1 w2 w3 w4 w5)
  | 2, _, hb => exact evalAF (altP_ok _ 2 (L8 rfl) hb) (tick6x2 w0 w1 w2 w3 w4 w5)
  | 3, _, hb => exact evalAF (altP_ok _ 3 (L8 rfl) hb) (tick6x3 w0 w1 w2 w3 w4 w5)
  | 4, _, hb => exact evalAF (altP_ok _ 4 (L8 rfl) hb) (tick6x4 w0 w1 w2 w3 w4 w5)
  | 5, _, hb => exact evalAF (altP_ok _ 5 (L8 rfl) hb) (tick6x5 w0 w1 w2 w3 w4 w5)
  | _ + 6, h, _ => omega
theorem then6x0 (w0 w1 w2 w3 w4 w5 : Int) (t : Nat) (ht : t < 6) (hb : bestAt [w0, w1, w2, w3, w4, w5] 6 = ((0 : Nat) : Int)) : CallW DP2 8 [topP 6, stP 6 t, envP [w0, w1, w2, w3, w4, w5]] Heap.empty fun v h1 => V.own v = true ∧ Go.Ab.freeze h1.clean 0 fuelF v = some (if t = 0 then res1 6 t else res2 6 t 0) := by
  match t, ht with
  | 0, _ => exact evalAF (altP_ok _ 0 (L8 rfl) hb) (next6x0x0 w0 w1 w2 w3 w4 w5)
  | 1, _ => exact evalAF (altP_ok _ 0 (L8 rfl) hb) (next6x1x0 w0 w1 w2 w3 w4 w5)
  | 2, _ => exact evalAF (altP_ok _ 0 (L8 rfl) hb) (next6x2x0 w0 w1 w2 w3 w4 w5)
  | 3, _ => exact evalAF (altP_ok _ 0 (L8 rfl) hb) (next6x3x0 w0 w1 w2 w3 w4 w5)
  | 4, _ => exact evalAF (altP_ok _ 0 (L8 rfl) hb) (next6x4x0 w0 w1 w2 w3 w4 w5)
  | 5, _ => exact evalAF (altP_ok _ 0 (L8 rfl) hb) (next6x5x0 w0 w1 w2 w3 w4 w5)
  | _ + 6, h => omega
theorem then6x1 (w0 w1 w2 w3 w4 w5 : Int) (t : Nat) (ht : t < 6) (hb : bestAt [w0, w1, w2, w3, w4, w5] 6 = ((1 : Nat) : Int)) : CallW DP2 8 [topP 6, stP 6 t, envP [w0, w1, w2, w3, w4, w5]] Heap.empty fun v h1 => V.own v = true ∧ Go.Ab.freeze h1.clean 0 fuelF v = some (if t = 1 then res1 6 t else res2 6 t 1) := by
  match t, ht with
  | 0, _ => exact evalAF (altP_ok _ 1 (L8 rfl) hb) (next6x0x1 w0 w1 w2 w3 w4 w5)
  | 1, _ => exact evalAF (altP_ok _ 1 (L8 rfl) hb) (next6x1x1 w0 w1 w2 w3 w4 w5)
  | 2, _ => exact evalAF (altP_ok _ 1 (L8 rfl) hb) (next6x2x1 w0 w1 w2 w3 w4 w5)
  | 3, _ => exact evalAF (altP_ok _ 1 (L8 rfl) hb) (next6x3x1 w0 w1 w2 w3 w4 w5)
  | 4, _ => exact evalAF (altP_ok _ 1 (L8 rfl) hb) (next6x4x1 w0 w1 w2 w3 w4 w5)
  | 5, _ => exact evalAF (altP_ok _ 1 (L8 rfl) hb) (next6x5x1 w0 w1 w2 w3 w4 w5)
  | _ + 6, h => omega
theorem then6x2 (w0 w1 w2 w3 w4 w5 : Int) (t : Nat) (ht : t < 6) (hb : bestAt [w0, w1, w2, w3, w4, w5] 6 = ((2 : Nat) : Int)) : CallW DP2 8 [topP 6, stP 6 t, envP [w0, w1, w2, w3, w4, w5]] Heap.empty fun v h1 => V.own v = true ∧ Go.Ab.freeze h1.clean 0 fuelF v = some (if t = 2 then res1 6 t else res2 6 t 2) := by
  match t, ht with
  | 0, _ => exact evalAF (altP_ok _ 2 (L8 rfl) hb) (next6x0x2 w0 w1 w2 w3 w4 w5)
  | 1, _ => exact evalAF (altP_ok _ 2 (L8 rfl) hb) (next6x1x2 w0 w1 w2 w3 w4 w5)
  | 2, _ => exact evalAF (altP_ok _ 2 (L8 rfl) hb) (next6x2x2 w0 w1 w2 w3 w4 w5)
  | 3, _ => exact evalAF (altP_ok _ 2 (L8 rfl) hb) (next6x3x2 w0 w1 w2 w3 w4 w5)
  | 4, _ => exact evalAF (altP_ok _ 2 (L8 rfl) hb) (next6x4x2 w0 w1 w2 w3 w4 w5)
  | 5, _ => exact evalAF (altP_ok _ 2 (L8 rfl) hb) (next6x5x2 w0 w1 w2 w3 w4 w5)
  | _ + 6, h => omega
theorem then6x3 (w0 w1 w2 w3 w4 w5 : Int) (t : Nat) (ht : t < 6) (hb : bestAt [w0, w1, w2, w3, w4, w5] 6 = ((3 : Nat) : Int)) : CallW DP2 8 [topP 6, stP 6 t, envP [w0, w1, w2, w3, w4, w5]] Heap.empty fun v h1 => V.own v = true ∧ Go.Ab.freeze h1.clean 0 fuelF v = some (if t = 3 then res1 6 t else res2 6 t 3) := by
  match t, ht with
  | 0, _ => exact evalAF (altP_ok _ 3 (L8 rfl) hb) (next6x0x3 w0 w1 w2 w3 w4 w5)
  | 1, _ => exact evalAF (altP_ok _ 3 (L8 rfl) hb) (next6x1x3 w0 w1 w2 w3 w4 w5)
  | 2, _ => exact evalAF (altP_ok _ 3 (L8 rfl) hb) (next6x2x3 w0 w1 w2 w3 w4 w5)
  | 3, _ => exact evalAF (altP_ok _ 3 (L8 rfl) hb) (next6x3x3 w0 w1 w2 w3 w4 w5)
  | 4, _ => exact evalAF (altP_ok _ 3 (L8 rfl) hb) (next6x4x3 w0 w1 w2 w3 w4 w5)
  | 5, _ => exact evalAF (altP_ok _ 3 (L8 rfl) hb) (next6x5x3 w0 w1 w2 w3 w4 w5)
  | _ + 6, h => omega
theorem then6x4 (w0 w1 w2 w3 w4 w5 : Int) (t : Nat) (ht : t < 6) (hb : bestAt [w0, w1, w2, w3, w4, w5] 6 = ((4 : Nat) : Int)) : CallW DP2 8 [topP 6, stP 6 t, envP [w0, w1, w2, w3, w4, w5]] Heap.empty fun v h1 => V.own v = true ∧ Go.Ab.freeze h1.clean 0 fuelF v = some (if t = 4 then res1 6 t else res2 6 t 4) := by
  match t, ht with
  | 0, _ => exact evalAF (altP_ok _ 4 (L8 rfl) hb) (next6x0x4 w0 w1 w2 w3 w4 w5)
  | 1, _ => exact evalAF (altP_ok _ 4 (L8 rfl) hb) (next6x1x4 w0 w1 w2 w3 w4 w5)
  | 2, _ => exact evalAF (altP_ok _ 4 (L8 rfl) hb) (next6x2x4 w0 w1 w2 w3 w4 w5)
  | 3, _ => exact evalAF (altP_ok _ 4 (L8 rfl) hb) (next6x3x4 w0 w1 w2 w3 w4 w5)
  | 4, _ => exact evalAF (altP_ok _ 4 (L8 rfl) hb) (next6x4x4 w0 w1 w2 w3 w4 w5)
  | 5, _ => exact evalAF (altP_ok _ 4 (L8 rfl) hb) (next6x5x4 w0 w1 w2 w3 w4 w5)
  | _ + 6, h => omega
theorem then6x5 (w0 w1 w2 w3 w4 w5 : Int) (t : Nat) (ht : t < 6) (hb : bestAt [w0, w1, w2, w3, w4, w5] 6 = ((5 : Nat) : Int)) : CallW DP2 8 [topP 6, stP 6 t, envP [w0, w1, w2, w3, w4, w5]] Heap.empty fun v h1 => V.own v = true ∧ Go.Ab.freeze h1.clean 0 fuelF v = some (if t = 5 then res1 6 t else res2 6 t 5) := by
  match t, ht with
  | 0, _ => exact evalAF (altP_ok _ 5 (L8 rfl) hb) (next6x0x5 w0 w1 w2 w3 w4 w5)
  | 1, _ => exact evalAF (altP_ok _ 5 (L8 rfl) hb) (next6x1x5 w0 w1 w2 w3 w4 w5)
  | 2, _ => exact evalAF (altP_ok _ 5 (L8 rfl) hb) (next6x2x5 w0 w1 w2 w3 w4 w5)
  | 3, _ => exact evalAF (altP_ok _ 5 (L8 rfl) hb) (next6x3x5 w0 w1 w2 w3 w4 w5)
  | 4, _ => exact evalAF (altP_ok _ 5 (L8 rfl) hb) (next6x4x5 w0 w1 w2 w3 w4 w5)
  | 5, _ => exact evalAF (altP_ok _ 5 (L8 rfl) hb) (next6x5x5 w0 w1 w2 w3 w4 w5)
  | _ + 6, h => omega
theorem first7 (w0 w1 w2 w3 w4 w5 w6 : Int) (t : Nat) (ht : t < 7) (hb : bestAt [w0, w1, w2, w3, w4, w5, w6] 7 = (t : Nat)) : CallW DP2 8 [topP 7, .nilsl, envP [w0, w1, w2, w3, w4, w5, w6]] Heap.empty fun v h1 => V.own v = true ∧ Go.Ab.freeze h1.clean 0 fuelF v = some (res1 7 t) := by
  match t, ht, hb with
  | 0, _, hb => exact evalAF (altP_ok _ 0 (L8 rfl) hb) (tick7x0 w0 w1 w2 w3 w4 w5 w6)
  | 1, _, hb => exact evalAF (altP_ok _ 1 (L8 rfl) hb) (tick7x1 w0 w1 w2 w3 w4 w5 w6)
  | 2, _, hb => exact evalAF (altP_ok _ 2 (L8 rfl) hb) (tick7x2 w0 w1 w2 w3 w4 w5 w6)
  | 3, _, hb => exact evalAF (altP_ok _ 3 (L8 rfl) hb) (tick7x3 w0 w1 w2 w3 w4 w5 w6)
  | 4, _, hb => exact evalAF (altP_ok _ 4 (L8 rfl) hb) (tick7x4 w0 w1 w2 w3 w4 w5 w6)
  | 5, _, hb => exact evalAF (altP_ok _ 5 (L8 rfl) hb) (tick7x5 w0 w1 w2 w3 w4 w5 w6)
  | 6, _, hb => exact evalAF (altP_ok _ 6 (L8 rfl) hb) (tick7x6 w0 w1 w2 w3 w4 w5 w6)
  | _ + 7, h, _ => omega
theorem then7x0 (w0 w1 w2 w3 w4 w5 w6 : Int) (t : Nat) (ht : t < 7) (hb : bestAt [w0, w1, w2, w3, w4, w5, w6] 7 = ((0 : Nat) : Int)) : CallW DP2 8 [topP 7, stP 7 t, envP [w0, w1, w2, w3, w4, w5, w6]] Heap.empty fun v h1 => V.own v = true ∧ Go.Ab.freeze h1.clean 0 fuelF v = some (if t = 0 then res1 7 t else res2 7 t 0) := by
  match t, ht with
  | 0, _ => exact evalAF (altP_ok _ 0 (L8 rfl) hb) (next7x0x0 w0 w1 w2 w3 w4 w5 w6)
  | 1, _ => exact evalAF (altP_ok _ 0 (L8 rfl) hb) (next7x1x0 w0 w1 w2 w3 w4 w5 w6)
  | 2, _ => exact evalAF (altP_ok _ 0 (L8 rfl) hb) (next7x2x0 w0 w1 w2 w3 w4 w5 w6)
  | 3, _ => exact evalAF (altP_ok _ 0 (L8 rfl) hb) (next7x3x0 w0 w1 w2 w3 w4 w5 w6)
  | 4, _ => exact evalAF (altP_ok _ 0 (L8 rfl) hb) (next7x4x0 w0 w1 w2 w3 w4 w5 w6)
  | 5, _ => exact evalAF (altP_ok _ 0 (L8 rfl) hb) (next7x5x0 w0 w1 w2 w3 w4 w5 w6)
  | 6, _ => exact evalAF (altP_ok _ 0 (L8 rfl) hb) (next7x6x0 w0 w1 w2 w3 w4 w5 w6)
  | _ + 7, h => omega
theorem then7x1 (w0 w1 w2 w3 w4 w5 w6 : Int) (t : Nat) (ht : t < 7) (hb : bestAt [w0, w1, w2, w3, w4, w5, w6] 7 = ((1 : Nat) : Int)) : CallW DP2 8 [topP 7, stP 7 t, envP [w0, w1, w2, w3, w4, w5, w6]] Heap.empty fun v h1 => V.own v = true ∧ Go.Ab.freeze h1.clean 0 fuelF v = some (if t = 1 then res1 7 t else res2 7 t 1) := by
  match t, ht with
  | 0, _ => exact evalAF (altP_ok _ 1 (L8 rfl) hb) (next7x0x1 w0 w1 w2 w3 w4 w5 w6)
  | 1, _ => exact evalAF (altP_ok _ 1 (L8 rfl) hb) (next7x1x1 w0 w1 w2 w3 w4 w5 w6)
  | 2, _ => exact evalAF (altP_ok _ 1 (L8 rfl) hb) (next7x2x1 w0 w1 w2 w3 w4 w5 w6)
  | 3, _ => exact evalAF (altP_ok _ 1 (L8 rfl) hb) (next7x3x1 w0 w1 w2 w3 w4 w5 w6)
  | 4, _ => exact evalAF (altP_ok _ 1 (L8 rfl) hb) (next7x4x1 w0 w1 w2 w3 w4 w5 w6)
  | 5, _ => exact evalAF (altP_ok _ 1 (L8 rfl) hb) (next7x5x1 w0 w1 w2 w3 w4 w5 w6)
  | 6, _ => exact evalAF (altP_ok _ 1 (L8 rfl) hb) (next7x6x1 w0 w1 w2 w3 w4 w5 w6)
  | _ + 7, h => omega
theorem then7x2 (w0 w1 w2 w3 w4 w5 w6 : Int) (t : Nat) (ht : t < 7) (hb : bestAt [w0, w1, w2, w3, w4, w5, w6] 7 = ((2 : Nat) : Int)) : CallW DP2 8 [topP 7, stP 7 t, envP [w0, w1, w2, w3, w4, w5, w6]] Heap.empty fun v h1 => V.own v = true ∧ Go.Ab.freeze h1.clean 0 fuelF v = some (if t = 2 then res1 7 t else res2 7 t 2) := by
  match t, ht with
  | 0, _ => exact evalAF (altP_ok _ 2 (L8 rfl) hb) (next7x0x2 w0 w1 w2 w3 w4 w5 w6)
  | 1, _ => exact evalAF (altP_ok _ 2 (L8 rfl) hb) (next7x1x2 w0 w1 w2 w3 w4 w5 w6)
  | 2, _ => exact evalAF (altP_ok _ 2 (L8 rfl) hb) (next7x2x2 w0 w1 w2 w3 w4 w5 w6)
  | 3, _ => exact evalAF (altP_ok _ 2 (L8 rfl) hb) (next7x3x2 w0 w1 w2 w3 w4 w5 w6)
  | 4, _ => exact evalAF (altP_ok _ 2 (L8 rfl) hb) (next7x4x2 w0 w1 w2 w3 w4 w5 w6)
  | 5, _ => exact evalAF (altP_ok _ 2 (L8 rfl) hb) (next7x5x2 w0 w1 w2 w3 w4 w5 w6)
  | 6, _ => exact evalAF (altP_ok _ 2 (L8 rfl) hb) (next7x6x2 w0 w1 w2 w3 w4 w5 w6)
  | _ + 7, h => omega
theorem then7x3 (w0 w1 w2 w3 w4 w5 w6 : Int) (t : Nat) (ht : t < 7) (hb : bestAt [w0, w1, w2, w3, w4, w5, w6] 7 = ((3 : Nat) : Int)) : CallW DP2 8 [topP 7, stP 7 t, envP [w0, w1, w2, w3, w4, w5, w6]] Heap.empty fun v h1 => V.own v = true ∧ Go.Ab.freeze h1.clean 0 fuelF v = some (if t = 3 then res1 7 t else res2 7 t 3) := by
  match t, ht with
  | 0, _ => exact evalAF (altP_ok _ 3 (L8 rfl) hb) (next7x0x3 w0 w1 w2 w3 w4 w5 w6)
  | 1, _ => exact evalAF (altP_ok _ 3 (L8 rfl) hb) (next7x1x3 w0 w1 w2 w3 w4 w5 w6)
  | 2, _ => exact evalAF (altP_ok _ 3 (L8 rfl) hb) (next7x2x3 w0 w1 w2 w3 w4 w5 w6)
  | 3, _ => exact evalAF (altP_ok _ 3 (L8 rfl) hb) (next7x3x3 w0 w1 w2 w3 w4 w5 w6)
  | 4, _ => exact evalAF (altP_ok _ 3 (L8 rfl) hb) (next7x4x3 w0 w1 w2 w3 w4 w5 w6)
  | 5, _ => exact evalAF (altP_ok _ 3 (L8 rfl) hb) (next7x5x3 w0 w1 w2 w3 w4 w5 w6)
  | 6, _ => exact evalAF (altP_ok _ 3 (L8 rfl) hb) (next7x6x3 w0 w1 w2 w3 w4 w5 w6)
  | _ + 7, h => omega
theorem then7x4 (w0 w1 w2 w3 w4 w5 w6 : Int) (t : Nat) (ht : t < 7) (hb : bestAt [w0, w1, w2, w3, w4, w5, w6] 7 = ((4 : Nat) : Int)) : CallW DP2 8 [topP 7, stP 7 t, envP [w0, w1, w2, w3, w4, w5, w6]] Heap.empty fun v h1 => V.own v = true ∧ Go.Ab.freeze h1.clean 0 fuelF v = some (if t = 4 then res1 7 t else res2 7 t 4) := by
  match t, ht with
  | 0, _ => exact evalAF (altP_ok _ 4 (L8 rfl) hb) (next7x0x4 w0 w1 w2 w3 w4 w5 w6)
  | 1, _ => exact evalAF (altP_ok _ 4 (L8 rfl) hb) (next7x1x4 w0 w1 w2 w3 w4 w5 w6)
  | 2, _ => exact evalAF (altP_ok _ 4 (L8 rfl) hb) (next7x2x4 w0 w1 w2 w3 w4 w5 w6)
  | 3, _ => exact evalAF (altP_ok _ 4 (L8 rfl) hb) (next7x3x4 w0 w1 w2 w3 w4 w5 w6)
  | 4, _ => exact evalAF (altP_ok _ 4 (L8 rfl) hb) (next7x4x4 w0 w1 w2 w3 w4 w5 w6)
  | 5, _ => exact evalAF (altP_ok _ 4 (L8 rfl) hb) (next7x5x4 w0 w1 w2 w3 w4 w5 w6)
  | 6, _ => exact evalAF (altP_ok _ 4 (L8 rfl) hb) (next7x6x4 w0 w1 w2 w3 w4 w5 w6)
  | _ + 7, h => omega
theorem then7x5 (w0 w1 w2 w3 w4 w5 w6 : Int) (t : Nat) (ht : t < 7) (hb : bestAt [w0, w1, w2, w3, w4, w5, w6] 7 = ((5 : Nat) : Int)) : CallW DP2 8 [topP 7, stP 7 t, envP [w0, w1, w2, w3, w4, w5, w6]] Heap.empty fun v h1 => V.own v = true ∧ Go.Ab.freeze h1.clean 0 fuelF v = some (if t = 5 then res1 7 t else res2 7 t 5) := by
  match t, ht with
  | 0, _ => exact evalAF (altP_ok _ 5 (L8 rfl) hb) (next7x0x5 w0 w1 w2 w3 w4 w5 w6)
  | 1, _ => exact evalAF (altP_ok _ 5 (L8 rfl) hb) (next7x1x5 w0 w1 w2 w3 w4 w5 w6)
  | 2, _ => exact evalAF (altP_ok _ 5 (L8 rfl) hb) (next7x2x5 w0 w1 w2 w3 w4 w5 w6)
  | 3, _ => exact evalAF (altP_ok _ 5 (L8 rfl) hb) (next7x3x5 w0 w1 w2 w3 w4 w5 w6)
  | 4, _ => exact evalAF (altP_ok _ 5 (L8 rfl) hb) (next7x4x5 w0 w1 w2 w3 w4 w5 w6)
  | 5, _ => exact evalAF (altP_ok _ 5 (L8 rfl) hb) (next7x5x5 w0 w1 w2 w3 w4 w5 w6)
  | 6, _ => exact evalAF (altP_ok _ 5 (L8 rfl) hb) (next7x6x5 w0 w1 w2 w3 w4 w5 w6)
  | _ + 7, h => omega
theorem then7x6 (w0 w1 w2 w3 w4 w5 w6 : Int) (t : Nat) (ht : t < 7) (hb : bestAt [w0, w1, w2, w3, w4, w5, w6] 7 = ((6 : Nat) : Int)) : CallW DP2 8 [topP 7, stP 7 t, envP [w0, w1, w2, w3, w4, w5, w6]] Heap.empty fun v h1 => V.own v = true ∧ Go.Ab.freeze h1.clean 0 fuelF v = some (if t = 6 then res1 7 t else res2 7 t 6) := by
  match t, ht with
  | 0, _ => exact evalAF (altP_ok _ 6 (L8 rfl) hb) (next7x0x6 w0 w1 w2 w3 w4 w5 w6)
  | 1, _ => exact evalAF (altP_ok _ 6 (L8 rfl) hb) (next7x1x6 w0 w1 w2 w3 w4 w5 w6)
  | 2, _ => exact evalAF (altP_ok _ 6 (L8 rfl) hb) (next7x2x6 w0 w1 w2 w3 w4 w5 w6)
  | 3, _ => exact evalAF (altP_ok _ 6 (L8 rfl) hb) (next7x3x6 w0 w1 w2 w3 w4 w5 w6)
  | 4, _ => exact evalAF (altP_ok _ 6 (L8 rfl) hb) (next7x4x6 w0 w1 w2 w3 w4 w5 w6)
  | 5, _ => exact evalAF (altP_ok _ 6 (L8 rfl) hb) (next7x5x6 w0 w1 w2 w3 w4 w5 w6)
  | 6, _ => exact evalAF (altP_ok _ 6 (L8 rfl) hb) (next7x6x6 w0 w1 w2 w3 w4 w5 w6)
  | _ + 7, h => omega
theorem first8 (w0 w1 w2 w3 w4 w5 w6 w7 : Int) (t : Nat) (ht : t < 8) (hb : bestAt [w0, w1, w2, w3, w4, w5, w6, w7] 8 = (t : Nat)) : CallW DP2 8 [topP 8, .nilsl, envP [w0, w1, w2, w3, w4, w5, w6, w7]] Heap.empty fun v h1 => V.own v = true ∧ Go.Ab.freeze h1.clean 0 fuelF v = some (res1 8 t) := by
  match t, ht, hb with
  | 0, _, hb => exact evalAF (altP_ok _ 0 (L8 rfl) hb) (tick8x0 w0 w1 w2 w3 w4 w5 w6 w7)
  | 1, _, hb => exact evalAF (altP_ok _ 1 (L8 rfl) hb) (tick8x1 w0 w1 w2 w3 w4 w5 w6 w7)
  | 2, _, hb => exact evalAF (altP_ok _ 2 (L8 rfl) hb) (tick8x2 w0 w1 w2 w3 w4 w5 w6 w7)
  | 3, _, hb => exact evalAF (altP_ok _ 3 (L8 rfl) hb) (tick8x3 w0 w1 w2 w3 w4 w5 w6 w7)
  | 4, _, hb => exact evalAF (altP_ok _ 4 (L8 rfl) hb) (tick8x4 w0 w1 w2 w3 w4 w5 w6 w7)
  | 5, _, hb => exact evalAF (altP_ok _ 5 (L8 rfl) hb) (tick8x5 w0 w1 w2 w3 w4 w5 w6 w7)
  | 6, _, hb => exact evalAF (altP_ok _ 6 (L8 rfl) hb) (tick8x6 w0 w1 w2 w3 w4 w5 w6 w7)
  | 7, _, hb => exact evalAF (altP_ok _ 7 (L8 rfl) hb) (tick8x7 w0 w1 w2 w3 w4 w5 w6 w7)
  | _ + 8, h, _ => omega
theorem then8x0 (w0 w1 w2 w3 w4 w5 w6 w7 : Int) (t : Nat) (ht : t < 8) (hb : bestAt [w0, w1, w2, w3, w4, w5, w6, w7] 8 = ((0 : Nat) : Int)) : CallW DP2 8 [topP 8, stP 8 t, envP [w0, w1, w2, w3, w4, w5, w6, w7]] Heap.empty fun v h1 => V.own v = true ∧ Go.Ab.freeze h1.clean 0 fuelF v = some (if t = 0 then res1 8 t else res2 8 t 0) := by
  match t, ht with
  | 0, _ => exact evalAF (altP_ok _ 0 (L8 rfl) hb) (next8x0x0 w0 w1 w2 w3 w4 w5 w6 w7)
  | 1, _ => exact evalAF (altP_ok _ 0 (L8 rfl) hb) (next8x1x0 w0 w1 w2 w3 w4 w5 w6 w7)
  | 2, _ => exact evalAF (altP_ok _ 0 (L8 rfl) hb) (next8x2x0 w0 w1 w2 w3 w4 w5 w6 w7)
  | 3, _ => exact evalAF (altP_ok _ 0 (L8 rfl) hb) (next8x3x0 w0 w1 w2 w3 w4 w5 w6 w7)
  | 4, _ => exact evalAF (altP_ok _ 0 (L8 rfl) hb) (next8x4x0 w0 w1 w2 w3 w4 w5 w6 w7)
  | 5, _ => exact evalAF (altP_ok _ 0 (L8 rfl) hb) (next8x5x0 w0 w1 w2 w3 w4 w5 w6 w7)
  | 6, _ => exact evalAF (altP_ok _ 0 (L8 rfl) hb) (next8x6x0 w0 w1 w2 w3 w4 w5 w6 w7)
  | 7, _ => exact evalAF (altP_ok _ 0 (L8 rfl) hb) (next8x7x0 w0 w1 w2 w3 w4 w5 w6 w7)
  | _ + 8, h => omega
theorem then8x1 (w0 w1 w2 w3 w4 w5 w6 w7 : Int) (t : Nat) (ht : t < 8) (hb : bestAt [w0, w1, w2, w3, w4, w5, w6, w7] 8 = ((1 : Nat) : Int)) : CallW DP2 8 [topP 8, stP 8 t, envP [w0, w1, w2, w3, w4, w5, w6, w7]] Heap.empty fun v h1 => V.own v = true ∧ Go.Ab.freeze h1.clean 0 fuelF v = some (if t = 1 then res1 8 t else res2 8 t 1) := by
  match t, ht with
  | 0, _ => exact evalAF (altP_ok _ 1 (L8 rfl) hb) (next8x0x1 w0 w1 w2 w3 w4 w5 w6 w7)
  | 1, _ => exact evalAF (altP_ok _ 1 (L8 rfl) hb) (next8x1x1 w0 w1 w2 w3 w4 w5 w6 w7)
  | 2, _ => exact evalAF (altP_ok _ 1 (L8 rfl) hb) (next8x2x1 w0 w1 w2 w3 w4 w5 w6 w7)
  | 3, _ => exact evalAF (altP_ok _ 1 (L8 rfl) hb) (next8x3x1 w0 w1 w2 w3 w4 w5 w6 w7)
  | 4, _ => exact evalAF (altP_ok _ 1 (L8 rfl) hb) (next8x4x1 w0 w1 w2 w3 w4 w5 w6 w7)
  | 5, _ => exact evalAF (altP_ok _ 1 (L8 rfl) hb) (next8x5x1 w0 w1 w2 w3 w4 w5 w6 w7)
  | 6, _ => exact evalAF (altP_ok _ 1 (L8 rfl) hb) (next8x6x1 w0 w1 w2 w3 w4 w5 w6 w7)
  | 7, _ => exact evalAF (altP_ok _ 1 (L8 rfl) hb) (next8x7x1 w0 w1 w2 w3 w4 w5 w6 w7)
  | _ + 8, h => omega
theorem then8x2 (w0 w1 w2 w3 w4 w5 w6 w7 : Int) (t : Nat) (ht : t < 8) (hb : bestAt [w0, w1, w2, w3, w4, w5, w6, w7] 8 = ((2 : Nat) : Int)) : CallW DP2 8 [topP 8, stP 8 t, envP [w0, w1, w2, w3, w4, w5, w6, w7]] Heap.empty fun v h1 => V.own v = true ∧ Go.Ab.freeze h1.clean 0 fuelF v = some (if t = 2 then res1 8 t else res2 8 t 2) := by
  match t, ht with
  | 0, _ => exact evalAF (altP_ok _ 2 (L8 rfl) hb) (next8x0x2 w0 w1 w2 w3 w4 w5 w6 w7)
  | 1, _ => exact evalAF (altP_ok _ 2 (L8 rfl) hb) (next8x1x2 w0 w1 w2 w3 w4 w5 w6 w7)
  | 2, _ => exact evalAF (altP_ok _ 2 (L8 rfl) hb) (next8x2x2 w0 w1 w2 w3 w4 w5 w6 w7)
  | 3, _ => exact evalAF (altP_ok _ 2 (L8 rfl) hb) (next8x3x2 w0 w1 w2 w3 w4 w5 w6 w7)
  | 4, _ => exact evalAF (altP_ok _ 2 (L8 rfl) hb) (next8x4x2 w0 w1 w2 w3 w4 w5 w6 w7)
  | 5, _ => exact evalAF (altP_ok _ 2 (L8 rfl) hb) (next8x5x2 w0 w1 w2 w3 w4 w5 w6 w7)
  | 6, _ => exact evalAF (altP_ok _ 2 (L8 rfl) hb) (next8x6x2 w0 w1 w2 w3 w4 w5 w6 w7)
  | 7, _ => exact evalAF (altP_ok _ 2 (L8 rfl) hb) (next8x7x2 w0 w1 w2 w3 w4 w5 w6 w7)
  | _ + 8, h => omega
theorem then8x3 (w0 w1 w2 w3 w4 w5 w6 w7 : Int) (t : Nat) (ht : t < 8) (hb : bestAt [w0, w1, w2, w3, w4, w5, w6, w7] 8 = ((3 : Nat) : Int)) : CallW DP2 8 [topP 8, stP 8 t, envP [w0, w1, w2, w3, w4, w5, w6, w7]] Heap.empty fun v h1 => V.own v = true ∧ Go.Ab.freeze h1.clean 0 fuelF v = some (if t = 3 then res1 8 t else res2 8 t 3) := by
  match t, ht with
  | 0, _ => exact evalAF (altP_ok _ 3 (L8 rfl) hb) (next8x0x3 w0 w1 w2 w3 w4 w5 w6 w7)
  | 1, _ => exact evalAF (altP_ok _ 3 (L8 rfl) hb) (next8x1x3 w0 w1 w2 w3 w4 w5 w6 w7)
  | 2, _ => exact evalAF (altP_ok _ 3 (L8 rfl) hb) (next8x2x3 w0 w1 w2 w3 w4 w5 w6 w7)
  | 3, _ => exact evalAF (altP_ok _ 3 (L8 rfl) hb) (next8x3x3 w0 w1 w2 w3 w4 w5 w6 w7)
  | 4, _ => exact evalAF (altP_ok _ 3 (L8 rfl) hb) (next8x4x3 w0 w1 w2 w3 w4 w5 w6 w7)
  | 5, _ => exact evalAF (altP_ok _ 3 (L8 rfl) hb) (next8x5x3 w0 w1 w2 w3 w4 w5 w6 w7)
  | 6, _ => exact evalAF (altP_ok _ 3 (L8 rfl) hb) (next8x6x3 w0 w1 w2 w3 w4 w5 w6 w7)
  | 7, _ => exact evalAF (altP_ok _ 3 (L8 rfl) hb) (next8x7x3 w0 w1 w2 w3 w4 w5 w6 w7)
  | _ + 8, h => omega
theorem then8x4 (w0 w1 w2 w3 w4 w5 w6 w7 : Int) (t : Nat) (ht : t < 8) (hb : bestAt [w0, w1, w2, w3, w4, w5, w6, w7] 8 = ((4 : Nat) : Int)) : CallW DP2 8 [topP 8, stP 8 t, envP [w0, w1, w2, w3, w4, w5, w6, w7]] Heap.empty fun v h1 => V.own v = true ∧ Go.Ab.freeze h1.clean 0 fuelF v = some (if t = 4 then res1 8 t else res2 8 t 4) := by
  match t, ht with
  | 0, _ => exact evalAF (altP_ok _ 4 (L8 rfl) hb) (next8x0x4 w0 w1 w2 w3 w4 w5 w6 w7)
  | 1, _ => exact evalAF (altP_ok _ 4 (L8 rfl) hb) (next8x1x4 w0 w1 w2 w3 w4 w5 w6 w7)
  | 2, _ => exact evalAF (altP_ok _ 4 (L8 rfl) hb) (next8x2x4 w0 w1 w2 w3 w4 w5 w6 w7)
  | 3, _ => exact evalAF (altP_ok _ 4 (L8 rfl) hb) (next8x3x4 w0 w1 w2 w3 w4 w5 w6 w7)
  | 4, _ => exact evalAF (altP_ok _ 4 (L8 rfl) hb) (next8x4x4 w0 w1 w2 w3 w4 w5 w6 w7)
  | 5, _ => exact evalAF (altP_ok _ 4 (L8 rfl) hb) (next8x5x4 w0 w1 w2 w3 w4 w5 w6 w7)
  | 6, _ => exact evalAF (altP_ok _ 4 (L8 rfl) hb) (next8x6x4 w0 w1 w2 w3 w4 w5 w6 w7)
  | 7, _ => exact evalAF (altP_ok _ 4 (L8 rfl) hb) (next8x7x4 w0 w1 w2 w3 w4 w5 w6 w7)
  | _ + 8, h => omega
theorem then8x5 (w0 w1 w2 w3 w4 w5 w6 w7 : Int) (t : Nat) (ht : t < 8) (hb : bestAt [w0, w1, w2, w3, w4, w5, w6, w7] 8 = ((5 : Nat) : Int)) : CallW DP2 8 [topP 8, stP 8 t, envP [w0, w1, w2, w3, w4, w5, w6, w7]] Heap.empty fun v h1 => V.own v = true ∧ Go.Ab.freeze h1.clean 0 fuelF v = some (if t = 5 then res1 8 t else res2 8 t 5) := by
  match t, ht with
  | 0, _ => exact evalAF (altP_ok _ 5 (L8 rfl) hb) (next8x0x5 w0 w1 w2 w3 w4 w5 w6 w7)
  | 1, _ => exact evalAF (altP_ok _ 5 (L8 rfl) hb) (next8x1x5 w0 w1 w2 w3 w4 w5 w6 w7)
  | 2, _ => exact evalAF (altP_ok _ 5 (L8 rfl) hb) (next8x2x5 w0 w1 w2 w3 w4 w5 w6 w7)
  | 3, _ => exact evalAF (altP_ok _ 5 (L8 rfl) hb) (next8x3x5 w0 w1 w2 w3 w4 w5 w6 w7)
  | 4, _ => exact evalAF (altP_ok _ 5 (L8 rfl) hb) (next8x4x5 w0 w1 w2 w3 w4 w5 w6 w7)
  | 5, _ => exact evalAF (altP_ok _ 5 (L8 rfl) hb) (next8x5x5 w0 w1 w2 w3 w4 w5 w6 w7)
  | 6, _ => exact evalAF (altP_ok _ 5 (L8 rfl) hb) (next8x6x5 w0 w1 w2 w3 w4 w5 w6 w7)
  | 7, _ => exact evalAF (altP_ok _ 5 (L8 rfl) hb) (next8x7x5 w0 w1 w2 w3 w4 w5 w6 w7)
  | _ + 8, h => omega
theorem then8x6 (w0 w1 w2 w3 w4 w5 w6 w7 : Int) (t : Nat) (ht : t < 8) (hb : bestAt [w0, w1, w2, w3, w4, w5, w6, w7] 8 = ((6 : Nat) : Int)) : CallW DP2 8 [topP 8, stP 8 t, envP [w0, w1, w2, w3, w4, w5, w6, w7]] Heap.empty fun v h1 => V.own v = true ∧ Go.Ab.freeze h1.clean 0 fuelF v = some (if t = 6 then res1 8 t else res2 8 t 6) := by
  match t, ht with
  | 0, _ => exact evalAF (altP_ok _ 6 (L8 rfl) hb) (next8x0x6 w0 w1 w2 w3 w4 w5 w6 w7)
  | 1, _ => exact evalAF (altP_ok _ 6 (L8 rfl) hb) (next8x1x6 w0 w1 w2 w3 w4 w5 w6 w7)
  | 2, _ => exact evalAF (altP_ok _ 6 (L8 rfl) hb) (next8x2x6 w0 w1 w2 w3 w4 w5 w6 w7)
  | 3, _ => exact evalAF (altP_ok _ 6 (L8 rfl) hb) (next8x3x6 w0 w1 w2 w3 w4 w5 w6 w7)
  | 4, _ => exact evalAF (altP_ok _ 6 (L8 rfl) hb) (next8x4x6 w0 w1 w2 w3 w4 w5 w6 w7)
  | 5, _ => exact evalAF (altP_ok _ 6 (L8 rfl) hb) (next8x5x6 w0 w1 w2 w3 w4 w5 w6 w7)
  | 6, _ => exact evalAF (altP_ok _ 6 (L8 rfl) hb) (next8x6x6 w0 w1 w2 w3 w4 w5 w6 w7)
  | 7, _ => exact evalAF (altP_ok _ 6 (L8 rfl) hb) (next8x7x6 w0 w1 w2 w3 w4 w5 w6 w7)
  | _ + 8, h => omega
theorem then8x7 (w0 w1 w2 w3 w4 w5 w6 w7 : Int) (t : Nat) (ht : t < 8) (hb : bestAt [w0, w1, w2, w3, w4, w5, w6, w7] 8 = ((7 : Nat) : Int)) : CallW DP2 8 [topP 8, stP 8 t, envP [w0, w1, w2, w3, w4, w5, w6, w7]] Heap.empty fun v h1 => V.own v = true ∧ Go.Ab.freeze h1.clean 0 fuelF v = some (if t = 7 then res1 8 t else res2 8 t 7) := by
  match t, ht with
  | 0, _ => exact evalAF (altP_ok _ 7 (L8 rfl) hb) (next8x0x7 w0 w1 w2 w3 w4 w5 w6 w7)
  | 1, _ => exact evalAF (altP_ok _ 7 (L8 rfl) hb) (next8x1x7 w0 w1 w2 w3 w4 w5 w6 w7)
  | 2, _ => exact evalAF (altP_ok _ 7 (L8 rfl) hb) (next8x2x7 w0 w1 w2 w3 w4 w5 w6 w7)
  | 3, _ => exact evalAF (altP_ok _ 7 (L8 rfl) hb) (next8x3x7 w0 w1 w2 w3 w4 w5 w6 w7)
  | 4, _ => exact evalAF (altP_ok _ 7 (L8 rfl) hb) (next8x4x7 w0 w1 w2 w3 w4 w5 w6 w7)
  | 5, _ => exact evalAF (altP_ok _ 7 (L8 rfl) hb) (next8x5x7 w0 w1 w2 w3 w4 w5 w6 w7)
  | 6, _ => exact evalAF (altP_ok _ 7 (L8 rfl) hb) (next8x6x7 w0 w1 w2 w3 w4 w5 w6 w7)
  | 7, _ => exact evalAF (altP_ok _ 7 (L8 rfl) hb) (next8x7x7 w0 w1 w2 w3 w4 w5 w6 w7)
  | _ + 8, h => omega
theorem tick_all (l : List Int) (h1 : 1 ≤ l.length) (h2 : l.length ≤ 8) (t : Nat) (ht : t < l.length) (hb : bestAt l l.length = (t : Nat)) : CallW DP2 8 [topP l.length, .nilsl, envP l] Heap.empty fun v h1 => V.own v = true ∧ Go.Ab.freeze h1.clean 0 fuelF v = some (res1 l.length t) := by
  match l, h1, h2, ht, hb with
  | [], h, _, _, _ => cases h
  | [w0], _, _, ht, hb => exact first1 w0 t ht hb
  | [w0, w1], _, _, ht, hb => exact first2 w0 w1 t ht hb
  | [w0, w1, w2], _, _, ht, hb => exact first3 w0 w1 w2 t ht hb
  | [w0, w1, w2, w3], _, _, ht, hb => exact first4 w0 w1 w2 w3 t ht hb
  | [w0, w1, w2, w3, w4], _, _, ht, hb => exact first5 w0 w1 w2 w3 w4 t ht hb
  | [w0, w1, w2, w3, w4, w5], _, _, ht, hb => exact first6 w0 w1 w2 w3 w4 w5 t ht hb
  | [w0, w1, w2, w3, w4, w5, w6], _, _, ht, hb => exact first7 w0 w1 w2 w3 w4 w5 w6 t ht hb
  | [w0, w1, w2, w3, w4, w5, w6, w7], _, _, ht, hb => exact first8 w0 w1 w2 w3 w4 w5 w6 w7 t ht hb
  | _ :: _ :: _ :: _ :: _ :: _ :: _ :: _ :: _ :: r, _, h, _, _ => simp only [List.length_cons] at h; omega
theorem next_all (l : List Int) (h1 : 1 ≤ l.length) (h2 : l.length ≤ 8) (t u : Nat) (ht : t < l.length) (hu : u < l.length) (hb : bestAt l l.length = (u : Nat)) :
    CallW DP2 8 [topP l.length, stP l.length t, envP l] Heap.empty fun v h1 => V.own v = true ∧ Go.Ab.freeze h1.clean 0 fuelF v = some (if t = u then res1 l.length t else res2 l.length t u) := by
  match l, u, h1, h2, ht, hu, hb with
  | [], _, h, _, _, _, _ => cases h
  | [w0], 0, _, _, ht, _, hb => exact then1x0 w0 t ht hb
  | [w0], _ + 1, _, _, _, hu, _ => simp only [List.length_cons, List.length_nil] at hu; omega
  | [w0, w1], 0, _, _, ht, _, hb => exact then2x0 w0 w1 t ht hb
  | [w0, w1], 1, _, _, ht, _, hb => exact then2x1 w0 w1 t ht hb
  | [w0, w1], _ + 2, _, _, _, hu, _ => simp only [List.length_cons, List.length_nil] at hu; omega
  | [w0, w1, w2], 0, _, _, ht, _, hb => exact then3x0 w0 w1 w2 t ht hb
  | [w0, w1, w2], 1, _, _, ht, _, hb => exact then3x1 w0 w1 w2 t ht hb
  | [w0, w1, w2], 2, _, _, ht, _, hb => exact then3x2 w0 w1 w2 t ht hb
  | [w0, w1, w2], _ + 3, _, _, _, hu, _ => simp only [List.length_cons, List.length_nil] at hu; omega
  | [w0, w1, w2, w3], 0, _, _, ht, _, hb => exact then4x0 w0 w1 w2 w3 t ht hb
  | [w0, w1, w2, w3], 1, _, _, ht, _, hb => exact then4x1 w0 w1 w2 w3 t ht hb
  | [w0, w1, w2, w3], 2, _, _, ht, _, hb => exact then4x2 w0 w1 w2 w3 t ht hb
  | [w0, w1, w2, w3], 3, _, _, ht, _, hb => exact then4x3 w0 w1 w2 w3 t ht hb
  | [w0, w1, w2, w3], _ + 4, _, _, _, hu, _ => simp only [List.length_cons, List.length_nil] at hu; omega
  | [w0, w1, w2, w3, w4], 0, _, _, ht, _, hb => exact then5x0 w0 w1 w2 w3 w4 t ht hb
  | [w0, w1, w2, w3, w4], 1, _, _, ht, _, hb => exact then5x1 w0 w1 w2 w3 w4 t ht hb
  | [w0, w1, w2, w3, w4], 2, _, _, ht, _, hb => exact then5x2 w0 w1 w2 w3 w4 t ht hb
  | [w0, w1, w2, w3, w4], 3, _, _, ht, _, hb => exact then5x3 w0 w1 w2 w3 w4 t ht hb
  | [w0, w1, w2, w3, w4], 4, _, _, ht, _, hb => exact then5x4 w0 w1 w2 w3 w4 t ht hb
  | [w0, w1, w2, w3, w4], _ + 5, _, _, _, hu, _ => simp only [List.length_cons, List.length_nil] at hu; omega
  | [w0, w1, w2, w3, w4, w5], 0, _, _, ht, _, hb => exact then6x0 w0 w1 w2 w3 w4 w5 t ht hb
  | [w0, w1, w2, w3, w4, w5], 1, _, _, ht, _, hb => exact then6x1 w0 w1 w2 w3 w4 w5 t ht hb
  | [w0, w1, w2, w3, w4, w5], 2, _, _, ht, _, hb => exact then6x2 w0 w1 w2 w3 w4 w5 t ht hb
  | [w0, w1, w2, w3, w4, w5], 3, _, _, ht, _, hb => exact then6x3 w0 w1 w2 w3 w4 w5 t ht hb
  | [w0, w1, w2, w3, w4, w5], 4, _, _, ht, _, hb => exact then6x4 w0 w1 w2 w3 w4 w5 t ht hb
  | [w0, w1, w2, w3, w4, w5], 5, _, _, ht, _, hb => exact then6x5 w0 w1 w2 w3 w4 w5 t ht hb
  | [w0, w1, w2, w3, w4, w5], _ + 6, _, _, _, hu, _ => simp only [List.length_cons, List.length_nil] at hu; omega
  | [w0, w1, w2, w3, w4, w5, w6], 0, _, _, ht, _, hb => exact then7x0 w0 w1 w2 w3 w4 w5 w6 t ht hb
  | [w0, w1, w2, w3, w4, w5, w6], 1, _, _, ht, _, hb => exact then7x1 w0 w1 w2 w3 w4 w5 w6 t ht hb
  | [w0, w1, w2, w3, w4, w5, w6], 2, _, _, ht, _, hb => exact then7x2 w0 w1 w2 w3 w4 w5 w6 t ht hb
  | [w0, w1, w2, w3, w4, w5, w6], 3, _, _, ht, _, hb => exact then7x3 w0 w1 w2 w3 w4 w5 w6 t ht hb
  | [w0, w1, w2, w3, w4, w5, w6], 4, _, _, ht, _, hb => exact then7x4 w0 w1 w2 w3 w4 w5 w6 t ht hb
  | [w0, w1, w2, w3, w4, w5, w6], 5, _, _, ht, _, hb => exact then7x5 w0 w1 w2 w3 w4 w5 w6 t ht hb
  | [w0, w1, w2, w3, w4, w5, w6], 6, _, _, ht, _, hb => exact then7x6 w0 w1 w2 w3 w4 w5 w6 t ht hb
  | [w0, w1, w2, w3, w4, w5, w6], _ + 7, _, _, _, hu, _ => simp only [List.length_cons, List.length_nil] at hu; omega
  | [w0, w1, w2, w3, w4, w5, w6, w7], 0, _, _, ht, _, hb => exact then8x0 w0 w1 w2 w3 w4 w5 w6 w7 t ht hb
  | [w0, w1, w2, w3, w4, w5, w6, w7], 1, _, _, ht, _, hb => exact then8x1 w0 w1 w2 w3 w4 w5 w6 w7 t ht hb
  | [w0, w1, w2, w3, w4, w5, w6, w7], 2, _, _, ht, _, hb => exact then8x2 w0 w1 w2 w3 w4 w5 w6 w7 t ht hb
  | [w0, w1, w2, w3, w4, w5, w6, w7], 3, _, _, ht, _, hb => exact then8x3 w0 w1 w2 w3 w4 w5 w6 w7 t ht hb
  | [w0, w1, w2, w3, w4, w5, w6, w7], 4, _, _, ht, _, hb => exact then8x4 w0 w1 w2 w3 w4 w5 w6 w7 t ht hb
  | [w0, w1, w2, w3, w4, w5, w6, w7], 5, _, _, ht, _, hb => exact then8x5 w0 w1 w2 w3 w4 w5 w6 w7 t ht hb
  | [w0, w1, w2, w3, w4, w5, w6, w7], 6, _, _, ht, _, hb => exact then8x6 w0 w1 w2 w3 w4 w5 w6 w7 t ht hb
  | [w0, w1, w2, w3, w4, w5, w6, w7], 7, _, _, ht, _, hb => exact then8x7 w0 w1 w2 w3 w4 w5 w6 w7 t ht hb
  | [w0, w1, w2, w3, w4, w5, w6, w7], _ + 8, _, _, _, hu, _ => simp only [List.length_cons, List.length_nil] at hu; omega
  | _ :: _ :: _ :: _ :: _ :: _ :: _ :: _ :: _ :: r, _, _, h, _, _, _ => simp only [List.length_cons] at h; omega
end Go.Proofs.YtfbikhkmamdjmaaGreatDoor.CodesS
