/- A row of actions that goes on where it was, ticked from any state: rows of 10 and 11. -/
import Derived.Test.YtpaadclighadaaaGreatDoorWRG
namespace Go.Proofs.YtpaadclighadaaaGreatDoor.CodesR
open Go Go.Ab
set_option maxRecDepth 100000
theorem upto_of {p : Nat → Bool} : ∀ {n : Nat}, (∀ i, i < n → p i = true) → upto p n = true
  | 0, _ => rfl
  | n + 1, h => by
    unfold upto
    rw [h n (Nat.lt_succ_self n)]
    exact upto_of fun i hi => h i (Nat.lt_succ_of_lt hi)
theorem go10x0j0 : upto (fun o => goTs 10 0 (0 + 0) (o + 1)) 3 = true := by kernel_rfl
theorem go10x0j1 : upto (fun o => goTs 10 0 (0 + 1) (o + 1)) 3 = true := by kernel_rfl
theorem go10x0j2 : upto (fun o => goTs 10 0 (0 + 2) (o + 1)) 3 = true := by kernel_rfl
theorem go10x0j3 : upto (fun o => goTs 10 0 (0 + 3) (o + 1)) 3 = true := by kernel_rfl
theorem go10x0j4 : upto (fun o => goTs 10 0 (0 + 4) (o + 1)) 3 = true := by kernel_rfl
theorem go10x0j5 : upto (fun o => goTs 10 0 (0 + 5) (o + 1)) 3 = true := by kernel_rfl
theorem go10x0j6 : upto (fun o => goTs 10 0 (0 + 6) (o + 1)) 3 = true := by kernel_rfl
theorem go10x0j7 : upto (fun o => goTs 10 0 (0 + 7) (o + 1)) 3 = true := by kernel_rfl
theorem go10x0j8 : upto (fun o => goTs 10 0 (0 + 8) (o + 1)) 3 = true := by kernel_rfl
theorem go10x0j9 : upto (fun o => goTs 10 0 (0 + 9) (o + 1)) 3 = true := by kernel_rfl
theorem go10x0 : goAt 10 0 = true := upto_of (n := 10) fun j hj => by
  rcases (by omega : j = 0 ∨ j = 1 ∨ j = 2 ∨ j = 3 ∨ j = 4 ∨ j = 5 ∨ j = 6 ∨ j = 7 ∨ j = 8 ∨ j = 9) with rfl | rfl | rfl | rfl | rfl | rfl | rfl | rfl | rfl | rfl
  · exact go10x0j0
  · exact go10x0j1
  · exact go10x0j2
  · exact go10x0j3
  · exact go10x0j4
  · exact go10x0j5
  · exact go10x0j6
  · exact go10x0j7
  · exact go10x0j8
  · exact go10x0j9
theorem go10x1j0 : upto (fun o => goTs 10 1 (1 + 0) (o + 1)) 3 = true := by kernel_rfl
theorem go10x1j1 : upto (fun o => goTs 10 1 (1 + 1) (o + 1)) 3 = true := by kernel_rfl
theorem go10x1j2 : upto (fun o => goTs 10 1 (1 + 2) (o + 1)) 3 = true := by kernel_rfl
theorem go10x1j3 : upto (fun o => goTs 10 1 (1 + 3) (o + 1)) 3 = true := by kernel_rfl
theorem go10x1j4 : upto (fun o => goTs 10 1 (1 + 4) (o + 1)) 3 = true := by kernel_rfl
theorem go10x1j5 : upto (fun o => goTs 10 1 (1 + 5) (o + 1)) 3 = true := by kernel_rfl
theorem go10x1j6 : upto (fun o => goTs 10 1 (1 + 6) (o + 1)) 3 = true := by kernel_rfl
theorem go10x1j7 : upto (fun o => goTs 10 1 (1 + 7) (o + 1)) 3 = true := by kernel_rfl
theorem go10x1j8 : upto (fun o => goTs 10 1 (1 + 8) (o + 1)) 3 = true := by kernel_rfl
theorem go10x1 : goAt 10 1 = true := upto_of (n := 9) fun j hj => by
  rcases (by omega : j = 0 ∨ j = 1 ∨ j = 2 ∨ j = 3 ∨ j = 4 ∨ j = 5 ∨ j = 6 ∨ j = 7 ∨ j = 8) with rfl | rfl | rfl | rfl | rfl | rfl | rfl | rfl | rfl
  · exact go10x1j0
  · exact go10x1j1
  · exact go10x1j2
  · exact go10x1j3
  · exact go10x1j4
  · exact go10x1j5
  · exact go10x1j6
  · exact go10x1j7
  · exact go10x1j8
theorem go10x2j0 : upto (fun o => goTs 10 2 (2 + 0) (o + 1)) 3 = true := by kernel_rfl
theorem go10x2j1 : upto (fun o => goTs 10 2 (2 + 1) (o + 1)) 3 = true := by kernel_rfl
theorem go10x2j2 : upto (fun o => goTs 10 2 (2 + 2) (o + 1)) 3 = true := by kernel_rfl
theorem go10x2j3 : upto (fun o => goTs 10 2 (2 + 3) (o + 1)) 3 = true := by kernel_rfl
theorem go10x2j4 : upto (fun o => goTs 10 2 (2 + 4) (o + 1)) 3 = true := by kernel_rfl
theorem go10x2j5 : upto (fun o => goTs 10 2 (2 + 5) (o + 1)) 3 = true := by kernel_rfl
theorem go10x2j6 : upto (fun o => goTs 10 2 (2 + 6) (o + 1)) 3 = true := by kernel_rfl
theorem go10x2j7 : upto (fun o => goTs 10 2 (2 + 7) (o + 1)) 3 = true := by kernel_rfl
theorem go10x2 : goAt 10 2 = true := upto_of (n := 8) fun j hj => by
  rcases (by omega : j = 0 ∨ j = 1 ∨ j = 2 ∨ j = 3 ∨ j = 4 ∨ j = 5 ∨ j = 6 ∨ j = 7) with rfl | rfl | rfl | rfl | rfl | rfl | rfl | rfl
  · exact go10x2j0
  · exact go10x2j1
  · exact go10x2j2
  · exact go10x2j3
  · exact go10x2j4
  · exact go10x2j5
  · exact go10x2j6
  · exact go10x2j7
theorem go10x3 : goAt 10 3 = true := by kernel_rfl
theorem go10x4 : goAt 10 4 = true := by kernel_rfl
theorem go10x5 : goAt 10 5 = true := by kernel_rfl
theorem go10x6 : goAt 10 6 = true := by kernel_rfl
theorem go10x7 : goAt 10 7 = true := by kernel_rfl
theorem go10x8 : goAt 10 8 = true := by kernel_rfl
theorem go10x9 : goAt 10 9 = true := by kernel_rfl
theorem go11x0j0 : upto (fun o => goTs 11 0 (0 + 0) (o + 1)) 3 = true := by kernel_rfl
theorem go11x0j1 : upto (fun o => goTs 11 0 (0 + 1) (o + 1)) 3 = true := by kernel_rfl
theorem go11x0j2 : upto (fun o => goTs 11 0 (0 + 2) (o + 1)) 3 = true := by kernel_rfl
theorem go11x0j3 : upto (fun o => goTs 11 0 (0 + 3) (o + 1)) 3 = true := by kernel_rfl
theorem go11x0j4 : upto (fun o => goTs 11 0 (0 + 4) (o + 1)) 3 = true := by kernel_rfl
theorem go11x0j5 : upto (fun o => goTs 11 0 (0 + 5) (o + 1)) 3 = true := by kernel_rfl
theorem go11x0j6 : upto (fun o => goTs 11 0 (0 + 6) (o + 1)) 3 = true := by kernel_rfl
theorem go11x0j7 : upto (fun o => goTs 11 0 (0 + 7) (o + 1)) 3 = true := by kernel_rfl
theorem go11x0j8 : upto (fun o => goTs 11 0 (0 + 8) (o + 1)) 3 = true := by kernel_rfl
theorem go11x0j9 : upto (fun o => goTs 11 0 (0 + 9) (o + 1)) 3 = true := by kernel_rfl
theorem go11x0j10 : upto (fun o => goTs 11 0 (0 + 10) (o + 1)) 3 = true := by kernel_rfl
theorem go11x0 : goAt 11 0 = true := upto_of (n := 11) fun j hj => by
  rcases (by omega : j = 0 ∨ j = 1 ∨ j = 2 ∨ j = 3 ∨ j = 4 ∨ j = 5 ∨ j = 6 ∨ j = 7 ∨ j = 8 ∨ j = 9 ∨ j = 10) with rfl | rfl | rfl | rfl | rfl | rfl | rfl | rfl | rfl | rfl | rfl
  · exact go11x0j0
  · exact go11x0j1
  · exact go11x0j2
  · exact go11x0j3
  · exact go11x0j4
  · exact go11x0j5
  · exact go11x0j6
  · exact go11x0j7
  · exact go11x0j8
  · exact go11x0j9
  · exact go11x0j10
theorem go11x1j0 : upto (fun o => goTs 11 1 (1 + 0) (o + 1)) 3 = true := by kernel_rfl
theorem go11x1j1 : upto (fun o => goTs 11 1 (1 + 1) (o + 1)) 3 = true := by kernel_rfl
theorem go11x1j2 : upto (fun o => goTs 11 1 (1 + 2) (o + 1)) 3 = true := by kernel_rfl
theorem go11x1j3 : upto (fun o => goTs 11 1 (1 + 3) (o + 1)) 3 = true := by kernel_rfl
theorem go11x1j4 : upto (fun o => goTs 11 1 (1 + 4) (o + 1)) 3 = true := by kernel_rfl
theorem go11x1j5 : upto (fun o => goTs 11 1 (1 + 5) (o + 1)) 3 = true := by kernel_rfl
theorem go11x1j6 : upto (fun o => goTs 11 1 (1 + 6) (o + 1)) 3 = true := by kernel_rfl
theorem go11x1j7 : upto (fun o => goTs 11 1 (1 + 7) (o + 1)) 3 = true := by kernel_rfl
theorem go11x1j8 : upto (fun o => goTs 11 1 (1 + 8) (o + 1)) 3 = true := by kernel_rfl
theorem go11x1j9 : upto (fun o => goTs 11 1 (1 + 9) (o + 1)) 3 = true := by kernel_rfl
theorem go11x1 : goAt 11 1 = true := upto_of (n := 10) fun j hj => by
  rcases (by omega : j = 0 ∨ j = 1 ∨ j = 2 ∨ j = 3 ∨ j = 4 ∨ j = 5 ∨ j = 6 ∨ j = 7 ∨ j = 8 ∨ j = 9) with rfl | rfl | rfl | rfl | rfl | rfl | rfl | rfl | rfl | rfl
  · exact go11x1j0
  · exact go11x1j1
  · exact go11x1j2
  · exact go11x1j3
  · exact go11x1j4
  · exact go11x1j5
  · exact go11x1j6
  · exact go11x1j7
  · exact go11x1j8
  · exact go11x1j9
theorem go11x2j0 : upto (fun o => goTs 11 2 (2 + 0) (o + 1)) 3 = true := by kernel_rfl
theorem go11x2j1 : upto (fun o => goTs 11 2 (2 + 1) (o + 1)) 3 = true := by kernel_rfl
theorem go11x2j2 : upto (fun o => goTs 11 2 (2 + 2) (o + 1)) 3 = true := by kernel_rfl
theorem go11x2j3 : upto (fun o => goTs 11 2 (2 + 3) (o + 1)) 3 = true := by kernel_rfl
theorem go11x2j4 : upto (fun o => goTs 11 2 (2 + 4) (o + 1)) 3 = true := by kernel_rfl
theorem go11x2j5 : upto (fun o => goTs 11 2 (2 + 5) (o + 1)) 3 = true := by kernel_rfl
theorem go11x2j6 : upto (fun o => goTs 11 2 (2 + 6) (o + 1)) 3 = true := by kernel_rfl
theorem go11x2j7 : upto (fun o => goTs 11 2 (2 + 7) (o + 1)) 3 = true := by kernel_rfl
theorem go11x2j8 : upto (fun o => goTs 11 2 (2 + 8) (o + 1)) 3 = true := by kernel_rfl
theorem go11x2 : goAt 11 2 = true := upto_of (n := 9) fun j hj => by
  rcases (by omega : j = 0 ∨ j = 1 ∨ j = 2 ∨ j = 3 ∨ j = 4 ∨ j = 5 ∨ j = 6 ∨ j = 7 ∨ j = 8) with rfl | rfl | rfl | rfl | rfl | rfl | rfl | rfl | rfl
  · exact go11x2j0
  · exact go11x2j1
  · exact go11x2j2
  · exact go11x2j3
  · exact go11x2j4
  · exact go11x2j5
  · exact go11x2j6
  · exact go11x2j7
  · exact go11x2j8
theorem go11x3 : goAt 11 3 = true := by kernel_rfl
theorem go11x4 : goAt 11 4 = true := by kernel_rfl
theorem go11x5 : goAt 11 5 = true := by kernel_rfl
theorem go11x6 : goAt 11 6 = true := by kernel_rfl
theorem go11x7 : goAt 11 7 = true := by kernel_rfl
theorem go11x8 : goAt 11 8 = true := by kernel_rfl
theorem go11x9 : goAt 11 9 = true := by kernel_rfl
theorem go11x10 : goAt 11 10 = true := by kernel_rfl
end Go.Proofs.YtpaadclighadaaaGreatDoor.CodesR
