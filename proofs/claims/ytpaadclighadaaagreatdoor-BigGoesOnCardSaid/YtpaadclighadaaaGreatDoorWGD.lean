/- A row of actions that goes on where it was, ticked from any state: rows of 12. -/
import Derived.Test.YtpaadclighadaaaGreatDoorWRG
import Derived.Test.YtpaadclighadaaaGreatDoorWGC
namespace Go.Proofs.YtpaadclighadaaaGreatDoor.CodesR
open Go Go.Ab
set_option maxRecDepth 100000
theorem go12x0j0 : upto (fun o => goTs 12 0 (0 + 0) (o + 1)) 3 = true := by kernel_rfl
theorem go12x0j1 : upto (fun o => goTs 12 0 (0 + 1) (o + 1)) 3 = true := by kernel_rfl
theorem go12x0j2 : upto (fun o => goTs 12 0 (0 + 2) (o + 1)) 3 = true := by kernel_rfl
theorem go12x0j3 : upto (fun o => goTs 12 0 (0 + 3) (o + 1)) 3 = true := by kernel_rfl
theorem go12x0j4 : upto (fun o => goTs 12 0 (0 + 4) (o + 1)) 3 = true := by kernel_rfl
theorem go12x0j5 : upto (fun o => goTs 12 0 (0 + 5) (o + 1)) 3 = true := by kernel_rfl
theorem go12x0j6 : upto (fun o => goTs 12 0 (0 + 6) (o + 1)) 3 = true := by kernel_rfl
theorem go12x0j7 : upto (fun o => goTs 12 0 (0 + 7) (o + 1)) 3 = true := by kernel_rfl
theorem go12x0j8 : upto (fun o => goTs 12 0 (0 + 8) (o + 1)) 3 = true := by kernel_rfl
theorem go12x0j9 : upto (fun o => goTs 12 0 (0 + 9) (o + 1)) 3 = true := by kernel_rfl
theorem go12x0j10 : upto (fun o => goTs 12 0 (0 + 10) (o + 1)) 3 = true := by kernel_rfl
theorem go12x0j11 : upto (fun o => goTs 12 0 (0 + 11) (o + 1)) 3 = true := by kernel_rfl
theorem go12x0 : goAt 12 0 = true := upto_of (n := 12) fun j hj => by
  rcases (by omega : j = 0 ∨ j = 1 ∨ j = 2 ∨ j = 3 ∨ j = 4 ∨ j = 5 ∨ j = 6 ∨ j = 7 ∨ j = 8 ∨ j = 9 ∨ j = 10 ∨ j = 11) with rfl | rfl | rfl | rfl | rfl | rfl | rfl | rfl | rfl | rfl | rfl | rfl
  · exact go12x0j0
  · exact go12x0j1
  · exact go12x0j2
  · exact go12x0j3
  · exact go12x0j4
  · exact go12x0j5
  · exact go12x0j6
  · exact go12x0j7
  · exact go12x0j8
  · exact go12x0j9
  · exact go12x0j10
  · exact go12x0j11
theorem go12x1j0 : upto (fun o => goTs 12 1 (1 + 0) (o + 1)) 3 = true := by kernel_rfl
theorem go12x1j1 : upto (fun o => goTs 12 1 (1 + 1) (o + 1)) 3 = true := by kernel_rfl
theorem go12x1j2 : upto (fun o => goTs 12 1 (1 + 2) (o + 1)) 3 = true := by kernel_rfl
theorem go12x1j3 : upto (fun o => goTs 12 1 (1 + 3) (o + 1)) 3 = true := by kernel_rfl
theorem go12x1j4 : upto (fun o => goTs 12 1 (1 + 4) (o + 1)) 3 = true := by kernel_rfl
theorem go12x1j5 : upto (fun o => goTs 12 1 (1 + 5) (o + 1)) 3 = true := by kernel_rfl
theorem go12x1j6 : upto (fun o => goTs 12 1 (1 + 6) (o + 1)) 3 = true := by kernel_rfl
theorem go12x1j7 : upto (fun o => goTs 12 1 (1 + 7) (o + 1)) 3 = true := by kernel_rfl
theorem go12x1j8 : upto (fun o => goTs 12 1 (1 + 8) (o + 1)) 3 = true := by kernel_rfl
theorem go12x1j9 : upto (fun o => goTs 12 1 (1 + 9) (o + 1)) 3 = true := by kernel_rfl
theorem go12x1j10 : upto (fun o => goTs 12 1 (1 + 10) (o + 1)) 3 = true := by kernel_rfl
theorem go12x1 : goAt 12 1 = true := upto_of (n := 11) fun j hj => by
  rcases (by omega : j = 0 ∨ j = 1 ∨ j = 2 ∨ j = 3 ∨ j = 4 ∨ j = 5 ∨ j = 6 ∨ j = 7 ∨ j = 8 ∨ j = 9 ∨ j = 10) with rfl | rfl | rfl | rfl | rfl | rfl | rfl | rfl | rfl | rfl | rfl
  · exact go12x1j0
  · exact go12x1j1
  · exact go12x1j2
  · exact go12x1j3
  · exact go12x1j4
  · exact go12x1j5
  · exact go12x1j6
  · exact go12x1j7
  · exact go12x1j8
  · exact go12x1j9
  · exact go12x1j10
theorem go12x2j0 : upto (fun o => goTs 12 2 (2 + 0) (o + 1)) 3 = true := by kernel_rfl
theorem go12x2j1 : upto (fun o => goTs 12 2 (2 + 1) (o + 1)) 3 = true := by kernel_rfl
theorem go12x2j2 : upto (fun o => goTs 12 2 (2 + 2) (o + 1)) 3 = true := by kernel_rfl
theorem go12x2j3 : upto (fun o => goTs 12 2 (2 + 3) (o + 1)) 3 = true := by kernel_rfl
theorem go12x2j4 : upto (fun o => goTs 12 2 (2 + 4) (o + 1)) 3 = true := by kernel_rfl
theorem go12x2j5 : upto (fun o => goTs 12 2 (2 + 5) (o + 1)) 3 = true := by kernel_rfl
theorem go12x2j6 : upto (fun o => goTs 12 2 (2 + 6) (o + 1)) 3 = true := by kernel_rfl
theorem go12x2j7 : upto (fun o => goTs 12 2 (2 + 7) (o + 1)) 3 = true := by kernel_rfl
theorem go12x2j8 : upto (fun o => goTs 12 2 (2 + 8) (o + 1)) 3 = true := by kernel_rfl
theorem go12x2j9 : upto (fun o => goTs 12 2 (2 + 9) (o + 1)) 3 = true := by kernel_rfl
theorem go12x2 : goAt 12 2 = true := upto_of (n := 10) fun j hj => by
  rcases (by omega : j = 0 ∨ j = 1 ∨ j = 2 ∨ j = 3 ∨ j = 4 ∨ j = 5 ∨ j = 6 ∨ j = 7 ∨ j = 8 ∨ j = 9) with rfl | rfl | rfl | rfl | rfl | rfl | rfl | rfl | rfl | rfl
  · exact go12x2j0
  · exact go12x2j1
  · exact go12x2j2
  · exact go12x2j3
  · exact go12x2j4
  · exact go12x2j5
  · exact go12x2j6
  · exact go12x2j7
  · exact go12x2j8
  · exact go12x2j9
theorem go12x3j0 : upto (fun o => goTs 12 3 (3 + 0) (o + 1)) 3 = true := by kernel_rfl
theorem go12x3j1 : upto (fun o => goTs 12 3 (3 + 1) (o + 1)) 3 = true := by kernel_rfl
theorem go12x3j2 : upto (fun o => goTs 12 3 (3 + 2) (o + 1)) 3 = true := by kernel_rfl
theorem go12x3j3 : upto (fun o => goTs 12 3 (3 + 3) (o + 1)) 3 = true := by kernel_rfl
theorem go12x3j4 : upto (fun o => goTs 12 3 (3 + 4) (o + 1)) 3 = true := by kernel_rfl
theorem go12x3j5 : upto (fun o => goTs 12 3 (3 + 5) (o + 1)) 3 = true := by kernel_rfl
theorem go12x3j6 : upto (fun o => goTs 12 3 (3 + 6) (o + 1)) 3 = true := by kernel_rfl
theorem go12x3j7 : upto (fun o => goTs 12 3 (3 + 7) (o + 1)) 3 = true := by kernel_rfl
theorem go12x3j8 : upto (fun o => goTs 12 3 (3 + 8) (o + 1)) 3 = true := by kernel_rfl
theorem go12x3 : goAt 12 3 = true := upto_of (n := 9) fun j hj => by
  rcases (by omega : j = 0 ∨ j = 1 ∨ j = 2 ∨ j = 3 ∨ j = 4 ∨ j = 5 ∨ j = 6 ∨ j = 7 ∨ j = 8) with rfl | rfl | rfl | rfl | rfl | rfl | rfl | rfl | rfl
  · exact go12x3j0
  · exact go12x3j1
  · exact go12x3j2
  · exact go12x3j3
  · exact go12x3j4
  · exact go12x3j5
  · exact go12x3j6
  · exact go12x3j7
  · exact go12x3j8
theorem go12x4j0 : upto (fun o => goTs 12 4 (4 + 0) (o + 1)) 3 = true := by kernel_rfl
theorem go12x4j1 : upto (fun o => goTs 12 4 (4 + 1) (o + 1)) 3 = true := by kernel_rfl
theorem go12x4j2 : upto (fun o => goTs 12 4 (4 + 2) (o + 1)) 3 = true := by kernel_rfl
theorem go12x4j3 : upto (fun o => goTs 12 4 (4 + 3) (o + 1)) 3 = true := by kernel_rfl
theorem go12x4j4 : upto (fun o => goTs 12 4 (4 + 4) (o + 1)) 3 = true := by kernel_rfl
theorem go12x4j5 : upto (fun o => goTs 12 4 (4 + 5) (o + 1)) 3 = true := by kernel_rfl
theorem go12x4j6 : upto (fun o => goTs 12 4 (4 + 6) (o + 1)) 3 = true := by kernel_rfl
theorem go12x4j7 : upto (fun o => goTs 12 4 (4 + 7) (o + 1)) 3 = true := by kernel_rfl
theorem go12x4 : goAt 12 4 = true := upto_of (n := 8) fun j hj => by
  rcases (by omega : j = 0 ∨ j = 1 ∨ j = 2 ∨ j = 3 ∨ j = 4 ∨ j = 5 ∨ j = 6 ∨ j = 7) with rfl | rfl | rfl | rfl | rfl | rfl | rfl | rfl
  · exact go12x4j0
  · exact go12x4j1
  · exact go12x4j2
  · exact go12x4j3
  · exact go12x4j4
  · exact go12x4j5
  · exact go12x4j6
  · exact go12x4j7
theorem go12x5 : goAt 12 5 = true := by kernel_rfl
theorem go12x6 : goAt 12 6 = true := by kernel_rfl
theorem go12x7 : goAt 12 7 = true := by kernel_rfl
theorem go12x8 : goAt 12 8 = true := by kernel_rfl
theorem go12x9 : goAt 12 9 = true := by kernel_rfl
theorem go12x10 : goAt 12 10 = true := by kernel_rfl
theorem go12x11 : goAt 12 11 = true := by kernel_rfl
end Go.Proofs.YtpaadclighadaaaGreatDoor.CodesR
