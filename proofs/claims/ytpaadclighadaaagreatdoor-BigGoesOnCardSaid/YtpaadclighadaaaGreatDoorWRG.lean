/- A row of actions that goes on where it was, ticked from any state. -/
import Derived.Test.YtpaadclighadaaaGreatDoorWRF
namespace Go.Proofs.YtpaadclighadaaaGreatDoor.CodesR
open Go Go.Ab
set_option maxRecDepth 100000

def isN (n : Nat) : Bool := match n with
  | k + 1 => Nat.blt k 12
  | _ => false
def rowOf (v : V) : Option Nat := match v with
  | .agg [_, _, _, _, _, _, _, _, .fsl es _, _] => (match isN es.length with
    | true => (match V.beq v (rowV es.length) with
      | true => some es.length
      | false => none)
    | false => none)
  | _ => none
def rowFOf (v : V) : Option Nat := match v with
  | .fsl (_ :: es) _ => (match isN es.length with
    | true => (match V.beq v (rowF es.length) with
      | true => some es.length
      | false => none)
    | false => none)
  | _ => none
theorem isN_spec {n : Nat} (h : isN n = true) : ∃ k, k < 12 ∧ n = k + 1 := by
  unfold isN at h
  split at h
  · rename_i k
    exact ⟨k, by simpa [Nat.blt_eq] using h, rfl⟩
  · cases h
theorem rowOf_eq {v : V} {n : Nat} (h : rowOf v = some n) : v = rowV n ∧ ∃ k, k < 12 ∧ n = k + 1 := by
  unfold rowOf at h
  split at h
  · split at h
    · rename_i hn
      split at h
      · rename_i hb
        cases h
        exact ⟨beq_sound _ _ hb, isN_spec hn⟩
      · cases h
    · cases h
  · cases h
theorem rowFOf_eq {v : V} {n : Nat} (h : rowFOf v = some n) : v = rowF n ∧ ∃ k, k < 12 ∧ n = k + 1 := by
  unfold rowFOf at h
  split at h
  · split at h
    · rename_i hn
      split at h
      · rename_i hb
        cases h
        exact ⟨beq_sound _ _ hb, isN_spec hn⟩
      · cases h
    · cases h
  · cases h
def e48 : List V → Option V
  | [v] => (rowOf v).map rowF
  | _ => none
def e91 : List V → Option V
  | [v] => (rowFOf v).map rowF
  | _ => none
def e49 : List V → Option V
  | [v] => (rowFOf v).map fun _ => .bool true
  | _ => none
theorem row_make_all : upto (fun i => isV (rowF (i + 1)) (outF (callFast D1 100000 48 [rowV (i + 1)] Heap.empty))) 12 = true := by kernel_rfl
theorem row_own_all : upto (fun i => isV (rowF (i + 1)) (outF (callFast D1 100000 91 [rowF (i + 1)] Heap.empty))) 12 = true := by kernel_rfl
theorem e48_ok : SaidN D1 48 e48 := by
  intro a u h
  unfold e48 at h
  split at h
  · obtain ⟨n, h1, rfl⟩ := map_some h
    obtain ⟨rfl, k, hk, rfl⟩ := rowOf_eq h1
    exact evalF (n := 100000) (isV_spec (upto_spec row_make_all k hk))
  · cases h
theorem e91_ok : SaidN D1 91 e91 := by
  intro a u h
  unfold e91 at h
  split at h
  · obtain ⟨n, h1, rfl⟩ := map_some h
    obtain ⟨rfl, k, hk, rfl⟩ := rowFOf_eq h1
    exact evalF (n := 100000) (isV_spec (upto_spec row_own_all k hk))
  · cases h
def l3 : List (Nat × (List V → Option V)) := [(48, e48), (91, e91)]
noncomputable def D2 : OCtx := overF D1 l3
theorem l3_ok : ∀ p ∈ l3, SaidN D1 p.1 p.2 := by
  intro p hp
  simp only [l3, List.mem_cons, List.not_mem_nil, or_false] at hp
  rcases hp with rfl | rfl
  · exact e48_ok
  · exact e91_ok
theorem row_right_all : upto (fun i => isA (.bool true) (out1 (callFast D2 100000 49 [rowF (i + 1)] Heap.empty))) 12 = true := by kernel_rfl
theorem row_low : upto (fun i => V.low 0 (rowF (i + 1))) 12 = true := by kernel_rfl
theorem e49_ok : Said D2 49 e49 := by
  intro a u h
  unfold e49 at h
  split at h
  · obtain ⟨n, h1, rfl⟩ := map_some h
    obtain ⟨rfl, k, hk, rfl⟩ := rowFOf_eq h1
    refine ⟨?_, rfl, evalW (n := 100000) (isA_spec (upto_spec row_right_all k hk))⟩
    simp only [V.lows, upto_spec row_low k hk, Bool.and_true]
  · cases h
def l2 : List (Nat × (List V → Option V)) := [(49, e49)]
noncomputable def D3 : OCtx := over D2 l2
theorem l2_ok : ∀ p ∈ l2, Said D2 p.1 p.2 := by
  intro p hp
  simp only [l2, List.mem_cons, List.not_mem_nil, or_false] at hp
  rcases hp with rfl
  exact e49_ok

/-! ticks -/
def bit (t i : Nat) : V := match Nat.beq i t with
  | true => i64 1
  | false => i64 0
/-- the states: all 0, or the t-th action running -/
def zerosV (n : Nat) : V := .fsl (i64 0 :: up (fun _ => i64 0) n 0) none
def runV (n t : Nat) : V := .fsl (i64 (t : Nat) :: up (bit t) n 0) none
def oneD (t o i : Nat) : V := match Nat.beq i t with
  | true => deedV (nameOf i) (o : Nat)
  | false => deedV (nameOf i) 1
def goA (n at0 t o : Nat) : V := match o with
  | 1 => .agg [i64 1, i64 (1 + (n - at0) : Nat), .fsl (up (oneD t 1) (n - at0) at0) none, zerosV n]
  | 2 => .agg [i64 2, i64 (2 + (t - at0) : Nat), .fsl (up (oneD t 2) (1 + (t - at0)) at0) none, zerosV n]
  | _ => .agg [i64 3, i64 (2 + (t - at0) : Nat), .fsl (up (oneD t 3) (1 + (t - at0)) at0) none, runV n t]
noncomputable def goT (n at0 t o : Nat) (st : V) : Bool := isV (goA n at0 t o) (outF (callFast D3 100000 15 [rowV n, st, envV (nameOf t) (o : Nat)] Heap.empty))
noncomputable def goTs (n at0 t o : Nat) : Bool := match goT n at0 t o (runV n at0) with
  | true => (match at0 with
    | 0 => (match goT n 0 t o (zerosV n) with
      | true => goT n 0 t o .nilsl
      | false => false)
    | _ => true)
  | false => false
noncomputable def goAt (n at0 : Nat) : Bool := upto (fun j => upto (fun o => goTs n at0 (at0 + j) (o + 1)) 3) (n - at0)
noncomputable def goAll (n : Nat) : Bool := upto (goAt n) n
end Go.Proofs.YtpaadclighadaaaGreatDoor.CodesR
