/- A pick: the flat tree, once for all ticks. -/
import Derived.Test.YtfbikhkmamdjmaaGreatDoorWP1
namespace Go.Proofs.YtfbikhkmamdjmaaGreatDoor.CodesS
open Go Go.Ab
set_option maxRecDepth 100000
def flP (k e p : Int) (s : List Nat) (w : V) : V := .agg [i64 k, i64 0, i64 0, i64 e, i64 p, .str s, i64 0, i64 0, .str [], .nilsl, w]
def rowP (n : Nat) : V := .fsl (flP 11 (n + 1 : Nat) (-1) [] (.fsl (upP wtP n 0) none) :: upP (fun i => flP 9 (i + 2 : Nat) 0 (nameP i) .nilsl) n 0) none
def isA (u : V) : Option Out → Bool
  | some (.ret v) => V.beq v u
  | _ => false
theorem isA_spec {u : V} {q : Option Out} (h : isA u q = true) : q = some (.ret u) := by
  unfold isA at h
  split at h
  · rename_i v
    have := beq_sound _ _ h
    subst this
    rfl
  · cases h
def isV (u : V) : Option V → Bool
  | some v => V.beq v u
  | _ => false
theorem isV_spec {u : V} {q : Option V} (h : isV u q = true) : q = some u := by
  unfold isV at h
  split at h
  · rename_i v
    have := beq_sound _ _ h
    subst this
    rfl
  · cases h
def upto (p : Nat → Bool) : Nat → Bool
  | 0 => true
  | k + 1 => match p k with
    | true => upto p k
    | false => false
theorem upto_spec {p : Nat → Bool} : ∀ {n : Nat}, upto p n = true → ∀ i, i < n → p i = true
  | n + 1, h, i, hi => by
    unfold upto at h
    split at h
    · rename_i hp
      rcases Nat.lt_succ_iff_lt_or_eq.1 hi with h1 | rfl
      · exact upto_spec h i h1
      · exact hp
    · cases h

def isN (n : Nat) : Bool := match n with
  | k + 1 => Nat.blt k 8
  | _ => false
def topOf (v : V) : Option Nat := match v with
  | .agg [_, _, _, _, _, _, _, _, .fsl es _, _] => (match isN es.length with
    | true => (match V.beq v (topP es.length) with
      | true => some es.length
      | false => none)
    | false => none)
  | _ => none
def rowOfP (v : V) : Option Nat := match v with
  | .fsl (_ :: es) _ => (match isN es.length with
    | true => (match V.beq v (rowP es.length) with
      | true => some es.length
      | false => none)
    | false => none)
  | _ => none
theorem isN_spec {n : Nat} (h : isN n = true) : ∃ k, k < 8 ∧ n = k + 1 := by
  unfold isN at h
  split at h
  · rename_i k
    exact ⟨k, by simpa [Nat.blt_eq] using h, rfl⟩
  · cases h
theorem topOf_eq {v : V} {n : Nat} (h : topOf v = some n) : v = topP n ∧ ∃ k, k < 8 ∧ n = k + 1 := by
  unfold topOf at h
  split at h
  · split at h
    · rename_i hn
      split at h
      · rename_i hb
        cases h
        exact ⟨beq_sound _ _ hb, isN_spec hn⟩
      · cases h
    · cases h
  · cases h
theorem rowOfP_eq {v : V} {n : Nat} (h : rowOfP v = some n) : v = rowP n ∧ ∃ k, k < 8 ∧ n = k + 1 := by
  unfold rowOfP at h
  split at h
  · split at h
    · rename_i hn
      split at h
      · rename_i hb
        cases h
        exact ⟨beq_sound _ _ hb, isN_spec hn⟩
      · cases h
    · cases h
  · cases h
def f18 : List V → Option V
  | [v] => (topOf v).map rowP
  | _ => none
def f37 : List V → Option V
  | [v] => (rowOfP v).map rowP
  | _ => none
def f19 : List V → Option V
  | [v] => (rowOfP v).map fun _ => .bool true
  | _ => none
theorem rowP_make_all : upto (fun i => isV (rowP (i + 1)) (outF (callFast DP 100000 18 [topP (i + 1)] Heap.empty))) 8 = true := by kernel_rfl
theorem rowP_own_all : upto (fun i => isV (rowP (i + 1)) (outF (callFast DP 100000 37 [rowP (i + 1)] Heap.empty))) 8 = true := by kernel_rfl
theorem f18_ok : SaidN DP 18 f18 := by
  intro a u h
  unfold f18 at h
  split at h
  · obtain ⟨n, h1, rfl⟩ := map_some h
    obtain ⟨rfl, k, hk, rfl⟩ := topOf_eq h1
    exact evalF (n := 100000) (isV_spec (upto_spec rowP_make_all k hk))
  · cases h
theorem f37_ok : SaidN DP 37 f37 := by
  intro a u h
  unfold f37 at h
  split at h
  · obtain ⟨n, h1, rfl⟩ := map_some h
    obtain ⟨rfl, k, hk, rfl⟩ := rowOfP_eq h1
    exact evalF (n := 100000) (isV_spec (upto_spec rowP_own_all k hk))
  · cases h
def lPa : List (Nat × (List V → Option V)) := [(18, f18), (37, f37)]
noncomputable def DPa : OCtx := overF DP lPa
theorem lPa_ok : ∀ p ∈ lPa, SaidN DP p.1 p.2 := by
  intro p hp
  simp only [lPa, List.mem_cons, List.not_mem_nil, or_false] at hp
  rcases hp with rfl | rfl
  · exact f18_ok
  · exact f37_ok
theorem rowP_right_all : upto (fun i => isA (.bool true) (out1 (callFast DPa 100000 19 [rowP (i + 1)] Heap.empty))) 8 = true := by kernel_rfl
theorem rowP_low : upto (fun i => V.low 0 (rowP (i + 1))) 8 = true := by kernel_rfl
theorem f19_ok : Said DPa 19 f19 := by
  intro a u h
  unfold f19 at h
  split at h
  · obtain ⟨n, h1, rfl⟩ := map_some h
    obtain ⟨rfl, k, hk, rfl⟩ := rowOfP_eq h1
    refine ⟨?_, rfl, evalW (n := 100000) (isA_spec (upto_spec rowP_right_all k hk))⟩
    simp only [V.lows, upto_spec rowP_low k hk, Bool.and_true]
  · cases h
def lPb : List (Nat × (List V → Option V)) := [(19, f19)]
noncomputable def DPb : OCtx := over DPa lPb
theorem lPb_ok : ∀ p ∈ lPb, Said DPa p.1 p.2 := by
  intro p hp
  simp only [lPb, List.mem_cons, List.not_mem_nil, or_false] at hp
  rcases hp with rfl
  exact f19_ok

end Go.Proofs.YtfbikhkmamdjmaaGreatDoor.CodesS
