/- LexBlanks: the closed calls whose answers are known. -/
import Derived.Test.YthclejjieggdkaaDoorWLX
namespace Go.Proofs.YthclejjieggdkaaDoor.CodesL
open Go Go.Ab
set_option maxRecDepth 100000
def is (u : V) : Option (Out × Heap) → Bool
  | some (.ret v, _) => V.beq v u
  | _ => false
theorem is_spec {u : V} {q : Option (Out × Heap)} (h : is u q = true) : ∃ h', q = some (.ret u, h') := by
  unfold is at h
  split at h
  · rename_i v h'
    have := beq_sound _ _ h
    subst this
    exact ⟨h', rfl⟩
  · cases h
theorem ev0 : is aliveV (callFast D 100000 16 [] Heap.empty) = true := by kernel_rfl
theorem lowV0 : V.low 0 aliveV = true := by kernel_rfl
theorem ev1 : is refSignsV (callFast D 100000 56 [] Heap.empty) = true := by kernel_rfl
theorem lowV1 : V.low 0 refSignsV = true := by kernel_rfl
theorem ev2 : is wordsV (callFast D 100000 58 [.str wordsT] Heap.empty) = true := by kernel_rfl
theorem lowV2 : V.low 0 wordsV = true := by kernel_rfl
theorem ev3 : is signsV (callFast D 100000 58 [.str signsT] Heap.empty) = true := by kernel_rfl
theorem lowV3 : V.low 0 signsV = true := by kernel_rfl
theorem ev4 : is blankV (callFast D 100000 64 [.str [32, 9, 10, 13]] Heap.empty) = true := by kernel_rfl
theorem lowV4 : V.low 0 blankV = true := by kernel_rfl
theorem factsOk : FactsOk (ctxOf Tryd.prog G D.tidy D.orc) tbl := by
  intro f a u h
  unfold tbl at h
  by_cases h16 : f = 16
  · subst h16
    simp only [if_true, reduceIte, reduceCtorEq, Nat.reduceEqDiff] at h
    split at h
    · skip
      cases h
      obtain ⟨h1, e⟩ := is_spec ev0
      exact ⟨rfl, lowV0, 100000, h1, callFast_eq fine e⟩
    · cases h
  rw [if_neg h16] at h
  by_cases h56 : f = 56
  · subst h56
    simp only [if_true, reduceIte, reduceCtorEq, Nat.reduceEqDiff] at h
    split at h
    · skip
      cases h
      obtain ⟨h1, e⟩ := is_spec ev1
      exact ⟨rfl, lowV1, 100000, h1, callFast_eq fine e⟩
    · cases h
  rw [if_neg h56] at h
  by_cases h58 : f = 58
  · subst h58
    simp only [if_true, reduceIte, reduceCtorEq, Nat.reduceEqDiff] at h
    split at h
    · skip
      split at h
      · rename_i hs
        subst hs
        cases h
        obtain ⟨h1, e⟩ := is_spec ev2
        exact ⟨rfl, lowV2, 100000, h1, callFast_eq fine e⟩
      · skip
        split at h
        · rename_i hs
          subst hs
          cases h
          obtain ⟨h1, e⟩ := is_spec ev3
          exact ⟨rfl, lowV3, 100000, h1, callFast_eq fine e⟩
        · skip
          cases h
    · cases h
  rw [if_neg h58] at h
  by_cases h64 : f = 64
  · subst h64
    simp only [if_true, reduceIte, reduceCtorEq, Nat.reduceEqDiff] at h
    split at h
    · skip
      split at h
      · rename_i hs
        subst hs
        cases h
        obtain ⟨h1, e⟩ := is_spec ev4
        exact ⟨rfl, lowV4, 100000, h1, callFast_eq fine e⟩
      · skip
        cases h
    · cases h
  rw [if_neg h64] at h
  cases h
theorem fine1 : DFine (ctxOf Tryd.prog G D1.tidy D1.orc) D1 := dfine codesOk
theorem space_low : V.low 0 space = true := by kernel_rfl
theorem low (g : Nat) (v : V) (h : G g = some v) : V.low 0 v = true := by
  unfold G at h
  split at h
  · cases h; exact space_low
  · cases h; rfl
theorem ctxOk1 : CodeOk Tryd.prog G (ctxOf Tryd.prog G D1.tidy D1.orc) := ctxOf_ok (facts_ok ctxOk low factsOk)
end Go.Proofs.YthclejjieggdkaaDoor.CodesL
