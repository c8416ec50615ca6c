/- WorldRefuses in the abstract machine: all numbers. -/
import Derived.Test.YthclejjieggdkaaGreatDoorWorldRefusesE0
import Derived.Test.YthclejjieggdkaaGreatDoorWorldRefusesE1
import Derived.Test.YthclejjieggdkaaGreatDoorWorldRefusesE2
import Derived.Test.YthclejjieggdkaaGreatDoorWorldRefusesE3
namespace Go.Proofs.YthclejjieggdkaaGreatDoor.WorldRefuses
open Go Go.Ab CodesW
set_option maxRecDepth 100000
theorem lt_step {P : Nat → Prop} {n : Nat} (h : ∀ i, i < n → P i) (hn : P n) : ∀ i, i < n + 1 → P i := fun i hi => by
  rcases Nat.lt_succ_iff_lt_or_eq.1 hi with h1 | rfl
  · exact h i h1
  · exact hn
theorem below : ∀ n, n < 26 → (fun n => truth (callFast D2 100000 6 [.int .i64 (Int.ofNat n)] Heap.empty) = true) n :=
  (lt_step (lt_step (lt_step (lt_step (lt_step (lt_step (lt_step (lt_step (lt_step (lt_step (lt_step (lt_step (lt_step (lt_step (lt_step (lt_step (lt_step (lt_step (lt_step (lt_step (lt_step (lt_step (lt_step (lt_step (lt_step (lt_step (fun _ h => absurd h (Nat.not_lt_zero _)) at0) at1) at2) at3) at4) at5) at6) at7) at8) at9) at10) at11) at12) at13) at14) at15) at16) at17) at18) at19) at20) at21) at22) at23) at24) at25)
theorem all (which : Int)  : truth (callFast D2 100000 6 [.int .i64 which] Heap.empty) = true := by
  cases which with
  | negSucc k => exact less k 
  | ofNat n =>
    by_cases hn : n < 26
    · exact below n hn 
    · obtain ⟨k, rfl⟩ : ∃ k, n = k + 26 := ⟨n - 26, by omega⟩
      exact more k 
end Go.Proofs.YthclejjieggdkaaGreatDoor.WorldRefuses
