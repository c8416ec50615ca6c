/- A pick: ticks with free weights, one layer up. -/
import Derived.Test.YtfbikhkmamdjmaaGreatDoorWP2
namespace Go.Proofs.YtfbikhkmamdjmaaGreatDoor.CodesS
open Go Go.Ab
set_option maxRecDepth 100000
set_option maxHeartbeats 1600000

noncomputable def DP2 : OCtx := layer DPb (fun f => Nat.beq f 157) (fun _ => false)
theorem altP_ok (ws : List Int) (t : Nat) (hl : ws.length ≤ 8) (hb : bestAt ws ws.length = (t : Nat)) : AltOk DP2 (altP ws t) := by
  intro f g h
  unfold altP at h
  split at h
  · rename_i hf
    have := Nat.eq_of_beq_eq_true hf
    subst this
    cases h
    refine given_ans fun args h hp => ?_
    refine CallW.plain rfl hp rfl ((best_pu ws none hl Heap.empty fine0).mono fun v _ hc => ?_) ⟨rfl, rfl⟩
    rw [hc.1, hb]
  · split at h
    · rename_i hf
      have := Nat.eq_of_beq_eq_true hf
      subst this
      cases h
      exact two_ans rfl
    · cases h
noncomputable def tickP (ws : List Int) (t : Nat) : Option (V × Heap × List V × List V) := callA DP2 (altP ws t) 100000 1000 8 [topP ws.length, .nilsl, envP ws] Heap.empty [] []
noncomputable def nextP (ws : List Int) (t u : Nat) : Option (V × Heap × List V × List V) := callA DP2 (altP ws u) 100000 1000 8 [topP ws.length, stP ws.length t, envP ws] Heap.empty [] []
theorem t1x0 (w0 : Int) : leftF (tickP [w0] 0) = rightF (res1 1 0) (tickP [w0] 0) := by kernel_rfl
theorem n1x00 (w0 : Int) : leftF (nextP [w0] 0 0) = rightF (res1 1 0) (nextP [w0] 0 0) := by kernel_rfl
end Go.Proofs.YtfbikhkmamdjmaaGreatDoor.CodesS
