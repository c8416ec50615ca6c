/- ValueNames: the call of the document's example, known. -/
import Derived.Test.YthclejjieggdkaaDoorCodesV
import Derived.Test.YthclejjieggdkaaDoorAb5
namespace Go.Proofs.YthclejjieggdkaaDoor.ValueNames
open Go Go.Ab CodesV
/-- the machine's answer is 'true' -/
def truth : Option (Out × Heap) → Bool
  | some (.ret (.bool b), _) => b
  | _ => false
theorem answer {q : Option (Out × Heap)} (h : truth q = true) : ∃ h', q = some (.ret (.bool true), h') := by
  unfold truth at h
  split at h
  · rename_i b h'
    subst h
    exact ⟨h', rfl⟩
  · cases h
set_option maxRecDepth 100000 in
theorem alive_true : truth (callFast D 100000 11 [] Heap.empty) = true := by kernel_rfl
def D1 : OCtx := { D with orc := known 11 (.bool true) }
theorem fine1 : DFine (ctxOf Tryd.prog G D1.tidy D1.orc) D1 := dfine codesOk
theorem low (g : Nat) (v : V) (h : G g = some v) : V.low 0 v = true := by
  unfold G at h
  cases h; rfl
theorem ctxOk1 : CodeOk Tryd.prog G (ctxOf Tryd.prog G D1.tidy D1.orc) := by
  obtain ⟨h', e⟩ := answer alive_true
  exact ctxOf_ok (known_ok ctxOk low (callFast_eq fine e) rfl)
end Go.Proofs.YthclejjieggdkaaDoor.ValueNames
