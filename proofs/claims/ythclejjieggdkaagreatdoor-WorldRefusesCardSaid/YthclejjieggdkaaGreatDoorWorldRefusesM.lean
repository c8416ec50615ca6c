/- WorldRefuses in the abstract machine: closed calls whose answers are known. -/
import Derived.Test.YthclejjieggdkaaGreatDoorCodesW
namespace Go.Proofs.YthclejjieggdkaaGreatDoor.WorldRefuses
open Go Go.Ab CodesW
set_option maxRecDepth 100000
/-- the machine's answer is 'true' -/
def truth : Option (Out × Heap) → Bool
  | some (.ret (.bool b), _) => b
  | _ => false
theorem answer {q : Option (Out × Heap)} (h : truth q = true) : ∃ h', q = some (.ret (.bool true), h') := by
  unfold truth at h
  split at h
  · rename_i b h'
    subst h
    exact ⟨h', rfl⟩
  · cases h
def is (u : V) : Option (Out × Heap) → Bool
  | some (.ret v, _) => V.beq v u
  | _ => false
theorem is_spec {u : V} {q : Option (Out × Heap)} (h : is u q = true) : ∃ h', q = some (.ret u, h') := by
  unfold is at h
  split at h
  · rename_i v h'
    have := beq_sound _ _ h
    subst this
    exact ⟨h', rfl⟩
  · cases h
theorem space_low : V.low 0 space = true := by kernel_rfl
theorem low0 (g : Nat) (v : V) (h : G g = some v) : V.low 0 v = true := by
  unfold G at h
  split at h
  · cases h; exact space_low
  · cases h; rfl
noncomputable def D0 : OCtx := D
theorem fineL0 : DFine (ctxOf Tryz.prog G D0.tidy D0.orc) D0 := fine
theorem ctxOkL0 : CodeOk Tryz.prog G (ctxOf Tryz.prog G D0.tidy D0.orc) := ctxOk
theorem ev1x0 : is (wordsV) (callFast D0 100000 198 (wordsVA) Heap.empty) = true := by kernel_rfl
theorem lv1x0 : V.low 0 (wordsV) = true := by kernel_rfl
theorem la1x0 : V.lows 0 (wordsVA) = true := by kernel_rfl
theorem ev1x1 : is (signsV) (callFast D0 100000 198 (signsVA) Heap.empty) = true := by kernel_rfl
theorem lv1x1 : V.low 0 (signsV) = true := by kernel_rfl
theorem la1x1 : V.lows 0 (signsVA) = true := by kernel_rfl
theorem ev1x2 : is (blankV) (callFast D0 100000 191 (blankVA) Heap.empty) = true := by kernel_rfl
theorem lv1x2 : V.low 0 (blankV) = true := by kernel_rfl
theorem la1x2 : V.lows 0 (blankVA) = true := by kernel_rfl
def dom1 (f : Nat) : Bool := Nat.beq f 198 || Nat.beq f 191
def tbl1 (f : Nat) (a : List V) : Option V := match Nat.beq f 198 with | true => (match V.beqs a (wordsVA) with | true => some (wordsV) | false => match V.beqs a (signsVA) with | true => some (signsV) | false => none) | false => match Nat.beq f 191 with | true => (match V.beqs a (blankVA) with | true => some (blankV) | false => none) | false => none
theorem factsOk1 : FactsOk (ctxOf Tryz.prog G D0.tidy D0.orc) tbl1 := by
  intro f a u h
  unfold tbl1 at h
  split at h
  · rename_i hf
    have hf := Nat.eq_of_beq_eq_true hf
    subst hf
    split at h
    · rename_i ha
      have ha := beqs_sound _ _ ha
      subst ha
      cases h
      obtain ⟨h1, e⟩ := is_spec ev1x0
      exact ⟨la1x0, lv1x0, 100000, h1, callFast_eq fineL0 e⟩
    · skip
      split at h
      · rename_i ha
        have ha := beqs_sound _ _ ha
        subst ha
        cases h
        obtain ⟨h1, e⟩ := is_spec ev1x1
        exact ⟨la1x1, lv1x1, 100000, h1, callFast_eq fineL0 e⟩
      · skip
        cases h
  · skip
    split at h
    · rename_i hf
      have hf := Nat.eq_of_beq_eq_true hf
      subst hf
      split at h
      · rename_i ha
        have ha := beqs_sound _ _ ha
        subst ha
        cases h
        obtain ⟨h1, e⟩ := is_spec ev1x2
        exact ⟨la1x2, lv1x2, 100000, h1, callFast_eq fineL0 e⟩
      · skip
        cases h
    · skip
      cases h
noncomputable def orc1 (f : Nat) : Option (List V → Heap → Option (Out × Heap)) := match factsOrc dom1 tbl1 f with
  | some g => some g
  | none => D0.orc f
theorem orcOk1 : ∀ f g, orc1 f = some g → CallsOk Tryz.prog G (fun f' args h => if f' = f then g args h else none) := by
  intro f g h
  unfold orc1 at h
  split at h
  · rename_i g' hg
    cases h
    exact facts_ok ctxOkL0 low0 factsOk1 f g hg
  · exact ctxOkL0.orc f g h
noncomputable def D1 : OCtx := { code := D.code, tidy := D.tidy, orc := orc1 }
theorem fineL1 : DFine (ctxOf Tryz.prog G D1.tidy D1.orc) D1 := dfine codesOk
theorem ctxOkL1 : CodeOk Tryz.prog G (ctxOf Tryz.prog G D1.tidy D1.orc) := ctxOf_ok orcOk1
theorem ev2x0 : is (.bool true) (callFast D1 100000 13 ([]) Heap.empty) = true := by kernel_rfl
theorem lv2x0 : V.low 0 (.bool true) = true := by kernel_rfl
theorem la2x0 : V.lows 0 ([]) = true := by kernel_rfl
def dom2 (f : Nat) : Bool := Nat.beq f 13
def tbl2 (f : Nat) (a : List V) : Option V := match Nat.beq f 13 with | true => (match V.beqs a ([]) with | true => some (.bool true) | false => none) | false => none
theorem factsOk2 : FactsOk (ctxOf Tryz.prog G D1.tidy D1.orc) tbl2 := by
  intro f a u h
  unfold tbl2 at h
  split at h
  · rename_i hf
    have hf := Nat.eq_of_beq_eq_true hf
    subst hf
    split at h
    · rename_i ha
      have ha := beqs_sound _ _ ha
      subst ha
      cases h
      obtain ⟨h1, e⟩ := is_spec ev2x0
      exact ⟨la2x0, lv2x0, 100000, h1, callFast_eq fineL1 e⟩
    · skip
      cases h
  · skip
    cases h
noncomputable def orc2 (f : Nat) : Option (List V → Heap → Option (Out × Heap)) := match factsOrc dom2 tbl2 f with
  | some g => some g
  | none => D1.orc f
theorem orcOk2 : ∀ f g, orc2 f = some g → CallsOk Tryz.prog G (fun f' args h => if f' = f then g args h else none) := by
  intro f g h
  unfold orc2 at h
  split at h
  · rename_i g' hg
    cases h
    exact facts_ok ctxOkL1 low0 factsOk2 f g hg
  · exact ctxOkL1.orc f g h
noncomputable def D2 : OCtx := { code := D.code, tidy := D.tidy, orc := orc2 }
theorem fineL2 : DFine (ctxOf Tryz.prog G D2.tidy D2.orc) D2 := dfine codesOk
theorem ctxOkL2 : CodeOk Tryz.prog G (ctxOf Tryz.prog G D2.tidy D2.orc) := ctxOf_ok orcOk2
end Go.Proofs.YthclejjieggdkaaGreatDoor.WorldRefuses
