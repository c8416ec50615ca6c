/-
  What needs no walk, for ValidWrong: whatever the arguments, the call returns true and leaves them as they were.
  Conditions: those of the given row alone.
-/
import Derived.Test.YtfbikhkmamdjmaaDoorCards
import Derived.Test.YtfbikhkmamdjmaaDoorTie
import Derived.Test.YtfbikhkmamdjmaaDoorAb5
import Derived.ChangeMaps5
import Derived.Deep.DeepWitnessRowRef
import Derived.LaidMore
namespace Go.Proofs.YtfbikhkmamdjmaaDoor.ValidWrong
open Go Go.Ab Go.ChangeShapes Go.WideShapes Go.ChangeAt Go.RowKit

theorem own : ownKnob Tryd.prog.godebug = none := by kernel_rfl
theorem kids : Kids Tryd.prog (· < Tryd.prog.types.size) := kids_rows (by kernel_rfl) (by kernel_rfl)
theorem wide : ∀ t e, t < Tryd.prog.types.size → Tryd.prog.underlying t = some (.slice e) → 0 < Tryd.prog.cellsOf e := slices_full_of Tryd.prog (by kernel_rfl)
theorem known : ∀ t ∈ Tryd.f5.params.toList, t < Tryd.prog.types.size := fun t ht => of_decide_eq_true (List.all_eq_true.1 (show (Tryd.f5.params.toList.all fun t => decide (t < Tryd.prog.types.size)) = true by kernel_rfl) t ht)
/-- a world for the witness: the settled one -/
noncomputable def laidWorld (os : Os) : World := World.doorLaid Tryd.prog 600 os
set_option maxRecDepth 100000
theorem laid_met (os : Os) : laidMet Tryd.prog Rows.validWrongUptoRow.laid ((laidWorld os).forCall (fun _ _ => 0) ⟨#[], #[.agg #[.int .i64 0, .int .i64 0, .int .i64 0, .string ByteArray.empty, .int .i64 0, .int .i64 0, .string ByteArray.empty, .slice none 0 0, .slice none 0 0, .slice none 0 0], .int .i64 0, .int .i64 0, .int .i64 0], []⟩).memory :=
  laidMet_of_rows 8 (by kernel_rfl)
theorem reads (os : Os) {H : Type} (enc : TypeId × Value → H) : ∃ places, DataW.whole enc Tryd.prog ((laidWorld os).forCall (fun _ _ => 0) ⟨#[], #[.agg #[.int .i64 0, .int .i64 0, .int .i64 0, .string ByteArray.empty, .int .i64 0, .int .i64 0, .string ByteArray.empty, .slice none 0 0, .slice none 0 0, .slice none 0 0], .int .i64 0, .int .i64 0, .int .i64 0], []⟩).memory Tryd.f5.params.toList Rows.validWrongSpec.vars false (#[.agg #[.int .i64 0, .int .i64 0, .int .i64 0, .string ByteArray.empty, .int .i64 0, .int .i64 0, .string ByteArray.empty, .slice none 0 0, .slice none 0 0, .slice none 0 0], .int .i64 0, .int .i64 0, .int .i64 0] : Array Value).toList 8 = some ([.agg [.lit (.int .i64 0), .lit (.int .i64 0), .lit (.int .i64 0), .lit (.string []), .agg [.lit (.int .i64 0), .lit (.int .i64 0), .lit (.string []), .nil], .nil, .nil], .lit (.int .i64 0), .lit (.int .i64 0), .lit (.int .i64 0)], [], places) :=
  ⟨[], by kernel_rfl⟩
theorem plain_laid : (Rows.validWrongUptoRow.laid.all fun x => x.2.handleName?.isNone) = true := by kernel_rfl

theorem kInPlace : (Rows.validWrongUptoRow.inPlace == Tryd.pinned.checked.prog.inPlace 5) = true := by kernel_rfl
theorem kUnfollowed : (Rows.validWrongUptoRow.unfollowed == Tryd.pinned.checked.prog.unfollowed 5) = true := by kernel_rfl
theorem kRecurses : (Rows.validWrongUptoRow.recurses == Tryd.pinned.checked.prog.recurses 5) = true := by kernel_rfl
theorem kNamed : (Rows.validWrongUptoRow.named == Tryd.pinned.checked.prog.varsNamed 5) = true := by kernel_rfl
theorem closed : joinedFacts Tryd.pinned.checked.prog 5 Tryd.f5 (Rows.OpenSpec.upto Rows.validWrongSpec).bare Rows.validWrongUptoRow = true := by
  unfold joinedFacts
  rw [kInPlace, kUnfollowed, kRecurses, kNamed]
  kernel_rfl

end Go.Proofs.YtfbikhkmamdjmaaDoor.ValidWrong
