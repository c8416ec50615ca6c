/- BigPicks: every input. -/
import Derived.Test.YtfbikhkmamdjmaaGreatDoorWP6
import Derived.Test.YtfbikhkmamdjmaaGreatDoorWP9
namespace Go.Proofs.YtfbikhkmamdjmaaGreatDoor.CodesS
open Go Go.Ab
theorem lP_ok : ∀ p ∈ lP, Said D p.1 p.2 := by
  intro p hp
  simp only [lP, List.mem_cons, List.not_mem_nil, or_false] at hp
  rcases hp with rfl | rfl | rfl | rfl
  · exact e7_ok
  · exact e238_ok
  · exact e268_ok
  · exact e137_ok
theorem law_w (u w : V) (l m : List Int) (hu : IsInts u l) (hw : IsInts w m) : CallW DQ 5 [u, w] Heap.empty fun v _ => v = .bool true := (law_r tick_all next_all u w l m hu hw Heap.empty fine0).mono fun _ _ hc => hc.1
end Go.Proofs.YtfbikhkmamdjmaaGreatDoor.CodesS
