/- The calls that do not hang on the arguments. -/
import Derived.Test.YtfbikhkmamdjmaaDoorWXR0
namespace Go.Proofs.YtfbikhkmamdjmaaDoor.CodesX
open Go Go.Ab
set_option maxHeartbeats 800000
set_option maxRecDepth 100000

def i64 (n : Int) : V := .int .i64 n
def kidsL : List Int := [0, 0, 0, 0, 0, 0, 2, 2, 2, 2, 2, 2, 2, 2, 1, 2, 1, 1, 1, 2]
def formT : List (List Nat) := [[], [], [], [], [115, 101, 108, 102], [116, 105, 109, 101], [43], [45], [42], [47], [61, 61], [60], [97, 110, 100], [111, 114], [110, 111, 116], [44], [114, 101], [105, 109], [116, 117, 114, 110], [102, 97, 114]]
def formV (k : Nat) : V := .agg [i64 (kidsL.getD k 0), .str (formT.getD k [])]
def formsV : V := .fsl ((List.range 20).map formV) none
def wordsV : V := .fsl (wordList.map V.str) none
def signsV : V := .fsl (signList.map V.str) none
theorem alive_w : CallW D 32 [] Heap.empty fun v _ => v = .bool true := evalW (n := 100000) (by kernel_rfl)
theorem words_w : CallW D 216 [.str wordsT] Heap.empty fun v _ => v = wordsV := evalW (n := 100000) (by kernel_rfl)
theorem forms_w : CallW D 117 [] Heap.empty fun v _ => v = formsV := evalW (n := 100000) (by kernel_rfl)
def levL : List (List Nat) := [[13], [12], [10, 11], [6, 7], [8, 9]]
def kindsV (l : List Nat) : V := .fsl (intsV (l.map fun (k : Nat) => (k : Int))) none
def levelsV : V := .fsl (levL.map kindsV) none
theorem levels_w : CallW D 155 [] Heap.empty fun v _ => v = levelsV := evalW (n := 100000) (by kernel_rfl)
theorem signs_w : CallW D 103 [] Heap.empty fun v _ => v = signsV := evalW (n := 100000) (by kernel_rfl)
def e32 : List V → Option V
  | [] => some (.bool true)
  | _ => none
def e216 (a : List V) : Option V := match V.beqs a [.str wordsT] with
  | true => some wordsV
  | false => none
def e117 : List V → Option V
  | [] => some formsV
  | _ => none
def e103 : List V → Option V
  | [] => some signsV
  | _ => none
def e155 : List V → Option V
  | [] => some levelsV
  | _ => none
theorem e155_ok : Said D 155 e155 := by
  intro a u h
  unfold e155 at h
  split at h
  · cases h
    exact ⟨rfl, by kernel_rfl, levels_w⟩
  · cases h
theorem e32_ok : Said D 32 e32 := by
  intro a u h
  unfold e32 at h
  split at h
  · cases h
    exact ⟨rfl, rfl, alive_w⟩
  · cases h
theorem e216_ok : Said D 216 e216 := by
  intro a u h
  unfold e216 at h
  split at h
  · rename_i hs
    have := beqs_sound _ _ hs
    subst this
    cases h
    exact ⟨rfl, by kernel_rfl, words_w⟩
  · cases h
theorem e117_ok : Said D 117 e117 := by
  intro a u h
  unfold e117 at h
  split at h
  · cases h
    exact ⟨rfl, by kernel_rfl, forms_w⟩
  · cases h
theorem e103_ok : Said D 103 e103 := by
  intro a u h
  unfold e103 at h
  split at h
  · cases h
    exact ⟨rfl, by kernel_rfl, signs_w⟩
  · cases h
def l1 : List (Nat × (List V → Option V)) := [(32, e32), (216, e216), (117, e117), (103, e103), (155, e155)]
def D1 : OCtx := over D l1
theorem l1_ok : ∀ p ∈ l1, Said D p.1 p.2 := by
  intro p hp
  simp only [l1, List.mem_cons, List.not_mem_nil, or_false] at hp
  rcases hp with rfl | rfl | rfl | rfl | rfl
  · exact e32_ok
  · exact e216_ok
  · exact e117_ok
  · exact e103_ok
  · exact e155_ok
theorem alive_pu : PuF D1 32 [] (.bool true) := (FactIn.top (D := D) (l := l1) (f := 32) (a := []) (u := .bool true) rfl rfl).pu
theorem forms_pu : PuF D1 117 [] formsV := (FactIn.top (D := D) (l := l1) (f := 117) (a := []) (u := formsV) rfl rfl).pu
theorem levels_pu : PuF D1 155 [] levelsV := (FactIn.top (D := D) (l := l1) (f := 155) (a := []) (u := levelsV) rfl rfl).pu
theorem refSigns_pu : PuF D1 103 [] (.fsl (signList.map V.str) none) := (FactIn.top (D := D) (l := l1) (f := 103) (a := []) (u := signsV) rfl rfl).pu
end Go.Proofs.YtfbikhkmamdjmaaDoor.CodesX
