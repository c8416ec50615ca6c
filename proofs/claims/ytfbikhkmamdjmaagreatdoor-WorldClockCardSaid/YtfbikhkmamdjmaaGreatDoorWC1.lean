/- A clock: the calls that do not hang on it, and those that hang on a number alone. -/
import Derived.Test.YtfbikhkmamdjmaaGreatDoorCodesW
import Derived.Test.YtfbikhkmamdjmaaGreatDoorAb5
namespace Go.Proofs.YtfbikhkmamdjmaaGreatDoor.CodesW
open Go Go.Ab
set_option maxRecDepth 100000
set_option maxHeartbeats 1600000

def i64 (n : Int) : V := .int .i64 n
def wordsT : List Nat := [107, 101, 121, 32, 116, 114, 101, 101, 32, 100, 111, 109, 97, 105, 110, 32, 111, 119, 110, 32, 115, 104, 97, 114, 101, 100, 32, 105, 110, 116, 32, 98, 111, 111, 108, 32, 114, 101, 102, 32, 115, 121, 109, 32, 112, 111, 105, 110, 116, 32, 115, 101, 113, 32, 115, 101, 108, 32, 109, 115, 101, 113, 32, 109, 115, 101, 108, 32, 112, 97, 114, 32, 110, 111, 116, 32, 114, 101, 112, 101, 97, 116, 32, 105, 102, 32, 115, 101, 116, 32, 100, 111, 32, 117, 115, 101, 32, 112, 105, 99, 107, 32, 112, 108, 97, 110, 32, 111, 107, 32, 102, 97, 105, 108, 32, 119, 97, 105, 116, 32, 118, 97, 114, 32, 97, 99, 116, 32, 99, 111, 115, 116, 32, 110, 101, 101, 100, 32, 109, 97, 107, 101, 32, 103, 111, 97, 108, 32, 116, 114, 117, 101, 32, 102, 97, 108, 115, 101, 32, 115, 101, 108, 102, 32, 116, 105, 109, 101, 32, 97, 110, 100, 32, 111, 114, 32, 114, 101, 32, 105, 109, 32, 116, 117, 114, 110, 32, 102, 97, 114]
def wordList : List (List Nat) := [[107, 101, 121], [116, 114, 101, 101], [100, 111, 109, 97, 105, 110], [111, 119, 110], [115, 104, 97, 114, 101, 100], [105, 110, 116], [98, 111, 111, 108], [114, 101, 102], [115, 121, 109], [112, 111, 105, 110, 116], [115, 101, 113], [115, 101, 108], [109, 115, 101, 113], [109, 115, 101, 108], [112, 97, 114], [110, 111, 116], [114, 101, 112, 101, 97, 116], [105, 102], [115, 101, 116], [100, 111], [117, 115, 101], [112, 105, 99, 107], [112, 108, 97, 110], [111, 107], [102, 97, 105, 108], [119, 97, 105, 116], [118, 97, 114], [97, 99, 116], [99, 111, 115, 116], [110, 101, 101, 100], [109, 97, 107, 101], [103, 111, 97, 108], [116, 114, 117, 101], [102, 97, 108, 115, 101], [115, 101, 108, 102], [116, 105, 109, 101], [97, 110, 100], [111, 114], [114, 101], [105, 109], [116, 117, 114, 110], [102, 97, 114]]
def signsT : List Nat := [58, 61, 32, 60, 61, 32, 62, 61, 32, 61, 61, 32, 123, 32, 125, 32, 40, 32, 41, 32, 59, 32, 58, 32, 61, 32, 60, 32, 43, 32, 45, 32, 42, 32, 47, 32, 44, 32, 39]
def signList : List (List Nat) := [[58, 61], [60, 61], [62, 61], [61, 61], [123], [125], [40], [41], [59], [58], [61], [60], [43], [45], [42], [47], [44], [39]]
def wordsV : V := .fsl (wordList.map V.str) none
def signsV : V := .fsl (signList.map V.str) none
def kidsL : List Int := [0, 0, 0, 0, 0, 0, 2, 2, 2, 2, 2, 2, 2, 2, 1, 2, 1, 1, 1, 2]
def formT : List (List Nat) := [[], [], [], [], [115, 101, 108, 102], [116, 105, 109, 101], [43], [45], [42], [47], [61, 61], [60], [97, 110, 100], [111, 114], [110, 111, 116], [44], [114, 101], [105, 109], [116, 117, 114, 110], [102, 97, 114]]
def formV (k : Nat) : V := .agg [i64 (kidsL.getD k 0), .str (formT.getD k [])]
def formsL : List V := (List.range 20).map formV
def formsV : V := .fsl formsL none
theorem words_w : CallW D 238 [.str wordsT] Heap.empty fun v _ => v = wordsV := evalW (n := 100000) (by kernel_rfl)
theorem signs_w : CallW D 238 [.str signsT] Heap.empty fun v _ => v = signsV := evalW (n := 100000) (by kernel_rfl)
theorem forms_w : CallW D 268 [] Heap.empty fun v _ => v = formsV := evalW (n := 100000) (by kernel_rfl)
def e238 (a : List V) : Option V := match V.beqs a [.str wordsT] with
  | true => some wordsV
  | false => (match V.beqs a [.str signsT] with
    | true => some signsV
    | false => none)
def e268 : List V → Option V
  | [] => some formsV
  | _ => none
theorem e238_ok : Said D 238 e238 := by
  intro a u h
  unfold e238 at h
  split at h
  · rename_i hs
    have := beqs_sound _ _ hs
    subst this
    cases h
    exact ⟨rfl, by kernel_rfl, words_w⟩
  · split at h
    · rename_i hs
      have := beqs_sound _ _ hs
      subst this
      cases h
      exact ⟨rfl, by kernel_rfl, signs_w⟩
    · cases h
theorem e268_ok : Said D 268 e268 := by
  intro a u h
  unfold e268 at h
  split at h
  · cases h
    exact ⟨rfl, by kernel_rfl, forms_w⟩
  · cases h
def l1 : List (Nat × (List V → Option V)) := [(238, e238), (268, e268)]
noncomputable def D1 : OCtx := over D l1
theorem l1_ok : ∀ p ∈ l1, Said D p.1 p.2 := by
  intro p hp
  simp only [l1, List.mem_cons, List.not_mem_nil, or_false] at hp
  rcases hp with rfl | rfl
  · exact e238_ok
  · exact e268_ok
/-! the first law's world is alive; values that may be -/
theorem alive_w : CallW D1 11 [] Heap.empty fun v _ => v = .bool true := evalW (n := 100000) (by kernel_rfl)
/-! sums -/
def addM (a b : Int) : Int := if 0 < b ∧ IntKind.wrap .i64 (9223372036854775807 - b) < a then 9223372036854775807 else if b < 0 ∧ a < IntKind.wrap .i64 (-9223372036854775808 - b) then -9223372036854775808 else IntKind.wrap .i64 (a + b)
theorem o_addW {a b : Int} {h : Heap} : Does (.bin .add (.v (.int .i64 a)) (.v (.int .i64 b))) h (.int .i64 (IntKind.wrap .i64 (a + b))) h := by refine ⟨?_⟩; rw [op1v]; simp [op1, ev, bin, intBin]
theorem o_subW {a b : Int} {h : Heap} : Does (.bin .sub (.v (.int .i64 a)) (.v (.int .i64 b))) h (.int .i64 (IntKind.wrap .i64 (a - b))) h := by refine ⟨?_⟩; rw [op1v]; simp [op1, ev, bin, intBin]
theorem add_pu (a b : Int) : PuF D1 30 [i64 a, i64 b] (i64 (addM a b)) := by
  refine PuF.tidy rfl rfl rfl rfl rfl fun h hf => ?_
  repeat' (first
      | refine WS.near rfl o_addW rfl ?_ | refine WS.near rfl o_subW rfl ?_ | refine W.seq ?_ | refine W.region ?_ | refine WS.nil ?_ | refine W.skip ?_ | refine W.block ?_ | refine W.ret ?_ | refine W.yes rfl rfl ?_ | refine W.no rfl rfl ?_ | refine W.fork rfl (fun _ => ?_) (fun _ => ?_) | refine WS.guardT rfl ?_ | refine WS.guardF rfl rfl rfl ?_ | refine WS.guardK rfl (fun _ => ?_) (fun _ => ?_) | refine WS.near rfl o_mov rfl ?_ | refine WS.near rfl o_pickT rfl ?_ | refine WS.near rfl o_pickF rfl ?_ | refine WS.near rfl o_lss rfl ?_ | refine WS.near rfl o_gtr rfl ?_ | refine WS.near rfl o_eql rfl ?_ | refine WS.near rfl o_seqlR rfl ?_ | refine WS.near rfl o_ceq0 rfl ?_ | refine WS.near rfl o_faddr rfl ?_ | refine WS.near rfl (o_build rfl) rfl ?_ | refine WS.near rfl (o_loadH rfl) rfl ?_ | refine WS.near rfl (o_loadHN rfl rfl) rfl ?_
      | refine WS.near rfl (o_storeH (by assumption) rfl rfl) rfl ?_ | refine WS.near rfl (o_boxH 0 rfl) rfl ?_ | refine WS.near rfl (o_boxH 1 rfl) rfl ?_ | refine WS.near rfl (o_allocH 1 rfl) rfl ?_ | fail)
  all_goals
    first
    | (exfalso; omega)
    | (refine ⟨_, rfl, fin_int ?_⟩; unfold addM; simp [*]; done)
    | (refine ⟨_, rfl, fin_int ?_⟩; unfold addM; split <;> first | rfl | (exfalso; rename_i hh; obtain ⟨h1, h2⟩ := hh; first | contradiction | omega) | (split <;> first | rfl | (exfalso; rename_i hh; obtain ⟨h1, h2⟩ := hh; first | contradiction | omega) | (exfalso; rename_i hh; exact hh ⟨by assumption, by assumption⟩)) | (exfalso; rename_i hh; exact hh ⟨by assumption, by assumption⟩))
    | fail
def intV (n : Int) : V := .agg [i64 0, i64 n, i64 0, .str [], .cpx .f64 0 0]
theorem same_pu (n : Int) : PuF D1 138 [intV n, intV n] (.bool true) := by
  refine PuF.tidy rfl rfl rfl rfl rfl fun h hf => ?_
  repeat' (first
      | refine W.seq ?_ | refine W.region ?_ | refine WS.nil ?_ | refine W.skip ?_ | refine W.block ?_ | refine W.ret ?_ | refine W.yes rfl rfl ?_ | refine W.no rfl rfl ?_ | refine W.fork rfl (fun _ => ?_) (fun _ => ?_) | refine WS.guardT rfl ?_ | refine WS.guardF rfl rfl rfl ?_ | refine WS.guardK rfl (fun _ => ?_) (fun _ => ?_) | refine WS.near rfl o_mov rfl ?_ | refine WS.near rfl o_pickT rfl ?_ | refine WS.near rfl o_pickF rfl ?_ | refine WS.near rfl o_lss rfl ?_ | refine WS.near rfl o_gtr rfl ?_ | refine WS.near rfl o_eql rfl ?_ | refine WS.near rfl o_seqlR rfl ?_ | refine WS.near rfl o_ceq0 rfl ?_ | refine WS.near rfl o_faddr rfl ?_ | refine WS.near rfl (o_build rfl) rfl ?_ | refine WS.near rfl (o_loadH rfl) rfl ?_ | refine WS.near rfl (o_loadHN rfl rfl) rfl ?_ | refine WS.near rfl (o_storeH (by assumption) rfl rfl) rfl ?_ | refine WS.near rfl (o_boxH 0 rfl) rfl ?_
      | refine WS.near rfl (o_boxH 1 rfl) rfl ?_ | refine WS.near rfl (o_allocH 1 rfl) rfl ?_ | fail)
  all_goals first | exact ⟨_, rfl, fin_bool rfl⟩ | (exfalso; omega) | fail
theorem rightV_pu (n : Int) : PuF D1 137 [intV n] (.bool true) := by
  refine PuF.tidy rfl rfl rfl rfl rfl fun h hf => ?_
  repeat' (first
      | refine W.seq ?_ | refine W.region ?_ | refine WS.nil ?_ | refine W.skip ?_ | refine W.block ?_ | refine W.ret ?_ | refine W.yes rfl rfl ?_ | refine W.no rfl rfl ?_ | refine W.fork rfl (fun _ => ?_) (fun _ => ?_) | refine WS.guardT rfl ?_ | refine WS.guardF rfl rfl rfl ?_ | refine WS.guardK rfl (fun _ => ?_) (fun _ => ?_) | refine WS.near rfl o_mov rfl ?_ | refine WS.near rfl o_pickT rfl ?_ | refine WS.near rfl o_pickF rfl ?_ | refine WS.near rfl o_lss rfl ?_ | refine WS.near rfl o_gtr rfl ?_ | refine WS.near rfl o_eql rfl ?_ | refine WS.near rfl o_seqlR rfl ?_ | refine WS.near rfl o_ceq0 rfl ?_ | refine WS.near rfl o_faddr rfl ?_ | refine WS.near rfl (o_build rfl) rfl ?_ | refine WS.near rfl (o_loadH rfl) rfl ?_ | refine WS.near rfl (o_loadHN rfl rfl) rfl ?_ | refine WS.near rfl (o_storeH (by assumption) rfl rfl) rfl ?_ | refine WS.near rfl (o_boxH 0 rfl) rfl ?_
      | refine WS.near rfl (o_boxH 1 rfl) rfl ?_ | refine WS.near rfl (o_allocH 1 rfl) rfl ?_ | fail)
  refine WS.puF hf rfl rfl (same_pu n) ?_
  repeat' (first
      | refine W.seq ?_ | refine W.region ?_ | refine WS.nil ?_ | refine W.skip ?_ | refine W.block ?_ | refine W.ret ?_ | refine W.yes rfl rfl ?_ | refine W.no rfl rfl ?_ | refine W.fork rfl (fun _ => ?_) (fun _ => ?_) | refine WS.guardT rfl ?_ | refine WS.guardF rfl rfl rfl ?_ | refine WS.guardK rfl (fun _ => ?_) (fun _ => ?_) | refine WS.near rfl o_mov rfl ?_ | refine WS.near rfl o_pickT rfl ?_ | refine WS.near rfl o_pickF rfl ?_ | refine WS.near rfl o_lss rfl ?_ | refine WS.near rfl o_gtr rfl ?_ | refine WS.near rfl o_eql rfl ?_ | refine WS.near rfl o_seqlR rfl ?_ | refine WS.near rfl o_ceq0 rfl ?_ | refine WS.near rfl o_faddr rfl ?_ | refine WS.near rfl (o_build rfl) rfl ?_ | refine WS.near rfl (o_loadH rfl) rfl ?_ | refine WS.near rfl (o_loadHN rfl rfl) rfl ?_ | refine WS.near rfl (o_storeH (by assumption) rfl rfl) rfl ?_ | refine WS.near rfl (o_boxH 0 rfl) rfl ?_
      | refine WS.near rfl (o_boxH 1 rfl) rfl ?_ | refine WS.near rfl (o_allocH 1 rfl) rfl ?_ | fail)
  exact ⟨_, rfl, fin_bool rfl⟩
end Go.Proofs.YtfbikhkmamdjmaaGreatDoor.CodesW
