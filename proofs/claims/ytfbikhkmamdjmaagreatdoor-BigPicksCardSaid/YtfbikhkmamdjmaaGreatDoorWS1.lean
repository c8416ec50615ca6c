/- Sums that are set: the calls that do not hang on the tree, and those that hang on a number alone. -/
import Derived.Test.YtfbikhkmamdjmaaGreatDoorCodesS
import Derived.Test.YtfbikhkmamdjmaaGreatDoorAb5
namespace Go.Proofs.YtfbikhkmamdjmaaGreatDoor.CodesS
open Go Go.Ab
set_option maxRecDepth 100000
set_option maxHeartbeats 1600000

def i64 (n : Int) : V := .int .i64 n
def wordsT : List Nat := [107, 101, 121, 32, 116, 114, 101, 101, 32, 100, 111, 109, 97, 105, 110, 32, 111, 119, 110, 32, 115, 104, 97, 114, 101, 100, 32, 105, 110, 116, 32, 98, 111, 111, 108, 32, 114, 101, 102, 32, 115, 121, 109, 32, 112, 111, 105, 110, 116, 32, 115, 101, 113, 32, 115, 101, 108, 32, 109, 115, 101, 113, 32, 109, 115, 101, 108, 32, 112, 97, 114, 32, 110, 111, 116, 32, 114, 101, 112, 101, 97, 116, 32, 105, 102, 32, 115, 101, 116, 32, 100, 111, 32, 117, 115, 101, 32, 112, 105, 99, 107, 32, 112, 108, 97, 110, 32, 111, 107, 32, 102, 97, 105, 108, 32, 119, 97, 105, 116, 32, 118, 97, 114, 32, 97, 99, 116, 32, 99, 111, 115, 116, 32, 110, 101, 101, 100, 32, 109, 97, 107, 101, 32, 103, 111, 97, 108, 32, 116, 114, 117, 101, 32, 102, 97, 108, 115, 101, 32, 115, 101, 108, 102, 32, 116, 105, 109, 101, 32, 97, 110, 100, 32, 111, 114, 32, 114, 101, 32, 105, 109, 32, 116, 117, 114, 110, 32, 102, 97, 114]
def wordList : List (List Nat) := [[107, 101, 121], [116, 114, 101, 101], [100, 111, 109, 97, 105, 110], [111, 119, 110], [115, 104, 97, 114, 101, 100], [105, 110, 116], [98, 111, 111, 108], [114, 101, 102], [115, 121, 109], [112, 111, 105, 110, 116], [115, 101, 113], [115, 101, 108], [109, 115, 101, 113], [109, 115, 101, 108], [112, 97, 114], [110, 111, 116], [114, 101, 112, 101, 97, 116], [105, 102], [115, 101, 116], [100, 111], [117, 115, 101], [112, 105, 99, 107], [112, 108, 97, 110], [111, 107], [102, 97, 105, 108], [119, 97, 105, 116], [118, 97, 114], [97, 99, 116], [99, 111, 115, 116], [110, 101, 101, 100], [109, 97, 107, 101], [103, 111, 97, 108], [116, 114, 117, 101], [102, 97, 108, 115, 101], [115, 101, 108, 102], [116, 105, 109, 101], [97, 110, 100], [111, 114], [114, 101], [105, 109], [116, 117, 114, 110], [102, 97, 114]]
def wordsV : V := .fsl (wordList.map V.str) none
theorem words_w : CallW D 238 [.str wordsT] Heap.empty fun v _ => v = wordsV := evalW (n := 100000) (by kernel_rfl)
theorem alive_w : CallW D 7 [] Heap.empty fun v _ => v = .bool true := evalW (n := 100000) (by kernel_rfl)

/-! sums -/
def addM (a b : Int) : Int := if 0 < b ∧ IntKind.wrap .i64 (9223372036854775807 - b) < a then 9223372036854775807 else if b < 0 ∧ a < IntKind.wrap .i64 (-9223372036854775808 - b) then -9223372036854775808 else IntKind.wrap .i64 (a + b)
theorem o_addW {a b : Int} {h : Heap} : Does (.bin .add (.v (.int .i64 a)) (.v (.int .i64 b))) h (.int .i64 (IntKind.wrap .i64 (a + b))) h := by refine ⟨?_⟩; rw [op1v]; simp [op1, ev, bin, intBin]
theorem o_subW {a b : Int} {h : Heap} : Does (.bin .sub (.v (.int .i64 a)) (.v (.int .i64 b))) h (.int .i64 (IntKind.wrap .i64 (a - b))) h := by refine ⟨?_⟩; rw [op1v]; simp [op1, ev, bin, intBin]
theorem add_pu (a b : Int) : PuF D 30 [i64 a, i64 b] (i64 (addM a b)) := by
  refine PuF.tidy rfl rfl rfl rfl rfl fun h hf => ?_
  repeat' (first
      | refine WS.near rfl o_addW rfl ?_ | refine WS.near rfl o_subW rfl ?_ | refine W.seq ?_ | refine W.region ?_ | refine WS.nil ?_ | refine W.skip ?_ | refine W.block ?_ | refine W.ret ?_ | refine W.no rfl rfl ?_ | refine W.fork rfl (fun _ => ?_) (fun _ => ?_) | refine WS.guardT rfl ?_ | refine WS.guardF rfl rfl rfl ?_ | refine WS.guardK rfl (fun _ => ?_) (fun _ => ?_) | refine WS.near rfl o_mov rfl ?_ | refine WS.near rfl o_pickT rfl ?_ | refine WS.near rfl o_pickF rfl ?_ | refine WS.near rfl o_lss rfl ?_ | refine WS.near rfl o_gtr rfl ?_ | fail)
  all_goals
    first
    | (exfalso; omega)
    | (refine ⟨_, rfl, fin_int ?_⟩; unfold addM; simp [*]; done)
    | (refine ⟨_, rfl, fin_int ?_⟩; unfold addM; split <;> first | rfl | (exfalso; rename_i hh; obtain ⟨h1, h2⟩ := hh; first | contradiction | omega) | (split <;> first | rfl | (exfalso; rename_i hh; obtain ⟨h1, h2⟩ := hh; first | contradiction | omega) | (exfalso; rename_i hh; exact hh ⟨by assumption, by assumption⟩)) | (exfalso; rename_i hh; exact hh ⟨by assumption, by assumption⟩))
    | fail
/-! values that may be, expressions that may be -/
def intV (n : Int) : V := .agg [i64 0, i64 n, i64 0, .str [], .cpx .f64 0 0]
def numX (n : Int) : V := .agg [i64 0, i64 n, .str [], .nilsl]
theorem same_pu (n : Int) : PuF D 138 [intV n, intV n] (.bool true) := by
  refine PuF.tidy rfl rfl rfl rfl rfl fun h hf => ?_
  repeat' (first
      | refine W.seq ?_ | refine W.region ?_ | refine WS.nil ?_ | refine W.ret ?_ | refine WS.guardT rfl ?_ | refine WS.guardF rfl rfl rfl ?_ | refine WS.guardK rfl (fun _ => ?_) (fun _ => ?_) | refine WS.near rfl o_mov rfl ?_ | refine WS.near rfl o_pickT rfl ?_ | refine WS.near rfl o_pickF rfl ?_ | refine WS.near rfl o_eql rfl ?_ | refine WS.near rfl o_seqlR rfl ?_ | refine WS.near rfl o_ceq0 rfl ?_ | refine WS.near rfl o_faddr rfl ?_ | refine WS.near rfl (o_loadH rfl) rfl ?_ | refine WS.near rfl (o_boxH 0 rfl) rfl ?_ | refine WS.near rfl (o_boxH 1 rfl) rfl ?_ | fail)
  all_goals first | exact ⟨_, rfl, fin_bool rfl⟩ | (exfalso; omega) | fail
theorem rightV_pu (n : Int) : PuF D 137 [intV n] (.bool true) := by
  refine PuF.tidy rfl rfl rfl rfl rfl fun h hf => ?_
  repeat' (first
      | refine W.seq ?_ | refine W.region ?_ | refine WS.nil ?_ | refine W.block ?_ | refine W.yes rfl rfl ?_ | refine WS.near rfl o_mov rfl ?_ | refine WS.near rfl o_eql rfl ?_ | refine WS.near rfl o_faddr rfl ?_ | refine WS.near rfl (o_build rfl) rfl ?_ | refine WS.near rfl (o_loadH rfl) rfl ?_ | refine WS.near rfl (o_loadHN rfl rfl) rfl ?_ | refine WS.near rfl (o_storeH (by assumption) rfl rfl) rfl ?_ | refine WS.near rfl (o_boxH 0 rfl) rfl ?_ | refine WS.near rfl (o_allocH 1 rfl) rfl ?_ | fail)
  refine WS.puF hf rfl rfl (same_pu n) ?_
  repeat' (first
      | refine WS.nil ?_ | refine W.ret ?_ | fail)
  exact ⟨_, rfl, fin_bool rfl⟩
def kidsL : List Int := [0, 0, 0, 0, 0, 0, 2, 2, 2, 2, 2, 2, 2, 2, 1, 2, 1, 1, 1, 2]
def formT : List (List Nat) := [[], [], [], [], [115, 101, 108, 102], [116, 105, 109, 101], [43], [45], [42], [47], [61, 61], [60], [97, 110, 100], [111, 114], [110, 111, 116], [44], [114, 101], [105, 109], [116, 117, 114, 110], [102, 97, 114]]
def formV (k : Nat) : V := .agg [i64 (kidsL.getD k 0), .str (formT.getD k [])]
def formsL : List V := (List.range 20).map formV
def formsV : V := .fsl formsL none
theorem forms_w : CallW D 268 [] Heap.empty fun v _ => v = formsV := evalW (n := 100000) (by kernel_rfl)
def e7 : List V → Option V
  | [] => some (.bool true)
  | _ => none
def e238 (a : List V) : Option V := match V.beqs a [.str wordsT] with
  | true => some wordsV
  | false => none
def e268 : List V → Option V
  | [] => some formsV
  | _ => none
def e30 : List V → Option V
  | [.int .i64 a, .int .i64 b] => some (i64 (addM a b))
  | _ => none
def e137 : List V → Option V
  | [.agg [.int .i64 (.ofNat 0), .int .i64 _, .int .i64 (.ofNat 0), .str [], .cpx .f64 0 0]] => some (.bool true)
  | _ => none
theorem lexa_w : CallW D 128 [.str [97]] Heap.empty fun v _ => v = .bool true := evalW (n := 100000) (by kernel_rfl)
def e128 (a : List V) : Option V := match V.beqs a [.str [97]] with
  | true => some (.bool true)
  | false => none
theorem e128_ok : Said D 128 e128 := by
  intro a u h
  unfold e128 at h
  split at h
  · rename_i hs
    have := beqs_sound _ _ hs
    subst this
    cases h
    exact ⟨rfl, rfl, lexa_w⟩
  · cases h
theorem e7_ok : Said D 7 e7 := by
  intro a u h
  unfold e7 at h
  split at h
  · cases h
    exact ⟨rfl, rfl, alive_w⟩
  · cases h
theorem e238_ok : Said D 238 e238 := by
  intro a u h
  unfold e238 at h
  split at h
  · rename_i hs
    have := beqs_sound _ _ hs
    subst this
    cases h
    exact ⟨rfl, by kernel_rfl, words_w⟩
  · cases h
theorem e268_ok : Said D 268 e268 := by
  intro a u h
  unfold e268 at h
  split at h
  · cases h
    exact ⟨rfl, by kernel_rfl, forms_w⟩
  · cases h
theorem e30_ok : Said D 30 e30 := by
  intro a u h
  unfold e30 at h
  split at h
  · rename_i a b
    cases h
    exact ⟨rfl, rfl, (add_pu a b Heap.empty fine0).mono fun _ _ hc => hc.1⟩
  · cases h
theorem e137_ok : Said D 137 e137 := by
  intro a u h
  unfold e137 at h
  split at h
  · rename_i n
    cases h
    exact ⟨rfl, rfl, (rightV_pu n Heap.empty fine0).mono fun _ _ hc => hc.1⟩
  · cases h
def l1 : List (Nat × (List V → Option V)) := [(7, e7), (238, e238), (268, e268), (30, e30), (137, e137), (128, e128)]
noncomputable def D1 : OCtx := over D l1
theorem l1_ok : ∀ p ∈ l1, Said D p.1 p.2 := by
  intro p hp
  simp only [l1, List.mem_cons, List.not_mem_nil, or_false] at hp
  rcases hp with rfl | rfl | rfl | rfl | rfl | rfl
  · exact e7_ok
  · exact e238_ok
  · exact e268_ok
  · exact e30_ok
  · exact e137_ok
  · exact e128_ok
theorem forms_pu : PuF D1 268 [] formsV := PuF.orc (D := D1) (g := fun a h => match rows l1 268 a with
  | some u => some (.ret u, h)
  | none => none) rfl fun _ => rfl
theorem lexa_pu : PuF D1 128 [.str [97]] (.bool true) := PuF.orc (D := D1) (g := fun a h => match rows l1 128 a with
  | some u => some (.ret u, h)
  | none => none) rfl fun _ => rfl
theorem forms_len {h : Heap} : Does (.len 1 (.v formsV)) h (.int .i64 20) h := ⟨rfl⟩
theorem forms_at0 {h : Heap} : Does (.iaddr 2 (.v formsV) (.v (.int .i64 0))) h (.fptr [i64 0, .str []]) h := ⟨rfl⟩
theorem o_maxL {h : Heap} {q : Nat} : Does (.mm true [.v (.int .i64 (q : Int)), .v (.int .i64 (-9223372036854775807))]) h (.int .i64 (q : Int)) h := by
  refine ⟨?_⟩; rw [op1v]
  have : (if (-9223372036854775807 : Int) > (q : Int) then (-9223372036854775807 : Int) else (q : Int)) = q := by split <;> omega
  simp only [op1, List.map_cons, List.map_nil, ev, mmAll, mm2, if_true, Option.bind_some, Option.map_some, this]
theorem o_loadA {n : Nat} {cs : List V} {h : Heap} (hn : Nat.beq (lenL cs) n = true) : Does (.load n true (.v (.fptr cs))) h (.agg cs) h := by
  have := Nat.eq_of_beq_eq_true hn
  rw [lenL_eq] at this
  subst this
  refine ⟨?_⟩; rw [op1v]
  simp [op1, ev, Heap.at, Go.Ab.part]
def e271 : List V → Option V
  | [.fsl [.agg [.int .i64 (.ofNat 0), .int .i64 _, .int .i64 (.ofNat 0), .str [], .cpx .f64 0 0], .agg [.int .i64 (.ofNat 0), .int .i64 _, .int .i64 (.ofNat 0), .str [], .cpx .f64 0 0]] _, .int .i64 (.ofNat 0)] => some (.bool true)
  | _ => none
def e272 : List V → Option V
  | [.int .i64 (.ofNat 6), .int .i64 a, .int .i64 b] => some (.tup [intV (addM a b), .bool true])
  | _ => none
theorem all_w (a b : Int) (c : Option Nat) : CallW D1 271 [.fsl [intV a, intV b] c, i64 0] Heap.empty fun v _ => v = .bool true := evalW (n := 100000) (by kernel_rfl)
theorem ints_w (a b : Int) : CallW D1 272 [i64 6, i64 a, i64 b] Heap.empty fun v _ => v = .tup [intV (addM a b), .bool true] := evalW (n := 100000) (by kernel_rfl)
theorem e271_ok : Said D1 271 e271 := by
  intro a u h
  unfold e271 at h
  split at h
  · cases h
    exact ⟨rfl, rfl, all_w _ _ _⟩
  · cases h
theorem e272_ok : Said D1 272 e272 := by
  intro a u h
  unfold e272 at h
  split at h
  · cases h
    exact ⟨rfl, rfl, ints_w _ _⟩
  · cases h
def l2 : List (Nat × (List V → Option V)) := [(271, e271), (272, e272)]
noncomputable def D2 : OCtx := over D1 l2
theorem l2_ok : ∀ p ∈ l2, Said D1 p.1 p.2 := by
  intro p hp
  simp only [l2, List.mem_cons, List.not_mem_nil, or_false] at hp
  rcases hp with rfl | rfl
  · exact e271_ok
  · exact e272_ok
theorem forms2 : PuF D2 268 [] formsV := PuF.orc (D := D2) (g := fun a h => match rows l1 268 a with
  | some u => some (.ret u, h)
  | none => none) rfl fun _ => rfl
theorem lexa2 : PuF D2 128 [.str [97]] (.bool true) := PuF.orc (D := D2) (g := fun a h => match rows l1 128 a with
  | some u => some (.ret u, h)
  | none => none) rfl fun _ => rfl
theorem num_pu (q : Nat) : PuF D2 227 [numX (q : Nat), i64 39] (.bool true) := by
  refine PuF.tidy rfl rfl rfl rfl rfl fun h hf => ?_
  repeat' (first
      | refine WS.near rfl forms_len rfl ?_ | refine WS.near rfl forms_at0 rfl ?_ | refine WS.puF hf rfl rfl forms2 ?_ | refine WS.near rfl o_maxL rfl ?_ | refine WS.near rfl (v := i64 0) ⟨rfl⟩ rfl ?_ | refine W.seq ?_ | refine W.region ?_ | refine WS.nil ?_ | refine W.skip ?_ | refine W.block ?_ | refine W.ret ?_ | refine W.yes rfl rfl ?_ | refine W.no rfl rfl ?_ | refine WS.guardT rfl ?_ | refine WS.guardF rfl rfl rfl ?_ | refine WS.guardK rfl (fun _ => ?_) (fun _ => ?_) | refine WS.near rfl o_mov rfl ?_ | refine WS.near rfl o_pickT rfl ?_ | refine WS.near rfl o_pickF rfl ?_ | refine WS.near rfl o_lss rfl ?_ | refine WS.near rfl o_geq rfl ?_ | refine WS.near rfl o_eql rfl ?_ | refine WS.near rfl o_neq rfl ?_ | refine WS.near rfl o_sneq0 rfl ?_ | refine WS.near rfl o_faddr rfl ?_ | refine WS.near rfl (o_build rfl) rfl ?_ | refine WS.near rfl (o_loadH rfl) rfl ?_
      | refine WS.near rfl (o_storeH (by assumption) rfl rfl) rfl ?_ | refine WS.near rfl (o_boxH 0 rfl) rfl ?_ | refine WS.near rfl (o_allocH 1 rfl) rfl ?_ | refine WS.near rfl (o_faddrF (Nat.le_of_ble_eq_true rfl)) rfl ?_ | fail)
  · exfalso; omega
  · refine W.loop (fun _ : Unit => [(61, .int .i64 0), (62, .int .i64 0)]) (fun _ => hp h _) (fun _ => True) (fun _ => 0) () trivial (by exact ⟨rfl, rfl, trivial⟩) rfl ?_
    rintro - -
    repeat' (first
        | refine W.seq ?_ | refine W.region ?_ | refine WS.nil ?_ | refine W.ret ?_ | refine W.exit ?_ | refine W.no rfl rfl ?_ | refine WS.near rfl o_mov rfl ?_ | refine WS.near rfl o_lss rfl ?_ | fail)
    exact ⟨_, rfl, fin_bool rfl⟩
/-! the expression that is set -/
def nameX : V := .agg [i64 2, i64 0, .str [97], .nilsl]
def sumX (q : Nat) : List V := [i64 6, i64 0, .str [], .fsl [nameX, numX (q : Nat)] none]
theorem name_pu : PuF D2 227 [nameX, i64 39] (.bool true) := by
  refine PuF.tidy rfl rfl rfl rfl rfl fun h hf => ?_
  repeat' (first
      | refine WS.near rfl forms_len rfl ?_ | refine WS.near rfl (v := .fptr [i64 0, .str []]) ⟨rfl⟩ rfl ?_ | refine WS.puF hf rfl rfl forms2 ?_ | refine WS.puF hf rfl rfl lexa2 ?_ | refine W.seq ?_ | refine W.region ?_ | refine WS.nil ?_ | refine W.skip ?_ | refine W.block ?_ | refine W.yes rfl rfl ?_ | refine W.no rfl rfl ?_ | refine WS.guardT rfl ?_ | refine WS.near rfl o_mov rfl ?_ | refine WS.near rfl o_pickF rfl ?_ | refine WS.near rfl o_notT rfl ?_ | refine WS.near rfl o_lss rfl ?_ | refine WS.near rfl o_geq rfl ?_ | refine WS.near rfl o_eql rfl ?_ | refine WS.near rfl o_neq rfl ?_ | refine WS.near rfl o_sneq rfl ?_ | refine WS.near rfl o_lenN rfl ?_ | refine WS.near rfl o_faddr rfl ?_ | refine WS.near rfl o_loadF rfl ?_ | refine WS.near rfl (o_build rfl) rfl ?_ | refine WS.near rfl (o_loadH rfl) rfl ?_ | refine WS.near rfl (o_storeH (by assumption) rfl rfl) rfl ?_
      | refine WS.near rfl (o_boxH 0 rfl) rfl ?_ | refine WS.near rfl (o_allocH 1 rfl) rfl ?_ | fail)
  all_goals first
    | (exfalso; rename_i hh; exact hh rfl)
    | skip
  refine W.loop (fun _ : Unit => [(61, .int .i64 0), (62, .int .i64 0)]) (fun _ => hp h _) (fun _ => True) (fun _ => 0) () trivial (by exact ⟨rfl, rfl, trivial⟩) rfl ?_
  rintro - -
  repeat' (first
      | refine W.seq ?_ | refine W.region ?_ | refine WS.nil ?_ | refine W.ret ?_ | refine W.exit ?_ | refine W.no rfl rfl ?_ | refine WS.near rfl o_mov rfl ?_ | refine WS.near rfl o_lss rfl ?_ | fail)
  exact ⟨_, rfl, fin_bool rfl⟩
structure SL where
  i : Nat
  bs : List (Option (List V))
theorem top_pu (q : Nat) : PuF D2 227 [.agg (sumX q), i64 40] (.bool true) := by
  have h39 : PuF D2 227 [numX (q : Nat), i64 39] (.bool true) := num_pu q
  refine PuF.tidy rfl rfl rfl rfl rfl fun h hf => ?_
  repeat' (first
      | refine WS.near rfl forms_len rfl ?_ | refine WS.near rfl (v := .fptr [i64 2, .str [43]]) ⟨rfl⟩ rfl ?_ | refine WS.puF hf rfl rfl forms2 ?_ | refine W.seq ?_ | refine W.region ?_ | refine WS.nil ?_ | refine W.skip ?_ | refine W.block ?_ | refine W.no rfl rfl ?_ | refine WS.guardT rfl ?_ | refine WS.near rfl o_mov rfl ?_ | refine WS.near rfl o_pickF rfl ?_ | refine WS.near rfl o_lss rfl ?_ | refine WS.near rfl o_geq rfl ?_ | refine WS.near rfl o_eql rfl ?_ | refine WS.near rfl o_neq rfl ?_ | refine WS.near rfl o_sneq0 rfl ?_ | refine WS.near rfl o_lenF rfl ?_ | refine WS.near rfl o_faddr rfl ?_ | refine WS.near rfl o_loadF rfl ?_ | refine WS.near rfl (o_build rfl) rfl ?_ | refine WS.near rfl (o_loadH rfl) rfl ?_ | refine WS.near rfl (o_storeH (by assumption) rfl rfl) rfl ?_ | refine WS.near rfl (o_boxH 0 rfl) rfl ?_ | refine WS.near rfl (o_allocH 1 rfl) rfl ?_ | fail)
  refine W.loop (fun a : SL => [(1, i64 40), (2, .mptr (h.next + 0) 0), (60, .fsl [nameX, numX (q : Nat)] none), (61, i64 2), (62, i64 a.i)]) (fun a => hp h (some (sumX q) :: a.bs))
    (fun a => a.i ≤ 2) (fun a => 2 - a.i) ⟨0, _⟩ (Nat.zero_le _) (by exact ⟨rfl, rfl, rfl, rfl, rfl, trivial⟩) rfl ?_
  rintro ⟨i, bs⟩ hi
  simp only at hi ⊢
  rcases (by omega : i = 0 ∨ i = 1 ∨ i = 2) with rfl | rfl | rfl
  · skip
    repeat' (first
        | refine WS.near rfl (v := .fptr nameX.cells) ⟨rfl⟩ rfl ?_ | refine WS.near rfl (v := nameX) ⟨rfl⟩ rfl ?_ | refine WS.near rfl o_allocS rfl ?_ | refine WS.near rfl (o_storeH hf bget_badd rfl) rfl ?_ | refine WS.near rfl (o_loadHN (bget_bput bget_badd) rfl) rfl ?_ | refine WS.puF hf rfl rfl name_pu ?_ | refine W.seq ?_ | refine W.region ?_ | refine WS.nil ?_ | refine W.skip ?_ | refine W.block ?_ | refine W.yes rfl rfl ?_ | refine W.no rfl rfl ?_ | refine WS.near rfl o_notT rfl ?_ | refine WS.near rfl o_lss rfl ?_ | refine WS.near rfl (o_add (by omega) (by omega)) rfl ?_ | refine WS.near rfl (o_sub (by omega) (by omega)) rfl ?_ | fail)
    exact ⟨⟨1, _⟩, by show 1 ≤ 2; omega, by show 2 - 1 < 2 - 0; omega, ⟨rfl, rfl, rfl, rfl, rfl, trivial⟩, rfl⟩
  · skip
    repeat' (first
        | refine WS.near rfl (o_iaddrF (n := 1) (v := numX (q : Nat)) rfl rfl rfl) rfl ?_ | refine WS.near rfl (o_loadA rfl) rfl ?_ | refine WS.near rfl o_allocS rfl ?_ | refine WS.near rfl (o_storeH hf bget_badd rfl) rfl ?_ | refine WS.near rfl (o_loadHN (bget_bput bget_badd) rfl) rfl ?_ | refine WS.puF hf rfl rfl h39 ?_ | refine W.seq ?_ | refine W.region ?_ | refine WS.nil ?_ | refine W.skip ?_ | refine W.block ?_ | refine W.yes rfl rfl ?_ | refine W.no rfl rfl ?_ | refine WS.near rfl o_notT rfl ?_ | refine WS.near rfl o_lss rfl ?_ | refine WS.near rfl (o_add (by omega) (by omega)) rfl ?_ | refine WS.near rfl (o_sub (by omega) (by omega)) rfl ?_ | fail)
    exact ⟨⟨2, _⟩, by show 2 ≤ 2; omega, by show 2 - 2 < 2 - 1; omega, ⟨rfl, rfl, rfl, rfl, rfl, trivial⟩, rfl⟩
  · skip
    repeat' (first
        | refine W.seq ?_ | refine W.region ?_ | refine WS.nil ?_ | refine W.ret ?_ | refine W.exit ?_ | refine W.no rfl rfl ?_ | refine WS.near rfl o_mov rfl ?_ | refine WS.near rfl o_lss rfl ?_ | fail)
    exact ⟨_, rfl, fin_bool rfl⟩
def e227 : List V → Option V
  | [.agg [.int .i64 (.ofNat 0), .int .i64 (.ofNat _), .str [], .nilsl], .int .i64 (.ofNat 39)] => some (.bool true)
  | [.agg [.int .i64 (.ofNat 6), .int .i64 (.ofNat 0), .str [], .fsl [x, .agg [.int .i64 (.ofNat 0), .int .i64 (.ofNat _), .str [], .nilsl]] none], .int .i64 (.ofNat 40)] => (match V.beq x nameX with
    | true => some (.bool true)
    | false => none)
  | a => match V.beqs a [nameX, i64 39] with
    | true => some (.bool true)
    | false => none
theorem e227_ok : SaidF D2 227 e227 := by
  intro a u h
  unfold e227 at h
  split at h
  · rename_i q
    cases h
    exact ⟨rfl, (num_pu q Heap.empty fine0).mono fun _ _ hc => hc.1⟩
  · rename_i x q
    split at h
    · rename_i hx
      have := beq_sound _ _ hx
      subst this
      cases h
      exact ⟨rfl, (top_pu q Heap.empty fine0).mono fun _ _ hc => hc.1⟩
    · cases h
  · split at h
    · rename_i hs
      have := beqs_sound _ _ hs
      subst this
      cases h
      exact ⟨rfl, (name_pu Heap.empty fine0).mono fun _ _ hc => hc.1⟩
    · cases h
theorem joined_w (a b : Int) (c : Option Nat) : CallW D2 229 [i64 6, .fsl [intV a, intV b] c] Heap.empty fun v _ => v = .tup [intV (addM a b), .bool true] := by
  refine CallW.openE rfl rfl rfl rfl rfl ?_
  have hf := fine0
  repeat' (first
      | refine WS.near rfl o_load5 rfl ?_ | refine W.seq ?_ | refine W.region ?_ | refine WS.nil ?_ | refine WS.near rfl o_mov rfl ?_ | refine WS.near rfl o_lenF rfl ?_ | refine WS.near rfl (o_allocH 0 rfl) rfl ?_ | refine WS.near rfl (o_iaddrF (n := 0) rfl rfl rfl) rfl ?_ | fail)
  refine WS.near' (u := .int .i64 1) rfl (o_sub (by simp) (by simp)) rfl rfl ?_
  repeat' (first
      | refine WS.near rfl (o_iaddrF (n := 1) rfl rfl rfl) rfl ?_ | refine WS.near rfl o_load5 rfl ?_ | refine WS.near rfl (o_allocH 1 rfl) rfl ?_ | refine WS.near rfl (o_allocH 2 rfl) rfl ?_ | fail)
  refine WS.nearC rfl (o_storeH hf rfl rfl) rfl ⟨⟨_, _, _, rfl, o_load5, rfl⟩, ⟨_, _, _, rfl, o_lenF, rfl⟩, trivial⟩ ?_
  repeat' (first
      | refine W.seq ?_ | refine W.region ?_ | refine WS.nil ?_ | refine W.block ?_ | refine W.no rfl rfl ?_ | refine WS.near rfl o_eql rfl ?_ | refine WS.near rfl (o_storeH (by assumption) rfl rfl) rfl ?_ | fail)
  refine WS.puF hf rfl rfl (FactIn.top (l := l2) (u := .bool true) rfl rfl).pu ?_
  repeat' (first
      | refine W.seq ?_ | refine W.region ?_ | refine WS.nil ?_ | refine W.yes rfl rfl ?_ | refine WS.near rfl o_faddr rfl ?_ | refine WS.near rfl (o_loadH rfl) rfl ?_ | fail)
  refine WS.puF hf rfl rfl (FactIn.top (l := l2) (u := .tup [intV (addM a b), .bool true]) rfl rfl).pu ?_
  repeat' (first
      | refine WS.nil ?_ | refine W.ret ?_ | refine WS.near rfl o_mov rfl ?_ | refine WS.near rfl (o_extract rfl) rfl ?_ | refine WS.near rfl (o_storeH (by assumption) rfl rfl) rfl ?_ | fail)
  exact ⟨_, resK_cell rfl rfl rfl rfl, rfl⟩
def e229 : List V → Option V
  | [.int .i64 (.ofNat 6), .fsl [.agg [.int .i64 (.ofNat 0), .int .i64 a, .int .i64 (.ofNat 0), .str [], .cpx .f64 0 0], .agg [.int .i64 (.ofNat 0), .int .i64 b, .int .i64 (.ofNat 0), .str [], .cpx .f64 0 0]] _] => some (.tup [intV (addM a b), .bool true])
  | _ => none
theorem e229_ok : SaidF D2 229 e229 := by
  intro a u h
  unfold e229 at h
  split at h
  · cases h
    exact ⟨rfl, joined_w _ _ _⟩
  · cases h
def l3 : List (Nat × (List V → Option V)) := [(227, e227), (229, e229)]
noncomputable def D3 : OCtx := overF D2 l3
theorem l3_ok : ∀ p ∈ l3, SaidF D2 p.1 p.2 := by
  intro p hp
  simp only [l3, List.mem_cons, List.not_mem_nil, or_false] at hp
  rcases hp with rfl | rfl
  · exact e227_ok
  · exact e229_ok
/-! the tree, the world that it sees, and what it comes to -/
def kidV (q : Nat) : V := .agg [i64 8, i64 0, i64 0, .str [97], i64 6, i64 0, .str [], .fsl [.agg [i64 2, i64 0, .str [97], .nilsl], numX (q : Nat)] none, .nilsl, .nilsl]
def topV (l : List Nat) : V := .agg [i64 0, i64 0, i64 0, .str [], i64 0, i64 0, .str [], .nilsl, .fsl (l.map kidV) none, .nilsl]
def envV (n : Int) : V := .agg [i64 0, i64 0, i64 0, .fsl [.agg [.str [97], i64 0, i64 n, i64 0, .str [], .cpx .f64 0 0]] none, .nilsl, .nilsl]
def deedV (n : Int) : V := .agg [i64 3, i64 0, .str [97], .str [], i64 0, i64 n, i64 0, .str [], .cpx .f64 0 0]
/-- what is set, in order -/
def sets : Int → List Nat → List V
  | _, [] => []
  | n, q :: r => deedV (addM n (q : Nat)) :: sets (addM n (q : Nat)) r
def zeros : List Nat → List V
  | [] => []
  | _ :: r => i64 0 :: zeros r
def resV (n : Int) (l : List Nat) : V := .agg [i64 1, i64 ((l.length + 1 : Nat) : Int), .fsl (sets n l) none, .fsl (i64 0 :: zeros l) none]
end Go.Proofs.YtfbikhkmamdjmaaGreatDoor.CodesS
