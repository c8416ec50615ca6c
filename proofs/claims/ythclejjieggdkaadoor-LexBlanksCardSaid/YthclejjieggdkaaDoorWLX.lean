/- The lexer: what the functions answer. -/
import Derived.Test.YthclejjieggdkaaDoorCodesL
import Derived.Test.YthclejjieggdkaaDoorAb5
namespace Go.Proofs.YthclejjieggdkaaDoor.CodesL
open Go Go.Ab
set_option maxHeartbeats 800000

def wordsT : List Nat := [107, 101, 121, 32, 116, 114, 101, 101, 32, 100, 111, 109, 97, 105, 110, 32, 111, 119, 110, 32, 115, 104, 97, 114, 101, 100, 32, 105, 110, 116, 32, 98, 111, 111, 108, 32, 114, 101, 102, 32, 115, 121, 109, 32, 112, 111, 105, 110, 116, 32, 115, 101, 113, 32, 115, 101, 108, 32, 109, 115, 101, 113, 32, 109, 115, 101, 108, 32, 112, 97, 114, 32, 110, 111, 116, 32, 114, 101, 112, 101, 97, 116, 32, 105, 102, 32, 115, 101, 116, 32, 100, 111, 32, 117, 115, 101, 32, 112, 105, 99, 107, 32, 112, 108, 97, 110, 32, 111, 107, 32, 102, 97, 105, 108, 32, 119, 97, 105, 116, 32, 118, 97, 114, 32, 97, 99, 116, 32, 99, 111, 115, 116, 32, 110, 101, 101, 100, 32, 109, 97, 107, 101, 32, 103, 111, 97, 108, 32, 116, 114, 117, 101, 32, 102, 97, 108, 115, 101, 32, 115, 101, 108, 102, 32, 116, 105, 109, 101, 32, 97, 110, 100, 32, 111, 114, 32, 114, 101, 32, 105, 109, 32, 116, 117, 114, 110, 32, 102, 97, 114]
def wordList : List (List Nat) := [[107, 101, 121], [116, 114, 101, 101], [100, 111, 109, 97, 105, 110], [111, 119, 110], [115, 104, 97, 114, 101, 100], [105, 110, 116], [98, 111, 111, 108], [114, 101, 102], [115, 121, 109], [112, 111, 105, 110, 116], [115, 101, 113], [115, 101, 108], [109, 115, 101, 113], [109, 115, 101, 108], [112, 97, 114], [110, 111, 116], [114, 101, 112, 101, 97, 116], [105, 102], [115, 101, 116], [100, 111], [117, 115, 101], [112, 105, 99, 107], [112, 108, 97, 110], [111, 107], [102, 97, 105, 108], [119, 97, 105, 116], [118, 97, 114], [97, 99, 116], [99, 111, 115, 116], [110, 101, 101, 100], [109, 97, 107, 101], [103, 111, 97, 108], [116, 114, 117, 101], [102, 97, 108, 115, 101], [115, 101, 108, 102], [116, 105, 109, 101], [97, 110, 100], [111, 114], [114, 101], [105, 109], [116, 117, 114, 110], [102, 97, 114]]
def signsT : List Nat := [58, 61, 32, 60, 61, 32, 62, 61, 32, 61, 61, 32, 123, 32, 125, 32, 40, 32, 41, 32, 59, 32, 58, 32, 61, 32, 60, 32, 43, 32, 45, 32, 42, 32, 47, 32, 44, 32, 39]
def signList : List (List Nat) := [[58, 61], [60, 61], [62, 61], [61, 61], [123], [125], [40], [41], [59], [58], [61], [60], [43], [45], [42], [47], [44], [39]]
def isLetter (c : Nat) : Prop := (97 ≤ c ∧ c ≤ 122) ∨ (65 ≤ c ∧ c ≤ 90)
def isDigit (c : Nat) : Prop := 48 ≤ c ∧ c ≤ 57
def goes (c : Nat) : Prop := isLetter c ∨ isDigit c ∨ c = 95
def isBlank (c : Nat) : Prop := c = 32 ∨ c = 9 ∨ c = 10 ∨ c = 13
instance (c : Nat) : Decidable (isLetter c) := inferInstanceAs (Decidable (_ ∨ _))
instance (c : Nat) : Decidable (isDigit c) := inferInstanceAs (Decidable (_ ∧ _))
instance (c : Nat) : Decidable (goes c) := inferInstanceAs (Decidable (_ ∨ _))
instance (c : Nat) : Decidable (isBlank c) := inferInstanceAs (Decidable (_ ∨ _))

def dom (f : Nat) : Bool := f == 16 || f == 56 || f == 58 || f == 64
def tbl (f : Nat) (a : List V) : Option V :=
  if f = 16 then (match a with
    | [] => some aliveV
    | _ => none)
  else if f = 56 then (match a with
    | [] => some refSignsV
    | _ => none)
  else if f = 58 then (match a with
    | [.str s] => if s = wordsT then some wordsV else if s = signsT then some signsV else none
    | _ => none)
  else if f = 64 then (match a with
    | [.str s] => if s = [32, 9, 10, 13] then some blankV else none
    | _ => none)
  else none
def D1 : OCtx := { D with orc := factsOrc dom tbl }
theorem alive_pu : PuF D1 16 [] (.bool true) := PuF.orc rfl fun _ => rfl
theorem refSigns_pu : PuF D1 56 [] (.fsl (signList.map V.str) none) := PuF.orc rfl fun _ => rfl
theorem words_tbl : tbl 58 [.str wordsT] = some wordsV := by simp [tbl]
theorem signs_ne : signsT ≠ wordsT := by decide
theorem signs_tbl : tbl 58 [.str signsT] = some signsV := by simp [tbl, signs_ne]
theorem blank_tbl : tbl 64 [.str [32, 9, 10, 13]] = some blankV := by simp [tbl]
theorem fields_words : PuF D1 58 [.str wordsT] (.fsl (wordList.map V.str) none) := PuF.orc (g := fun a h => match tbl 58 a with
    | some u => some (.ret u, h)
    | none => none) rfl fun _ => by rw [words_tbl]; rfl
theorem fields_signs : PuF D1 58 [.str signsT] (.fsl (signList.map V.str) none) := PuF.orc (g := fun a h => match tbl 58 a with
    | some u => some (.ret u, h)
    | none => none) rfl fun _ => by rw [signs_tbl]; rfl
def blankCells : List V := (List.range 256).map fun c => .bool (decide (isBlank c))
theorem blank_set : PuF D1 64 [.str [32, 9, 10, 13]] (.tup [.agg blankCells, .bool true]) := PuF.orc (g := fun a h => match tbl 64 a with
    | some u => some (.ret u, h)
    | none => none) rfl fun _ => by
      rw [blank_tbl]
      have : blankV = .tup [.agg blankCells, .bool true] := beq_sound _ _ (by kernel_rfl)
      rw [this]

theorem btrue {p : Prop} [Decidable p] (h : p) : true = decide p := by simp [h]
theorem bfalse {p : Prop} [Decidable p] (h : ¬ p) : false = decide p := by simp [h]
theorem bsame {p q : Prop} [Decidable p] [Decidable q] (h : p ↔ q) : decide p = decide q := by simp [h]
theorem bval {b c : Bool} (h : b = c) : some (V.bool b) = some (V.bool c) := by rw [h]
theorem not_dec {p : Prop} [Decidable p] (h : ¬ p) : decide p = false := decide_eq_false h
theorem yes_dec {p : Prop} [Decidable p] (h : p) : decide p = true := decide_eq_true h

theorem vletter_pu (c : Nat) : PuF D1 28 [.int .u8 c] (.bool (decide (isLetter c))) := by
  refine PuF.tidy rfl rfl rfl rfl rfl fun h hf => ?_
  repeat' (first
      | refine W.seq ?_ | refine W.region ?_ | refine WS.nil ?_ | refine W.skip ?_ | refine W.block ?_ | refine W.ret ?_ | refine W.exit ?_ | refine W.no rfl rfl ?_ | refine W.fork rfl (fun _ => ?_) (fun _ => ?_) | refine WS.guardT rfl ?_ | refine WS.guardF rfl rfl rfl ?_ | refine WS.guardV rfl rfl ?_ | refine WS.guardK rfl (fun _ => ?_) (fun _ => ?_) | refine WS.near rfl o_mov rfl ?_ | refine WS.near rfl o_pickT rfl ?_ | refine WS.near rfl o_pickF rfl ?_ | refine WS.near rfl o_lss rfl ?_ | refine WS.near rfl o_leq rfl ?_ | refine WS.near rfl o_geq rfl ?_ | refine WS.near rfl o_eql rfl ?_ | refine WS.near rfl o_lenS rfl ?_ | refine WS.near rfl (o_add (by omega) (by omega)) rfl ?_ | refine WS.near rfl (o_index _ rfl (by omega)) rfl ?_)
  all_goals
    refine ⟨_, rfl, fin_bool ?_⟩
    first
      | exact btrue (by unfold isLetter; omega)
      | exact bfalse (by unfold isLetter; omega)
      | exact bsame (by unfold isLetter; omega)
theorem letter_pu (c : Nat) : PuF D1 49 [.int .u8 c] (.bool (decide (isLetter c))) := by
  refine PuF.tidy rfl rfl rfl rfl rfl fun h hf => ?_
  repeat' (first
      | refine W.seq ?_ | refine W.region ?_ | refine WS.nil ?_ | refine W.skip ?_ | refine W.block ?_ | refine W.ret ?_ | refine W.exit ?_ | refine W.no rfl rfl ?_ | refine W.fork rfl (fun _ => ?_) (fun _ => ?_) | refine WS.guardT rfl ?_ | refine WS.guardF rfl rfl rfl ?_ | refine WS.guardV rfl rfl ?_ | refine WS.guardK rfl (fun _ => ?_) (fun _ => ?_) | refine WS.near rfl o_mov rfl ?_ | refine WS.near rfl o_pickT rfl ?_ | refine WS.near rfl o_pickF rfl ?_ | refine WS.near rfl o_lss rfl ?_ | refine WS.near rfl o_leq rfl ?_ | refine WS.near rfl o_geq rfl ?_ | refine WS.near rfl o_eql rfl ?_ | refine WS.near rfl o_lenS rfl ?_ | refine WS.near rfl (o_add (by omega) (by omega)) rfl ?_ | refine WS.near rfl (o_index _ rfl (by omega)) rfl ?_)
  all_goals
    refine ⟨_, rfl, fin_bool ?_⟩
    first
      | exact btrue (by unfold isLetter; omega)
      | exact bfalse (by unfold isLetter; omega)
      | exact bsame (by unfold isLetter; omega)
theorem digit_pu (c : Nat) : PuF D1 50 [.int .u8 c] (.bool (decide (isDigit c))) := by
  refine PuF.tidy rfl rfl rfl rfl rfl fun h hf => ?_
  repeat' (first
      | refine W.seq ?_ | refine W.region ?_ | refine WS.nil ?_ | refine W.skip ?_ | refine W.block ?_ | refine W.ret ?_ | refine W.exit ?_ | refine W.no rfl rfl ?_ | refine W.fork rfl (fun _ => ?_) (fun _ => ?_) | refine WS.guardT rfl ?_ | refine WS.guardF rfl rfl rfl ?_ | refine WS.guardV rfl rfl ?_ | refine WS.guardK rfl (fun _ => ?_) (fun _ => ?_) | refine WS.near rfl o_mov rfl ?_ | refine WS.near rfl o_pickT rfl ?_ | refine WS.near rfl o_pickF rfl ?_ | refine WS.near rfl o_lss rfl ?_ | refine WS.near rfl o_leq rfl ?_ | refine WS.near rfl o_geq rfl ?_ | refine WS.near rfl o_eql rfl ?_ | refine WS.near rfl o_lenS rfl ?_ | refine WS.near rfl (o_add (by omega) (by omega)) rfl ?_ | refine WS.near rfl (o_index _ rfl (by omega)) rfl ?_)
  all_goals
    refine ⟨_, rfl, fin_bool ?_⟩
    first
      | exact btrue (by unfold isDigit; omega)
      | exact bfalse (by unfold isDigit; omega)
      | exact bsame (by unfold isDigit; omega)
theorem goes_pu (c : Nat) : PuF D1 29 [.int .u8 c] (.bool (decide (goes c))) := by
  refine PuF.tidy rfl rfl rfl rfl rfl fun h hf => ?_
  repeat' (first
      | refine W.seq ?_ | refine W.region ?_ | refine WS.nil ?_ | refine W.skip ?_ | refine W.block ?_ | refine W.ret ?_ | refine W.exit ?_ | refine W.no rfl rfl ?_ | refine W.fork rfl (fun _ => ?_) (fun _ => ?_) | refine WS.guardT rfl ?_ | refine WS.guardF rfl rfl rfl ?_ | refine WS.guardV rfl rfl ?_ | refine WS.guardK rfl (fun _ => ?_) (fun _ => ?_) | refine WS.near rfl o_mov rfl ?_ | refine WS.near rfl o_pickT rfl ?_ | refine WS.near rfl o_pickF rfl ?_ | refine WS.near rfl o_lss rfl ?_ | refine WS.near rfl o_leq rfl ?_ | refine WS.near rfl o_geq rfl ?_ | refine WS.near rfl o_eql rfl ?_ | refine WS.near rfl o_lenS rfl ?_ | refine WS.near rfl (o_add (by omega) (by omega)) rfl ?_ | refine WS.near rfl (o_index _ rfl (by omega)) rfl ?_)
  refine WS.puF hf rfl rfl (vletter_pu c) ?_
  repeat' (first
      | refine W.seq ?_ | refine W.region ?_ | refine WS.nil ?_ | refine W.skip ?_ | refine W.block ?_ | refine W.ret ?_ | refine W.exit ?_ | refine W.no rfl rfl ?_ | refine W.fork rfl (fun _ => ?_) (fun _ => ?_) | refine WS.guardT rfl ?_ | refine WS.guardF rfl rfl rfl ?_ | refine WS.guardV rfl rfl ?_ | refine WS.guardK rfl (fun _ => ?_) (fun _ => ?_) | refine WS.near rfl o_mov rfl ?_ | refine WS.near rfl o_pickT rfl ?_ | refine WS.near rfl o_pickF rfl ?_ | refine WS.near rfl o_lss rfl ?_ | refine WS.near rfl o_leq rfl ?_ | refine WS.near rfl o_geq rfl ?_ | refine WS.near rfl o_eql rfl ?_ | refine WS.near rfl o_lenS rfl ?_ | refine WS.near rfl (o_add (by omega) (by omega)) rfl ?_ | refine WS.near rfl (o_index _ rfl (by omega)) rfl ?_)
  all_goals
    refine ⟨_, rfl, fin_bool ?_⟩
    first
      | exact btrue (by unfold goes isDigit isLetter at *; omega)
      | exact bfalse (by unfold goes isDigit isLetter at *; omega)
      | exact bsame (by unfold goes isDigit isLetter at *; omega)

/-- how many bytes a name may have -/
def runLen : List Nat → Nat
  | [] => 0
  | c :: r => if goes c then runLen r + 1 else 0
theorem runLen_at {s : List Nat} {i : Nat} (hi : i < s.length) : runLen (s.drop i) = if goes (at' s i) then runLen (s.drop (i + 1)) + 1 else 0 := by
  have : s.drop i = at' s i :: s.drop (i + 1) := by rw [List.drop_eq_getElem_cons hi]; simp [at', List.getD, hi]
  rw [this, runLen]
theorem runLen_end {s : List Nat} {i : Nat} (hi : s.length ≤ i) : runLen (s.drop i) = 0 := by rw [List.drop_eq_nil_of_le hi]; rfl
theorem runLen_le : ∀ s : List Nat, runLen s ≤ s.length
  | [] => Nat.le_refl _
  | c :: r => by
    simp only [runLen, List.length_cons]
    split
    · have := runLen_le r; omega
    · omega

theorem run_pu (s : List Nat) (hs : s.length < 2 ^ 60) : PuF D1 48 [.str s] (.int .i64 (runLen s)) := by
  refine PuF.tidy rfl rfl rfl rfl rfl fun h hf => ?_
  repeat' (first
      | refine W.seq ?_ | refine W.region ?_ | refine WS.nil ?_ | refine W.skip ?_ | refine W.block ?_ | refine W.ret ?_ | refine W.exit ?_ | refine W.no rfl rfl ?_ | refine W.fork rfl (fun _ => ?_) (fun _ => ?_) | refine WS.guardT rfl ?_ | refine WS.guardF rfl rfl rfl ?_ | refine WS.guardV rfl rfl ?_ | refine WS.guardK rfl (fun _ => ?_) (fun _ => ?_) | refine WS.near rfl o_mov rfl ?_ | refine WS.near rfl o_pickT rfl ?_ | refine WS.near rfl o_pickF rfl ?_ | refine WS.near rfl o_lss rfl ?_ | refine WS.near rfl o_leq rfl ?_ | refine WS.near rfl o_geq rfl ?_ | refine WS.near rfl o_eql rfl ?_ | refine WS.near rfl o_lenS rfl ?_ | refine WS.near rfl (o_add (by omega) (by omega)) rfl ?_ | refine WS.near rfl (o_index _ rfl (by omega)) rfl ?_)
  refine W.loop (fun i : Nat => [(0, .str s), (2, .int .i64 i)]) (fun _ => hp h []) (fun i => i ≤ s.length ∧ i + runLen (s.drop i) = runLen s) (fun i => s.length - i) 0 ⟨by omega, by simp⟩ ⟨rfl, rfl, trivial⟩ rfl ?_
  rintro i ⟨hi, hr⟩
  repeat' (first
      | refine W.seq ?_ | refine W.region ?_ | refine WS.nil ?_ | refine W.skip ?_ | refine W.block ?_ | refine W.ret ?_ | refine W.exit ?_ | refine W.no rfl rfl ?_ | refine W.fork rfl (fun _ => ?_) (fun _ => ?_) | refine WS.guardT rfl ?_ | refine WS.guardF rfl rfl rfl ?_ | refine WS.guardV rfl rfl ?_ | refine WS.guardK rfl (fun _ => ?_) (fun _ => ?_) | refine WS.near rfl o_mov rfl ?_ | refine WS.near rfl o_pickT rfl ?_ | refine WS.near rfl o_pickF rfl ?_ | refine WS.near rfl o_lss rfl ?_ | refine WS.near rfl o_leq rfl ?_ | refine WS.near rfl o_geq rfl ?_ | refine WS.near rfl o_eql rfl ?_ | refine WS.near rfl o_lenS rfl ?_ | refine WS.near rfl (o_add (by omega) (by omega)) rfl ?_ | refine WS.near rfl (o_index _ rfl (by omega)) rfl ?_)
  · rename_i hlt
    rw [runLen_at (by omega)] at hr
    refine WS.puF hf rfl rfl (goes_pu _) ?_
    repeat' (first
        | refine W.seq ?_ | refine W.region ?_ | refine WS.nil ?_ | refine W.skip ?_ | refine W.block ?_ | refine W.ret ?_ | refine W.exit ?_ | refine W.no rfl rfl ?_ | refine W.fork rfl (fun _ => ?_) (fun _ => ?_) | refine WS.guardT rfl ?_ | refine WS.guardF rfl rfl rfl ?_ | refine WS.guardV rfl rfl ?_ | refine WS.guardK rfl (fun _ => ?_) (fun _ => ?_) | refine WS.near rfl o_mov rfl ?_ | refine WS.near rfl o_pickT rfl ?_ | refine WS.near rfl o_pickF rfl ?_ | refine WS.near rfl o_lss rfl ?_ | refine WS.near rfl o_leq rfl ?_ | refine WS.near rfl o_geq rfl ?_ | refine WS.near rfl o_eql rfl ?_ | refine WS.near rfl o_lenS rfl ?_ | refine WS.near rfl (o_add (by omega) (by omega)) rfl ?_ | refine WS.near rfl (o_index _ rfl (by omega)) rfl ?_)
    · rename_i hg
      rw [if_pos hg] at hr
      exact ⟨i + 1, ⟨by omega, by omega⟩, (by show s.length - (i + 1) < s.length - i; omega), ⟨rfl, rfl, trivial⟩, rfl⟩
    · rename_i hg
      rw [if_neg hg] at hr
      exact ⟨_, rfl, fin_int (by omega)⟩
  · rename_i hge
    rw [runLen_end (by omega)] at hr
    exact ⟨_, rfl, fin_int (by omega)⟩
end Go.Proofs.YthclejjieggdkaaDoor.CodesL
