/- Expressions: names, and the calls that do not hang on the arguments. -/
import Derived.Test.YtfbikhkmamdjmaaDoorCodesK
import Derived.Test.YtfbikhkmamdjmaaDoorAb5
namespace Go.Proofs.YtfbikhkmamdjmaaDoor.CodesK
open Go Go.Ab
set_option maxHeartbeats 800000

def i64 (n : Int) : V := .int .i64 n
def wordsT : List Nat := [107, 101, 121, 32, 116, 114, 101, 101, 32, 100, 111, 109, 97, 105, 110, 32, 111, 119, 110, 32, 115, 104, 97, 114, 101, 100, 32, 105, 110, 116, 32, 98, 111, 111, 108, 32, 114, 101, 102, 32, 115, 121, 109, 32, 112, 111, 105, 110, 116, 32, 115, 101, 113, 32, 115, 101, 108, 32, 109, 115, 101, 113, 32, 109, 115, 101, 108, 32, 112, 97, 114, 32, 110, 111, 116, 32, 114, 101, 112, 101, 97, 116, 32, 105, 102, 32, 115, 101, 116, 32, 100, 111, 32, 117, 115, 101, 32, 112, 105, 99, 107, 32, 112, 108, 97, 110, 32, 111, 107, 32, 102, 97, 105, 108, 32, 119, 97, 105, 116, 32, 118, 97, 114, 32, 97, 99, 116, 32, 99, 111, 115, 116, 32, 110, 101, 101, 100, 32, 109, 97, 107, 101, 32, 103, 111, 97, 108, 32, 116, 114, 117, 101, 32, 102, 97, 108, 115, 101, 32, 115, 101, 108, 102, 32, 116, 105, 109, 101, 32, 97, 110, 100, 32, 111, 114, 32, 114, 101, 32, 105, 109, 32, 116, 117, 114, 110, 32, 102, 97, 114]
def wordList : List (List Nat) := [[107, 101, 121], [116, 114, 101, 101], [100, 111, 109, 97, 105, 110], [111, 119, 110], [115, 104, 97, 114, 101, 100], [105, 110, 116], [98, 111, 111, 108], [114, 101, 102], [115, 121, 109], [112, 111, 105, 110, 116], [115, 101, 113], [115, 101, 108], [109, 115, 101, 113], [109, 115, 101, 108], [112, 97, 114], [110, 111, 116], [114, 101, 112, 101, 97, 116], [105, 102], [115, 101, 116], [100, 111], [117, 115, 101], [112, 105, 99, 107], [112, 108, 97, 110], [111, 107], [102, 97, 105, 108], [119, 97, 105, 116], [118, 97, 114], [97, 99, 116], [99, 111, 115, 116], [110, 101, 101, 100], [109, 97, 107, 101], [103, 111, 97, 108], [116, 114, 117, 101], [102, 97, 108, 115, 101], [115, 101, 108, 102], [116, 105, 109, 101], [97, 110, 100], [111, 114], [114, 101], [105, 109], [116, 117, 114, 110], [102, 97, 114]]
def isLetter (c : Nat) : Prop := (97 ≤ c ∧ c ≤ 122) ∨ (65 ≤ c ∧ c ≤ 90)
def isDigit (c : Nat) : Prop := 48 ≤ c ∧ c ≤ 57
def goes (c : Nat) : Prop := isLetter c ∨ isDigit c ∨ c = 95
instance (c : Nat) : Decidable (isLetter c) := inferInstanceAs (Decidable (_ ∨ _))
instance (c : Nat) : Decidable (isDigit c) := inferInstanceAs (Decidable (_ ∧ _))
instance (c : Nat) : Decidable (goes c) := inferInstanceAs (Decidable (_ ∨ _))
def kidsL : List Int := [0, 0, 0, 0, 0, 0, 2, 2, 2, 2, 2, 2, 2, 2, 1, 2, 1, 1, 1, 2]
def formT : List (List Nat) := [[], [], [], [], [115, 101, 108, 102], [116, 105, 109, 101], [43], [45], [42], [47], [61, 61], [60], [97, 110, 100], [111, 114], [110, 111, 116], [44], [114, 101], [105, 109], [116, 117, 114, 110], [102, 97, 114]]
def formV (k : Nat) : V := .agg [i64 (kidsL.getD k 0), .str (formT.getD k [])]
def formsL : List V := (List.range 20).map formV
def formsV : V := .fsl formsL none
def wordsV : V := .fsl (wordList.map V.str) none
set_option maxRecDepth 100000 in
theorem alive_w : CallW D 15 [] Heap.empty fun v _ => v = .bool true := evalW (n := 100000) (by kernel_rfl)
set_option maxRecDepth 100000 in
theorem words_w : CallW D 216 [.str wordsT] Heap.empty fun v _ => v = wordsV := evalW (n := 100000) (by kernel_rfl)
set_option maxRecDepth 100000 in
theorem forms_w : CallW D 117 [] Heap.empty fun v _ => v = formsV := evalW (n := 100000) (by kernel_rfl)
def e10 : List V → Option V
  | [] => some (.bool true)
  | _ => none
def e216 : List V → Option V
  | [.str s] => if s = wordsT then some wordsV else none
  | _ => none
def e117 : List V → Option V
  | [] => some formsV
  | _ => none
theorem e10_ok : Said D 15 e10 := by
  intro a u h
  unfold e10 at h
  split at h
  · cases h
    exact ⟨rfl, rfl, alive_w⟩
  · cases h
theorem e216_ok : Said D 216 e216 := by
  intro a u h
  unfold e216 at h
  split at h
  · split at h
    · rename_i hs
      subst hs
      cases h
      exact ⟨rfl, by kernel_rfl, words_w⟩
    · cases h
  · cases h
theorem e117_ok : Said D 117 e117 := by
  intro a u h
  unfold e117 at h
  split at h
  · cases h
    exact ⟨rfl, by kernel_rfl, forms_w⟩
  · cases h
def l1 : List (Nat × (List V → Option V)) := [(15, e10), (216, e216), (117, e117)]
noncomputable def D1 : OCtx := over D l1
theorem l1_ok : ∀ p ∈ l1, Said D p.1 p.2 := by
  intro p hp
  simp only [l1, List.mem_cons, List.not_mem_nil, or_false] at hp
  rcases hp with rfl | rfl | rfl
  · exact e10_ok
  · exact e216_ok
  · exact e117_ok
theorem alive_pu : PuF D1 15 [] (.bool true) := (FactIn.top (D := D) (l := l1) (f := 15) (a := []) (u := .bool true) rfl rfl).pu
set_option maxRecDepth 100000 in
theorem fields_words : PuF D1 216 [.str wordsT] wordsV := (FactIn.top (D := D) (l := l1) (f := 216) (a := [.str wordsT]) (u := wordsV) rfl (show (if wordsT = wordsT then some wordsV else none) = some wordsV from if_pos rfl)).pu
theorem forms_pu : PuF D1 117 [] formsV := (FactIn.top (D := D) (l := l1) (f := 117) (a := []) (u := formsV) rfl rfl).pu

theorem btrue {p : Prop} [Decidable p] (h : p) : true = decide p := by simp [h]
theorem bfalse {p : Prop} [Decidable p] (h : ¬ p) : false = decide p := by simp [h]
theorem bsame {p q : Prop} [Decidable p] [Decidable q] (h : p ↔ q) : decide p = decide q := by simp [h]
theorem bval {b c : Bool} (h : b = c) : some (V.bool b) = some (V.bool c) := by rw [h]
theorem not_dec {p : Prop} [Decidable p] (h : ¬ p) : decide p = false := decide_eq_false h
theorem yes_dec {p : Prop} [Decidable p] (h : p) : decide p = true := decide_eq_true h

theorem vletter_pu (c : Nat) : PuF D1 214 [.int .u8 c] (.bool (decide (isLetter c))) := by
  refine PuF.tidy rfl rfl rfl rfl rfl fun h hf => ?_
  repeat' (first
      | refine W.seq ?_ | refine W.region ?_ | refine WS.nil ?_ | refine W.ret ?_ | refine WS.guardT rfl ?_ | refine WS.guardF rfl rfl rfl ?_ | refine WS.guardV rfl rfl ?_ | refine WS.guardK rfl (fun _ => ?_) (fun _ => ?_) | refine WS.near rfl o_mov rfl ?_ | refine WS.near rfl o_pickT rfl ?_ | refine WS.near rfl o_pickF rfl ?_ | refine WS.near rfl o_leq rfl ?_ | refine WS.near rfl o_geq rfl ?_ | fail)
  all_goals
    refine ⟨_, rfl, fin_bool ?_⟩
    first
      | exact btrue (by unfold isLetter; omega)
      | exact bfalse (by unfold isLetter; omega)
      | exact bsame (by unfold isLetter; omega)
theorem goes_pu (c : Nat) : PuF D1 215 [.int .u8 c] (.bool (decide (goes c))) := by
  refine PuF.tidy rfl rfl rfl rfl rfl fun h hf => ?_
  repeat' (first
      | refine W.seq ?_ | refine W.region ?_ | refine WS.nil ?_ | refine WS.near rfl o_mov rfl ?_ | fail)
  refine WS.puF hf rfl rfl (vletter_pu c) ?_
  repeat' (first
      | refine WS.nil ?_ | refine W.ret ?_ | refine WS.guardT rfl ?_ | refine WS.guardF rfl rfl rfl ?_ | refine WS.guardV rfl rfl ?_ | refine WS.guardK rfl (fun _ => ?_) (fun _ => ?_) | refine WS.near rfl o_pickT rfl ?_ | refine WS.near rfl o_pickF rfl ?_ | refine WS.near rfl o_leq rfl ?_ | refine WS.near rfl o_geq rfl ?_ | refine WS.near rfl o_eql rfl ?_ | fail)
  all_goals
    refine ⟨_, rfl, fin_bool ?_⟩
    first
      | exact btrue (by unfold goes isDigit isLetter at *; omega)
      | exact bfalse (by unfold goes isDigit isLetter at *; omega)
      | exact bsame (by unfold goes isDigit isLetter at *; omega)

/-- where a text stands in a row of texts; below 0: nowhere -/
def ixL (x : List Nat) : Nat → List (List Nat) → Int
  | _, [] => -1
  | i, y :: r => if x = y then (i : Nat) else ixL x (i + 1) r
theorem ixL_at {l : List (List Nat)} {i : Nat} (hi : i < l.length) (x : List Nat) (k : Nat) : ixL x k (l.drop i) = (if x = strAt l i then ((k : Nat) : Int) else ixL x (k + 1) (l.drop (i + 1)) : Int) := by
  have : l.drop i = strAt l i :: l.drop (i + 1) := by rw [List.drop_eq_getElem_cons hi]; simp [strAt, List.getD, hi]
  rw [this, ixL]
theorem ixL_mem (x : List Nat) : ∀ (l : List (List Nat)) (i : Nat), 0 ≤ ixL x i l ↔ x ∈ l
  | [], i => by simp [ixL]
  | y :: r, i => by
    simp only [ixL, List.mem_cons]
    by_cases h : x = y
    · simp [h]
    · simp only [h, if_false, false_or]; exact ixL_mem x r (i + 1)

theorem index_pu (l : List (List Nat)) (c : Option Nat) (x : List Nat) (hl : l.length < 2 ^ 60) : PuF D1 207 [.fsl (l.map V.str) c, .str x] (.int .i64 (ixL x 0 l)) := by
  refine PuF.tidy rfl rfl rfl rfl rfl fun h hf => ?_
  repeat' (first
      | refine W.seq ?_ | refine W.region ?_ | refine WS.nil ?_ | refine W.block ?_ | refine WS.near rfl o_mov rfl ?_ | refine WS.near rfl o_lenL rfl ?_ | refine WS.near rfl o_lenL rfl ?_ | fail)
  refine W.loop (fun i : Nat => [(0, .fsl (l.map V.str) c), (1, .str x), (4, .int .i64 l.length), (5, .int .i64 i)]) (fun _ => hp h []) (fun i => i ≤ l.length ∧ ixL x i (l.drop i) = ixL x 0 l) (fun i => l.length - i) 0 ⟨by omega, rfl⟩ ⟨rfl, rfl, rfl, rfl, trivial⟩ rfl ?_
  rintro i ⟨hi, hr⟩
  repeat' (first
      | refine W.seq ?_ | refine W.region ?_ | refine WS.nil ?_ | refine W.skip ?_ | refine W.block ?_ | refine W.ret ?_ | refine W.exit ?_ | refine W.fork rfl (fun _ => ?_) (fun _ => ?_) | refine WS.near rfl o_mov rfl ?_ | refine WS.near rfl o_lss rfl ?_ | refine WS.near rfl o_seql rfl ?_ | refine WS.near rfl o_loadF rfl ?_ | refine WS.near rfl (o_add (by omega) (by omega)) rfl ?_ | refine WS.near rfl (o_iaddrL _ rfl (by omega)) rfl ?_ | fail)
  · rename_i hlt heq
    rw [ixL_at (by omega), if_pos heq] at hr
    exact ⟨_, rfl, fin_int hr⟩
  · rename_i hlt hne
    rw [ixL_at (by omega), if_neg hne] at hr
    exact ⟨i + 1, ⟨by omega, hr⟩, (by show l.length - (i + 1) < l.length - i; omega), ⟨rfl, rfl, rfl, rfl, trivial⟩, rfl⟩
  · rename_i hge
    rw [List.drop_eq_nil_of_le (by omega)] at hr
    exact ⟨_, rfl, fin_int hr⟩

theorem contains_pu (l : List (List Nat)) (c : Option Nat) (x : List Nat) (hl : l.length < 2 ^ 60) : PuF D1 163 [.fsl (l.map V.str) c, .str x] (.bool (decide (x ∈ l))) := by
  refine PuF.tidy rfl rfl rfl rfl rfl fun h hf => ?_
  repeat' (first
      | refine W.seq ?_ | refine W.region ?_ | refine WS.nil ?_ | refine WS.near rfl o_mov rfl ?_ | fail)
  refine WS.puF hf rfl rfl (index_pu l c x hl) ?_
  repeat' (first
      | refine WS.nil ?_ | refine W.ret ?_ | refine WS.near rfl o_geq rfl ?_ | fail)
  exact ⟨_, rfl, fin_bool (bsame (ixL_mem x l 0))⟩

set_option maxRecDepth 20000
theorem words_len : wordList.length < 2 ^ 60 := by decide
theorem word_pu (s : List Nat) : PuF D1 171 [.str s] (.bool (decide (s ∈ wordList))) := by
  refine PuF.tidy rfl rfl rfl rfl rfl fun h hf => ?_
  repeat' (first
      | refine W.seq ?_ | refine W.region ?_ | refine WS.nil ?_ | refine WS.near rfl o_mov rfl ?_ | fail)
  refine WS.puF hf rfl rfl fields_words ?_
  repeat' (first
      | refine W.ret ?_ | fail)
  refine WS.puF hf rfl rfl (contains_pu wordList none s words_len) ?_
  repeat' (first
      | refine WS.nil ?_ | refine W.ret ?_ | fail)
  exact ⟨_, rfl, fin_bool rfl⟩

theorem word_load {i : Nat} (hi : i < wordList.length) : hload (badd [] (wordList.map V.str)) 0 ((0 + i) * 1) = some (.str (strAt wordList i)) := by
  have h1 : i < (wordList.map V.str).length := by simpa using hi
  have h2 : (0 + i) * 1 = i := by omega
  show ((wordList.map V.str).drop ((0 + i) * 1)).head? = _
  rw [h2, List.drop_eq_getElem_cons h1]
  simp [strAt, List.getD, hi]
/-- the texts of the first literal of a code -/
def litOf : ACode → List V
  | .region l => (l.findSome? fun s => match s.op with
    | .lit _ z _ _ => some z
    | _ => none).getD []
  | .seq a b => match litOf a with
    | [] => litOf b
    | l => l
  | _ => []
def wordZ : List V := litOf c85.body
theorem wordZ_eq : wordZ = wordList.map V.str := beqs_sound _ _ (by kernel_rfl)
theorem refWord_pu (s : List Nat) : PuF D1 85 [.str s] (.bool (decide (s ∈ wordList))) := by
  have hL := words_len
  refine PuF.tidy rfl rfl rfl rfl rfl fun h hf => ?_
  repeat' (first
      | refine W.seq ?_ | refine W.region ?_ | refine WS.nil ?_ | refine WS.near rfl o_mov rfl ?_ | fail)
  refine WS.near rfl (o_litH 0 rfl (cs := wordZ) rfl) rfl ?_
  rw [wordZ_eq]
  repeat' (first
      | refine W.seq ?_ | refine W.region ?_ | refine WS.nil ?_ | refine W.block ?_ | refine WS.near rfl o_mov rfl ?_ | fail)
  refine W.loop (fun i : Nat => [(0, .str s), (2, .msl (h.next + 0) 1 0 wordList.length none), (3, .int .i64 i)]) (fun _ => hp h (badd [] (wordList.map V.str))) (fun i => i ≤ wordList.length ∧ s ∉ wordList.take i) (fun i => wordList.length - i) 0 ⟨by omega, by simp⟩ ⟨rfl, rfl, rfl, trivial⟩ rfl ?_
  rintro i ⟨hi, hr⟩
  repeat' (first
      | refine W.seq ?_ | refine W.region ?_ | refine WS.nil ?_ | refine W.skip ?_ | refine W.block ?_ | refine W.ret ?_ | refine W.exit ?_ | refine W.fork rfl (fun _ => ?_) (fun _ => ?_) | refine WS.near rfl o_mov rfl ?_ | refine WS.near rfl o_lss rfl ?_ | refine WS.near rfl o_lenM rfl ?_ | refine WS.near rfl (o_iaddrM rfl (by omega)) rfl ?_ | fail)
  · rename_i hlt
    refine WS.near rfl (o_loadH (word_load (by omega))) rfl ?_
    repeat' (first
        | refine W.seq ?_ | refine W.region ?_ | refine WS.nil ?_ | refine W.skip ?_ | refine W.ret ?_ | refine W.fork rfl (fun _ => ?_) (fun _ => ?_) | refine WS.near rfl o_mov rfl ?_ | refine WS.near rfl o_seql rfl ?_ | refine WS.near rfl (o_add (by omega) (by omega)) rfl ?_ | fail)
    · rename_i heq
      exact ⟨_, rfl, fin_bool (btrue (by rw [← heq]; exact List.mem_of_getElem? (strAt_get (by omega))))⟩
    · rename_i hne
      refine ⟨i + 1, ⟨by omega, fun hm => ?_⟩, (by show wordList.length - (i + 1) < wordList.length - i; omega), ⟨rfl, rfl, rfl, trivial⟩, rfl⟩
      rw [List.take_add_one, strAt_get (by omega)] at hm
      simp only [Option.toList_some, List.mem_append, List.mem_singleton] at hm
      rcases hm with hm | hm
      · exact hr hm
      · exact hne hm.symm
  · rename_i hge
    have : wordList.take i = wordList := List.take_of_length_le (by omega)
    rw [this] at hr
    exact ⟨_, rfl, fin_bool (bfalse hr)⟩
def named (s : List Nat) : Prop := 0 < s.length ∧ s.length ≤ 24 ∧ isLetter (at' s 0) ∧ ∀ i, i < s.length → goes (at' s i)

theorem name_pu (s : List Nat) [Decidable (named s)] : PuF D1 170 [.str s] (.bool (decide (named s))) := by
  refine PuF.tidy rfl rfl rfl rfl rfl fun h hf => ?_
  repeat' (first
      | refine W.seq ?_ | refine W.region ?_ | refine WS.nil ?_ | refine W.ret ?_ | refine W.yes rfl rfl ?_ | refine WS.guardT rfl ?_ | refine WS.guardF rfl rfl rfl ?_ | refine WS.guardK rfl (fun _ => ?_) (fun _ => ?_) | refine WS.near rfl o_mov rfl ?_ | refine WS.near rfl o_pickT rfl ?_ | refine WS.near rfl o_pickF rfl ?_ | refine WS.near rfl o_gtr rfl ?_ | refine WS.near rfl o_seql0 rfl ?_ | refine WS.near rfl o_lenS rfl ?_ | refine WS.near rfl (o_index 0 rfl (by omega)) rfl ?_ | fail)
  · exact ⟨_, rfl, fin_bool (bfalse (fun hn => by have := hn.1; omega))⟩
  · exact ⟨_, rfl, fin_bool (bfalse (fun hn => by have := hn.2.1; omega))⟩
  refine WS.puF hf rfl rfl (vletter_pu _) ?_
  repeat' (first
      | refine W.seq ?_ | refine W.region ?_ | refine WS.nil ?_ | refine W.skip ?_ | refine W.block ?_ | refine W.ret ?_ | refine W.fork rfl (fun _ => ?_) (fun _ => ?_) | refine WS.guardT rfl ?_ | refine WS.near rfl o_mov rfl ?_ | refine WS.near rfl o_pickF rfl ?_ | refine WS.near rfl o_not rfl ?_ | refine WS.near rfl o_lenB rfl ?_ | refine WS.near rfl o_s2b rfl ?_ | refine WS.near rfl o_lenB rfl ?_ | fail)
  · rename_i hl
    exact ⟨_, rfl, fin_bool (bfalse (fun hn => hl hn.2.2.1))⟩
  rename_i h1 h2 h3
  refine W.loop (fun i : Nat => [(0, .str s), (11, .fsl (s.map fun (b : Nat) => V.int .u8 (b : Int)) none), (12, .int .i64 s.length), (13, .int .i64 i)]) (fun _ => hp h []) (fun i => i ≤ s.length ∧ ∀ j, j < i → goes (at' s j))
    (fun i => s.length - i) 0 ⟨by omega, fun j hj => by omega⟩ (by refine ⟨?_, ?_, ?_, ?_, trivial⟩ <;> rfl) rfl ?_
  rintro i ⟨hi, hall⟩
  repeat' (first
      | refine W.seq ?_ | refine W.region ?_ | refine WS.nil ?_ | refine W.skip ?_ | refine W.block ?_ | refine W.ret ?_ | refine W.exit ?_ | refine W.fork rfl (fun _ => ?_) (fun _ => ?_) | refine WS.near rfl o_mov rfl ?_ | refine WS.near rfl o_lss rfl ?_ | refine WS.near rfl o_loadF rfl ?_ | refine WS.near rfl (o_iaddrB _ rfl (by omega)) rfl ?_ | fail)
  · refine WS.puF hf rfl rfl (goes_pu _) ?_
    repeat' (first
        | refine W.seq ?_ | refine W.region ?_ | refine WS.nil ?_ | refine W.skip ?_ | refine W.ret ?_ | refine W.fork rfl (fun _ => ?_) (fun _ => ?_) | refine WS.near rfl o_mov rfl ?_ | refine WS.near rfl o_not rfl ?_ | refine WS.near rfl (o_add (by omega) (by omega)) rfl ?_ | fail)
    · rename_i hlt hg
      exact ⟨_, rfl, fin_bool (bfalse (fun hn => hg (hn.2.2.2 i (by omega))))⟩
    · rename_i hlt hg
      refine ⟨i + 1, ⟨by omega, fun j hj => ?_⟩, (by show s.length - (i + 1) < s.length - i; omega), (by refine ⟨?_, ?_, ?_, ?_, trivial⟩ <;> rfl), rfl⟩
      by_cases hji : j = i
      · rw [hji]; exact Decidable.not_not.1 hg
      · exact hall j (by omega)
  · rename_i hlt
    exact ⟨_, rfl, fin_bool (btrue ⟨by omega, by omega, Decidable.not_not.1 h3, fun j hj => hall j (by omega)⟩)⟩

/-- what the document asks of a byte of a name -/
def okAt (s : List Nat) (i : Nat) : Prop := isLetter (at' s i) ∨ (0 < i ∧ goes (at' s i))
theorem named_iff {s : List Nat} : named s ↔ (1 ≤ s.length ∧ s.length ≤ 24) ∧ ∀ i, i < s.length → okAt s i := by
  unfold named okAt
  constructor
  · rintro ⟨h1, h2, h3, h4⟩
    refine ⟨⟨h1, h2⟩, fun i hi => ?_⟩
    by_cases h0 : i = 0
    · rw [h0]; exact .inl h3
    · exact .inr ⟨by omega, h4 i hi⟩
  · rintro ⟨⟨h1, h2⟩, h3⟩
    refine ⟨h1, h2, ?_, fun i hi => ?_⟩
    · rcases h3 0 (by omega) with h | h
      · exact h
      · omega
    · rcases h3 i hi with h | h
      · exact .inl h
      · exact h.2

set_option maxHeartbeats 1000000 in
open Classical in
theorem refNamed_pu (s : List Nat) (hs : s.length < 2 ^ 60) : PuF D1 46 [.str s] (.bool (decide (named s))) := by
  refine PuF.tidy rfl rfl rfl rfl rfl fun h hf => ?_
  refine W.seq ?_
  repeat' (first
      | refine W.region ?_ | refine WS.nil ?_ | refine WS.near rfl o_mov rfl ?_ | fail)
  refine W.seq ?_
  refine W.seq ?_
  repeat' (first
      | refine W.region ?_ | refine WS.nil ?_ | refine W.block ?_ | refine WS.near rfl o_mov rfl ?_ | fail)
  refine W.loop (fun i : Nat => [(0, .str s), (2, .int .i64 i)]) (fun _ => hp h []) (fun i => i ≤ s.length ∧ ∀ j, j < i → okAt s j) (fun i => s.length - i) 0 ⟨by omega, fun j hj => by omega⟩ ⟨rfl, rfl, trivial⟩ rfl ?_
  rintro i ⟨hi, hall⟩
  refine W.seq ?_
  refine W.seq ?_
  repeat' (first
      | refine W.region ?_ | refine WS.nil ?_ | refine W.skip ?_ | refine W.exit ?_ | refine W.fork rfl (fun _ => ?_) (fun _ => ?_) | refine WS.near rfl o_lss rfl ?_ | refine WS.near rfl o_lenS rfl ?_ | fail)
  · rename_i hlt
    refine W.seq ?_
    repeat' (first
        | refine W.block ?_ | fail)
    refine W.seq ?_
    repeat' (first
        | refine W.region ?_ | refine WS.nil ?_ | refine WS.near rfl (o_index _ rfl (by omega)) rfl ?_ | fail)
    refine W.meet (fun b => [(0, .str s), (2, .int .i64 i), (3, .int .u8 (at' s i : Nat)), (4, .bool b)]) (fun _ => hp h []) (fun b => b = decide (isLetter (at' s i))) ?_ ?_
    · skip
      repeat' (first
          | refine W.region ?_ | refine WS.nil ?_ | refine WS.guardT rfl ?_ | refine WS.guardF rfl rfl rfl ?_ | refine WS.guardV rfl rfl ?_ | refine WS.guardK rfl (fun _ => ?_) (fun _ => ?_) | refine WS.near rfl o_pickT rfl ?_ | refine WS.near rfl o_pickF rfl ?_ | refine WS.near rfl o_leq rfl ?_ | refine WS.near rfl o_geq rfl ?_ | fail)
      all_goals
        refine ⟨rfl, _, ?_, ⟨rfl, rfl, rfl, rfl, trivial⟩, rfl⟩
        first
          | exact btrue (by unfold isLetter; omega)
          | exact bfalse (by unfold isLetter; omega)
          | exact bsame (by unfold isLetter; omega)
    rintro b1 hb1
    refine W.meet (fun b => [(0, .str s), (2, .int .i64 i), (21, .bool b)]) (fun _ => hp h []) (fun b => b = decide (¬ okAt s i)) ?_ ?_
    · by_cases hL : isLetter (at' s i)
      · rw [yes_dec hL] at hb1
        subst hb1
        repeat' (first
            | refine W.region ?_ | refine WS.nil ?_ | refine WS.guardF rfl rfl rfl ?_ | refine WS.guardV rfl rfl ?_ | refine WS.near rfl o_pickF rfl ?_ | refine WS.near rfl o_notT rfl ?_ | fail)
        exact ⟨rfl, _, bfalse (fun hn => hn (.inl hL)), ⟨rfl, rfl, rfl, trivial⟩, rfl⟩
      · rw [not_dec hL] at hb1
        subst hb1
        repeat' (first
            | refine W.region ?_ | refine WS.nil ?_ | refine WS.guardT rfl ?_ | refine WS.guardF rfl rfl rfl ?_ | refine WS.guardV rfl rfl ?_ | refine WS.guardK rfl (fun _ => ?_) (fun _ => ?_) | refine WS.near rfl o_pickT rfl ?_ | refine WS.near rfl o_pickF rfl ?_ | refine WS.near rfl o_notF rfl ?_ | refine WS.near rfl o_lss rfl ?_ | refine WS.near rfl o_gtr rfl ?_ | refine WS.near rfl o_eql rfl ?_ | refine WS.near rfl o_neq rfl ?_ | fail)
        all_goals
          refine ⟨rfl, _, ?_, ⟨rfl, rfl, rfl, trivial⟩, rfl⟩
          unfold isLetter at hL
          first
            | exact btrue (by unfold okAt goes isDigit isLetter; omega)
            | exact bfalse (by unfold okAt goes isDigit isLetter; omega)
            | exact bsame (by unfold okAt goes isDigit isLetter; omega)
    rintro b2 rfl
    repeat' (first
        | refine W.seq ?_ | refine W.region ?_ | refine WS.nil ?_ | refine W.skip ?_ | refine W.ret ?_ | refine W.fork rfl (fun _ => ?_) (fun _ => ?_) | refine WS.near rfl o_mov rfl ?_ | refine WS.near rfl (o_add (by omega) (by omega)) rfl ?_ | fail)
    · rename_i hno
      exact ⟨_, rfl, fin_bool (bfalse (fun hn => hno ((named_iff.1 hn).2 i (by omega))))⟩
    · rename_i hyes
      refine ⟨i + 1, ⟨by omega, fun j hj => ?_⟩, (by show s.length - (i + 1) < s.length - i; omega), ⟨rfl, rfl, trivial⟩, rfl⟩
      by_cases hji : j = i
      · rw [hji]; exact Decidable.not_not.1 hyes
      · exact hall j (by omega)
  · rename_i hge
    have hall' : ∀ j, j < s.length → okAt s j := fun j hj => hall j (by omega)
    repeat' (first
        | refine W.seq ?_ | refine W.region ?_ | refine WS.nil ?_ | refine W.ret ?_ | refine WS.guardT rfl ?_ | refine WS.guardF rfl rfl rfl ?_ | refine WS.guardK rfl (fun _ => ?_) (fun _ => ?_) | refine WS.near rfl o_pickT rfl ?_ | refine WS.near rfl o_pickF rfl ?_ | refine WS.near rfl o_leq rfl ?_ | refine WS.near rfl o_geq rfl ?_ | refine WS.near rfl o_lenS rfl ?_ | fail)
    all_goals
      refine ⟨_, rfl, fin_bool ?_⟩
      first
        | exact btrue (p := named s) (named_iff.2 ⟨by omega, hall'⟩)
        | exact bfalse (p := named s) (fun (hn : named s) => by have := (named_iff.1 hn).1; omega)
        | exact bsame (q := named s) ⟨fun hh => named_iff.2 ⟨by omega, hall'⟩, fun (hn : named s) => by have := (named_iff.1 hn).1; omega⟩

def isName (s : List Nat) : Prop := named s ∧ s ∉ wordList
open Classical in
theorem lexName_pu (s : List Nat) : PuF D1 118 [.str s] (.bool (decide (isName s))) := by
  refine PuF.tidy rfl rfl rfl rfl rfl fun h hf => ?_
  repeat' (first
      | refine W.seq ?_ | refine W.region ?_ | refine WS.nil ?_ | refine WS.near rfl o_mov rfl ?_ | fail)
  refine WS.puF hf rfl rfl (name_pu s) ?_
  repeat' (first
      | refine WS.nil ?_ | refine W.ret ?_ | refine WS.guardT rfl ?_ | refine WS.guardF rfl rfl rfl ?_ | refine WS.guardK rfl (fun _ => ?_) (fun _ => ?_) | refine WS.near rfl o_pickF rfl ?_ | fail)
  · rename_i hn
    refine WS.puF hf rfl rfl (word_pu s) ?_
    repeat' (first
        | refine WS.nil ?_ | refine W.ret ?_ | refine WS.guardT rfl ?_ | refine WS.near rfl o_pickT rfl ?_ | refine WS.near rfl o_not rfl ?_ | fail)
    exact ⟨_, rfl, fin_bool (bsame ⟨fun hw => ⟨hn, hw⟩, fun hw => hw.2⟩)⟩
  · rename_i hn
    exact ⟨_, rfl, fin_bool (bfalse fun hw => hn hw.1)⟩
open Classical in
theorem refName_pu (s : List Nat) (hs : s.length < 2 ^ 60) : PuF D1 44 [.str s] (.bool (decide (isName s))) := by
  refine PuF.tidy rfl rfl rfl rfl rfl fun h hf => ?_
  repeat' (first
      | refine W.seq ?_ | refine W.region ?_ | refine WS.nil ?_ | refine WS.near rfl o_mov rfl ?_ | fail)
  refine WS.puF hf rfl rfl (refNamed_pu s hs) ?_
  repeat' (first
      | refine WS.nil ?_ | refine W.ret ?_ | refine WS.guardT rfl ?_ | refine WS.guardF rfl rfl rfl ?_ | refine WS.guardK rfl (fun _ => ?_) (fun _ => ?_) | refine WS.near rfl o_pickF rfl ?_ | fail)
  · rename_i hn
    refine WS.puF hf rfl rfl (refWord_pu s) ?_
    repeat' (first
        | refine WS.nil ?_ | refine W.ret ?_ | refine WS.guardT rfl ?_ | refine WS.near rfl o_pickT rfl ?_ | refine WS.near rfl o_not rfl ?_ | fail)
    exact ⟨_, rfl, fin_bool (bsame ⟨fun hw => ⟨hn, hw⟩, fun hw => hw.2⟩)⟩
  · rename_i hn
    exact ⟨_, rfl, fin_bool (bfalse fun hw => hn hw.1)⟩
end Go.Proofs.YtfbikhkmamdjmaaDoor.CodesK
