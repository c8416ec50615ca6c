/- The lexer: what its parts answer. -/
import Derived.Test.YtfbikhkmamdjmaaDoorCodesX
import Derived.Test.YtfbikhkmamdjmaaDoorAb5
namespace Go.Proofs.YtfbikhkmamdjmaaDoor.CodesX
open Go Go.Ab
set_option maxHeartbeats 800000
set_option maxRecDepth 20000
def wordsT : List Nat := [107, 101, 121, 32, 116, 114, 101, 101, 32, 100, 111, 109, 97, 105, 110, 32, 111, 119, 110, 32, 115, 104, 97, 114, 101, 100, 32, 105, 110, 116, 32, 98, 111, 111, 108, 32, 114, 101, 102, 32, 115, 121, 109, 32, 112, 111, 105, 110, 116, 32, 115, 101, 113, 32, 115, 101, 108, 32, 109, 115, 101, 113, 32, 109, 115, 101, 108, 32, 112, 97, 114, 32, 110, 111, 116, 32, 114, 101, 112, 101, 97, 116, 32, 105, 102, 32, 115, 101, 116, 32, 100, 111, 32, 117, 115, 101, 32, 112, 105, 99, 107, 32, 112, 108, 97, 110, 32, 111, 107, 32, 102, 97, 105, 108, 32, 119, 97, 105, 116, 32, 118, 97, 114, 32, 97, 99, 116, 32, 99, 111, 115, 116, 32, 110, 101, 101, 100, 32, 109, 97, 107, 101, 32, 103, 111, 97, 108, 32, 116, 114, 117, 101, 32, 102, 97, 108, 115, 101, 32, 115, 101, 108, 102, 32, 116, 105, 109, 101, 32, 97, 110, 100, 32, 111, 114, 32, 114, 101, 32, 105, 109, 32, 116, 117, 114, 110, 32, 102, 97, 114]
def wordList : List (List Nat) := [[107, 101, 121], [116, 114, 101, 101], [100, 111, 109, 97, 105, 110], [111, 119, 110], [115, 104, 97, 114, 101, 100], [105, 110, 116], [98, 111, 111, 108], [114, 101, 102], [115, 121, 109], [112, 111, 105, 110, 116], [115, 101, 113], [115, 101, 108], [109, 115, 101, 113], [109, 115, 101, 108], [112, 97, 114], [110, 111, 116], [114, 101, 112, 101, 97, 116], [105, 102], [115, 101, 116], [100, 111], [117, 115, 101], [112, 105, 99, 107], [112, 108, 97, 110], [111, 107], [102, 97, 105, 108], [119, 97, 105, 116], [118, 97, 114], [97, 99, 116], [99, 111, 115, 116], [110, 101, 101, 100], [109, 97, 107, 101], [103, 111, 97, 108], [116, 114, 117, 101], [102, 97, 108, 115, 101], [115, 101, 108, 102], [116, 105, 109, 101], [97, 110, 100], [111, 114], [114, 101], [105, 109], [116, 117, 114, 110], [102, 97, 114]]
def signsT : List Nat := [58, 61, 32, 60, 61, 32, 62, 61, 32, 61, 61, 32, 123, 32, 125, 32, 40, 32, 41, 32, 59, 32, 58, 32, 61, 32, 60, 32, 43, 32, 45, 32, 42, 32, 47, 32, 44, 32, 39]
def signList : List (List Nat) := [[58, 61], [60, 61], [62, 61], [61, 61], [123], [125], [40], [41], [59], [58], [61], [60], [43], [45], [42], [47], [44], [39]]
def isLetter (c : Nat) : Prop := (97 ≤ c ∧ c ≤ 122) ∨ (65 ≤ c ∧ c ≤ 90)
def isDigit (c : Nat) : Prop := 48 ≤ c ∧ c ≤ 57
def goes (c : Nat) : Prop := isLetter c ∨ isDigit c ∨ c = 95
def isBlank (c : Nat) : Prop := c = 32 ∨ c = 9 ∨ c = 10 ∨ c = 13
instance (c : Nat) : Decidable (isLetter c) := inferInstanceAs (Decidable (_ ∨ _))
instance (c : Nat) : Decidable (isDigit c) := inferInstanceAs (Decidable (_ ∧ _))
instance (c : Nat) : Decidable (goes c) := inferInstanceAs (Decidable (_ ∨ _))
instance (c : Nat) : Decidable (isBlank c) := inferInstanceAs (Decidable (_ ∨ _))
theorem signs_ne : signsT ≠ wordsT := by decide
def blankCells : List V := (List.range 256).map fun c => .bool (decide (isBlank c))
theorem btrue {p : Prop} [Decidable p] (h : p) : true = decide p := by simp [h]
theorem bfalse {p : Prop} [Decidable p] (h : ¬ p) : false = decide p := by simp [h]
theorem bsame {p q : Prop} [Decidable p] [Decidable q] (h : p ↔ q) : decide p = decide q := by simp [h]
theorem bval {b c : Bool} (h : b = c) : some (V.bool b) = some (V.bool c) := by rw [h]
theorem not_dec {p : Prop} [Decidable p] (h : ¬ p) : decide p = false := decide_eq_false h
theorem yes_dec {p : Prop} [Decidable p] (h : p) : decide p = true := decide_eq_true h
/-- how many bytes a name may have -/
def runLen : List Nat → Nat
  | [] => 0
  | c :: r => if goes c then runLen r + 1 else 0
theorem runLen_at {s : List Nat} {i : Nat} (hi : i < s.length) : runLen (s.drop i) = if goes (at' s i) then runLen (s.drop (i + 1)) + 1 else 0 := by
  have : s.drop i = at' s i :: s.drop (i + 1) := by rw [List.drop_eq_getElem_cons hi]; simp [at', List.getD, hi]
  rw [this, runLen]
theorem runLen_end {s : List Nat} {i : Nat} (hi : s.length ≤ i) : runLen (s.drop i) = 0 := by rw [List.drop_eq_nil_of_le hi]; rfl
theorem runLen_le : ∀ s : List Nat, runLen s ≤ s.length
  | [] => Nat.le_refl _
  | c :: r => by
    simp only [runLen, List.length_cons]
    split
    · have := runLen_le r; omega
    · omega
/-- where a text stands in a row of texts; below 0: nowhere -/
def ixL (x : List Nat) : Nat → List (List Nat) → Int
  | _, [] => -1
  | i, y :: r => if x = y then (i : Nat) else ixL x (i + 1) r
theorem ixL_at {l : List (List Nat)} {i : Nat} (hi : i < l.length) (x : List Nat) (k : Nat) : ixL x k (l.drop i) = (if x = strAt l i then ((k : Nat) : Int) else ixL x (k + 1) (l.drop (i + 1)) : Int) := by
  have : l.drop i = strAt l i :: l.drop (i + 1) := by rw [List.drop_eq_getElem_cons hi]; simp [strAt, List.getD, hi]
  rw [this, ixL]
theorem ixL_mem (x : List Nat) : ∀ (l : List (List Nat)) (i : Nat), 0 ≤ ixL x i l ↔ x ∈ l
  | [], i => by simp [ixL]
  | y :: r, i => by
    simp only [ixL, List.mem_cons]
    by_cases h : x = y
    · simp [h]
    · simp only [h, if_false, false_or]; exact ixL_mem x r (i + 1)
theorem words_len : wordList.length < 2 ^ 60 := by decide
theorem signs_len : signList.length < 2 ^ 60 := by decide
/-- the sign that a text begins with -/
def signOf (s : List Nat) : List Nat := (signList.find? fun x => decide (s.take x.length = x)).getD []
theorem find_drop {l : List (List Nat)} {i : Nat} (hi : i < l.length) (p : List Nat → Bool) : (l.drop i).find? p = if p (strAt l i) then some (strAt l i) else (l.drop (i + 1)).find? p := by
  have : l.drop i = strAt l i :: l.drop (i + 1) := by rw [List.drop_eq_getElem_cons hi]; simp [strAt, List.getD, hi]
  rw [this, List.find?_cons]
  cases p (strAt l i) <;> rfl
/-- a number's digits, one more -/
def numStep (n c : Nat) : Option Nat := if isDigit c ∧ n ≤ (9223372036854775807 - (c - 48)) / 10 then some (10 * n + (c - 48)) else none
def numGo : Nat → List Nat → Option Nat
  | n, [] => some n
  | n, c :: r => (numStep n c).bind fun m => numGo m r
def numF (s : List Nat) : Option Nat := if 1 < s.length ∧ at' s 0 = 48 then none else numGo 0 s
def numV (o : Option Nat) : V := match o with
  | some n => .tup [.int .i64 n, .bool true]
  | none => .tup [.int .i64 0, .bool false]
theorem numGo_at {s : List Nat} {i n : Nat} (hi : i < s.length) : numGo n (s.drop i) = (numStep n (at' s i)).bind fun m => numGo m (s.drop (i + 1)) := by
  have : s.drop i = at' s i :: s.drop (i + 1) := by rw [List.drop_eq_getElem_cons hi]; simp [at', List.getD, hi]
  rw [this, numGo]
theorem fin_num {h1 : Heap} {bs : List (Option (List V))} {o : Option Nat} {n : Int} {b : Bool} (e : numV o = .tup [.int .i64 n, .bool b]) : fin h1 (numV o) (.tup [.int .i64 n, .bool b]) (hp h1 bs) := ⟨bs, rfl, by rw [e]; rfl⟩
def Small (s : List Nat) : Prop := ∀ b ∈ s, b < 256
theorem Small.drop {s : List Nat} (h : Small s) (n : Nat) : Small (s.drop n) := fun b hb => h b (List.mem_of_mem_drop hb)
theorem Small.at {s : List Nat} (h : Small s) (n : Nat) : at' s n < 256 := by
  unfold at'
  by_cases hn : n < s.length
  · simp only [List.getD, List.getElem?_eq_getElem hn, Option.getD_some]
    exact h _ (List.getElem_mem hn)
  · simp [List.getD, List.getElem?_eq_none (Nat.le_of_not_lt hn)]
theorem blank_drop {c : Nat} (hc : c < 256) : blankCells.drop (0 + c * 1) = .bool (decide (isBlank c)) :: blankCells.drop (c + 1) := by
  have hl : c < blankCells.length := by simpa [blankCells] using hc
  rw [Nat.zero_add, Nat.mul_one, List.drop_eq_getElem_cons hl]
  simp [blankCells]
def trimL (s : List Nat) : List Nat := s.dropWhile fun c => decide (isBlank c)
theorem trimL_yes {c : Nat} {r : List Nat} (h : isBlank c) : trimL (c :: r) = trimL r := by simp [trimL, h]
theorem trimL_no {c : Nat} {r : List Nat} (h : ¬ isBlank c) : trimL (c :: r) = c :: r := by simp [trimL, h]
/-- how many bytes stand between tokens; in a comment, or not -/
def skipB : Bool → List Nat → Nat
  | _, [] => 0
  | false, c :: r => if isBlank c then skipB false r + 1 else if c = 47 ∧ r.head? = some 47 then skipB true r + 1 else 0
  | true, c :: r => if c = 10 then skipB false r + 1 else skipB true r + 1
def skipF (s : List Nat) : Nat := skipB false s
theorem skip_trim : ∀ s : List Nat, skipF s + (trimL s).length = s.length + skipF (trimL s) ∧ (trimL s).length ≤ s.length ∧ s.drop (s.length - (trimL s).length) = trimL s
  | [] => ⟨rfl, Nat.le_refl _, rfl⟩
  | c :: r => by
    by_cases h : isBlank c
    · obtain ⟨h1, h2, h3⟩ := skip_trim r
      have e : skipF (c :: r) = skipF r + 1 := by simp [skipF, skipB, h]
      rw [trimL_yes h, e, List.length_cons]
      refine ⟨by omega, by omega, ?_⟩
      have : r.length + 1 - (trimL r).length = (r.length - (trimL r).length) + 1 := by omega
      rw [this, List.drop_succ_cons, h3]
    · rw [trimL_no h]; exact ⟨by omega, Nat.le_refl _, by simp⟩
theorem trimL_head (s : List Nat) : trimL s = [] ∨ ∃ c r, trimL s = c :: r ∧ ¬ isBlank c := by
  induction s with
  | nil => exact .inl rfl
  | cons c r ih =>
    by_cases h : isBlank c
    · rw [trimL_yes h]; exact ih
    · rw [trimL_no h]; exact .inr ⟨c, r, rfl, h⟩
theorem skip_stop {s : List Nat} (h : ¬ (trimL s).take 2 = [47, 47]) : skipF (trimL s) = 0 := by
  rcases trimL_head s with e | ⟨c, r, e, hc⟩
  · rw [e]; rfl
  · rw [e] at h ⊢
    have : ¬ (c = 47 ∧ r.head? = some 47) := fun ⟨h1, h2⟩ => h (by
      cases r with
      | nil => cases h2
      | cons d r => simp at h2; simp [h1, h2])
    simp [skipF, skipB, hc, this]
theorem blank10 : isBlank 10 := by unfold isBlank; omega
theorem skip_line : ∀ (r : List Nat) (k : Nat), (ixFrom 10 k r = -1 ∧ skipB true r = r.length) ∨ ∃ j, j < r.length ∧ ixFrom 10 k r = ((k + j : Nat) : Int) ∧ skipB true r = j + skipF (r.drop j)
  | [], k => .inl ⟨rfl, rfl⟩
  | b :: r, k => by
    by_cases h : b = 10
    · subst h
      refine .inr ⟨0, by simp, by simp [ixFrom], ?_⟩
      simp [skipF, skipB, blank10]
    · rcases skip_line r (k + 1) with ⟨h1, h2⟩ | ⟨j, h1, h2, h3⟩
      · exact .inl ⟨by simp [ixFrom, h, h1], by simp [skipB, h, h2]⟩
      · refine .inr ⟨j + 1, by simp; omega, ?_, ?_⟩
        · simp only [ixFrom, h, if_false, h2]
          congr 1; omega
        · simp only [skipB, h, if_false, h3, List.drop_succ_cons]; omega
theorem skip_comment {s : List Nat} (h : s.take 2 = [47, 47]) : (ixFrom 10 0 s = -1 ∧ skipF s = s.length) ∨ ∃ j, 0 < j ∧ j < s.length ∧ ixFrom 10 0 s = (j : Nat) ∧ skipF s = j + skipF (s.drop j) := by
  match s, h with
  | a :: b :: r, h =>
    simp only [List.take_succ_cons, List.take_zero, List.cons.injEq, and_true] at h
    obtain ⟨rfl, rfl⟩ := h
    have hb : ¬ isBlank 47 := by unfold isBlank; omega
    have e1 : skipF (47 :: 47 :: r) = skipB true (47 :: r) + 1 := by simp [skipF, skipB, hb]
    have e2 : ixFrom 10 0 (47 :: 47 :: r) = ixFrom 10 1 (47 :: r) := by simp [ixFrom]
    rcases skip_line (47 :: r) 1 with ⟨h1, h2⟩ | ⟨j, h1, h2, h3⟩
    · exact .inl ⟨e2.trans h1, by rw [e1, h2]; rfl⟩
    · refine .inr ⟨j + 1, by omega, by simpa using h1, ?_, ?_⟩
      · rw [e2, h2]; congr 1; omega
      · rw [e1, h3, List.drop_succ_cons]; omega
/-- a token: its cells but for the place, how many bytes it has, is it one -/
structure Tok where
  kind : Int
  n : Int
  text : List Nat
  len : Nat
  ok : Bool
def Tok.cells (t : Tok) (at0 : Int) : List V := [.int .i64 t.kind, .int .i64 t.n, .int .i64 at0, .str t.text]
open Classical in
/-- the token that a text begins with -/
noncomputable def oneF (s : List Nat) : Tok :=
  if isLetter (at' s 0) then
    if s.take (runLen s) ∈ wordList then ⟨2, 0, s.take (runLen s), runLen s, true⟩ else ⟨1, 0, s.take (runLen s), runLen s, decide ((runLen s : Int) ≤ 24)⟩
  else if isDigit (at' s 0) then ⟨3, ((numF (s.take (runLen s))).getD 0 : Nat), [], runLen s, (numF (s.take (runLen s))).isSome⟩
  else ⟨4, 0, signOf s, (signOf s).length, decide ((signOf s).length ≠ 0)⟩
def Tok.ans (t : Tok) : V := .tup [.agg (t.cells 0), .int .i64 t.len, .bool t.ok]
theorem signOf_le (s : List Nat) : (signOf s).length ≤ s.length := by
  unfold signOf
  cases h : signList.find? fun x => decide (s.take x.length = x) with
  | none => simp
  | some x =>
    have := List.find?_some h
    simp only [decide_eq_true_eq] at this
    have h2 := congrArg List.length this
    simp only [List.length_take] at h2
    simp only [Option.getD_some]; omega
def zeroTok : List V := [.int .i64 0, .int .i64 0, .int .i64 0, .str []]
def endTok (p : Nat) : List V := [.int .i64 0, .int .i64 0, .int .i64 p, .str []]
/-- the answer: from a place on, with n tokens told -/
noncomputable def toksGo : Nat → List Nat → Nat → Nat → List V → V
  | 0, _, _, _, _ => .undef
  | f + 1, s, at0, n, row =>
    if at0 + skipF (s.drop at0) = s.length then .tup [.fsl (elems 4 (n + 1) (row ++ endTok (at0 + skipF (s.drop at0)))) none, .int .i64 ((at0 + skipF (s.drop at0) : Nat) : Int), .int .i64 0]
    else if (oneF (s.drop (at0 + skipF (s.drop at0)))).ok then toksGo f s (at0 + skipF (s.drop at0) + (oneF (s.drop (at0 + skipF (s.drop at0)))).len) (n + 1) (row ++ (oneF (s.drop (at0 + skipF (s.drop at0)))).cells ((at0 + skipF (s.drop at0) : Nat) : Int))
    else .tup [.nilsl, .int .i64 ((at0 + skipF (s.drop at0) : Nat) : Int), .int .i64 2]
theorem skipB_le : ∀ (b : Bool) (s : List Nat), skipB b s ≤ s.length
  | b, [] => by cases b <;> exact Nat.le_refl _
  | false, c :: r => by
    simp only [skipB, List.length_cons]
    split
    · have := skipB_le false r; omega
    · split
      · have := skipB_le true r; omega
      · omega
  | true, c :: r => by
    simp only [skipB, List.length_cons]
    split
    · have := skipB_le false r; omega
    · have := skipB_le true r; omega
theorem skipF_le (s : List Nat) : skipF s ≤ s.length := skipB_le false s
theorem runLen_pos {s : List Nat} (h0 : 0 < s.length) (h : isLetter (at' s 0) ∨ isDigit (at' s 0)) : 0 < runLen s := by
  have := runLen_at (s := s) (i := 0) h0
  rw [List.drop_zero, if_pos (by unfold goes; rcases h with h | h <;> simp [h])] at this
  omega
theorem oneF_len {s : List Nat} (h0 : 0 < s.length) : (oneF s).len ≤ s.length ∧ ((oneF s).ok = true → 0 < (oneF s).len) := by
  have h1 := runLen_le s
  have h2 := signOf_le s
  unfold oneF
  by_cases hl : isLetter (at' s 0)
  · have := runLen_pos h0 (.inl hl)
    rw [if_pos hl]
    split
    · exact ⟨h1, fun _ => this⟩
    · exact ⟨h1, fun _ => this⟩
  · rw [if_neg hl]
    by_cases hd : isDigit (at' s 0)
    · have := runLen_pos h0 (.inr hd)
      rw [if_pos hd]
      exact ⟨h1, fun _ => this⟩
    · rw [if_neg hd]
      refine ⟨h2, fun h => ?_⟩
      simp only [decide_eq_true_eq] at h
      show 0 < (signOf s).length
      omega
theorem cells_scal (t : Tok) (p : Int) : ∀ v ∈ t.cells p, v.scal = true := by
  intro v hv
  simp only [Tok.cells, List.mem_cons, List.not_mem_nil, or_false] at hv
  rcases hv with rfl | rfl | rfl | rfl <;> rfl
structure TS where
  at0 : Nat
  n : Nat
  row : List V
  out : V
  bs : List (Option (List V))
  f : Nat
end Go.Proofs.YtfbikhkmamdjmaaDoor.CodesX
