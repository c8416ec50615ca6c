/- The lexer: what stands between tokens does not count. -/
import Derived.Test.YthclejjieggdkaaDoorWLP
namespace Go.Proofs.YthclejjieggdkaaDoor.CodesL
open Go Go.Ab
set_option maxHeartbeats 800000
set_option maxRecDepth 20000

/-- what may be put in -/
def blanks : List (List Nat) := [[32], [9], [10], [32, 47, 47, 32, 120, 10], [13, 10, 32, 9]]

theorem skip_put (w rest : List Nat) (hw : w ∈ blanks) : skipF (w ++ rest) = w.length + skipF rest := by
  simp only [blanks, List.mem_cons, List.not_mem_nil, or_false] at hw
  rcases hw with rfl | rfl | rfl | rfl | rfl <;> simp [skipF, skipB, isBlank] <;> omega
theorem line_put (w : List Nat) (hw : w ∈ blanks) : skipB true w = w.length := by
  simp only [blanks, List.mem_cons, List.not_mem_nil, or_false] at hw
  rcases hw with rfl | rfl | rfl | rfl | rfl <;> simp [skipB, isBlank]

theorem line_pos {r : List Nat} (h : skipB true r = 0) : r = [] := by
  cases r with
  | nil => rfl
  | cons c r =>
    simp only [skipB] at h
    split at h <;> omega
/-- a gap with something put behind it, ahead of something else -/
theorem gap_put : ∀ (b : Bool) (g rest rest' w : List Nat), w ∈ blanks → skipF rest' = 0 → (rest = [] → rest' = []) → skipB b (g ++ rest) = g.length → (b = true → g = [] → rest = []) → skipB b (g ++ (w ++ rest')) = g.length + w.length
  | false, [], rest, rest', w, hw, h0, he, h, _ => by
    have := skip_put w rest' hw
    simp only [List.nil_append, List.length_nil]
    show skipF (w ++ rest') = _
    omega
  | true, [], rest, rest', w, hw, h0, he, h, hr => by
    have := he (hr rfl rfl)
    subst this
    simp only [List.nil_append, List.append_nil, List.length_nil, Nat.zero_add]
    exact line_put w hw
  | false, c :: g, rest, rest', w, hw, h0, he, h, _ => by
    simp only [List.cons_append, skipB, List.length_cons] at h ⊢
    by_cases hb : isBlank c
    · rw [if_pos hb] at h ⊢
      have := gap_put false g rest rest' w hw h0 he (by omega) (fun h => by cases h)
      omega
    · rw [if_neg hb] at h ⊢
      by_cases hc : c = 47 ∧ (g ++ rest).head? = some 47
      · rw [if_pos hc] at h
        have hg : g ≠ [] := fun hg => by
          subst hg
          have h1 := line_pos (r := rest) (by simpa using h)
          rw [h1] at hc
          simp at hc
        have hc' : c = 47 ∧ (g ++ (w ++ rest')).head? = some 47 := by
          refine ⟨hc.1, ?_⟩
          have h2 := hc.2
          cases g with
          | nil => exact absurd rfl hg
          | cons d g => simpa using h2
        rw [if_pos hc']
        have := gap_put true g rest rest' w hw h0 he (by omega) (fun _ h => absurd h hg)
        omega
      · rw [if_neg hc] at h
        omega
  | true, c :: g, rest, rest', w, hw, h0, he, h, _ => by
    simp only [List.cons_append, skipB, List.length_cons] at h ⊢
    by_cases hc : c = 10
    · rw [if_pos hc] at h ⊢
      have := gap_put false g rest rest' w hw h0 he (by omega) (fun h => by cases h)
      omega
    · rw [if_neg hc] at h ⊢
      have := gap_put true g rest rest' w hw h0 he (by omega) (fun _ hg => by
        subst hg
        exact line_pos (by simpa using h))
      omega

/-- a token's text does not hang on what stands behind it, but for its first byte -/
theorem run_put : ∀ (x t u : List Nat), runLen (x ++ t) = x.length → (∀ c, u.head? = some c → t.head? = some c ∨ isBlank c) → runLen (x ++ u) = x.length
  | [], t, u, h, hu => by
    simp only [List.nil_append, List.length_nil] at h ⊢
    cases u with
    | nil => rfl
    | cons c u =>
      rcases hu c rfl with h1 | h1
      · cases t with
        | nil => cases h1
        | cons d t =>
          simp only [List.head?_cons, Option.some.injEq] at h1
          subst h1
          simp only [runLen] at h ⊢
          split at h
          · omega
          · rename_i hg; rw [if_neg hg]
      · have hg : ¬ goes c := by unfold isBlank at h1; unfold goes isLetter isDigit; omega
        rw [runLen, if_neg hg]
  | c :: x, t, u, h, hu => by
    simp only [List.cons_append, runLen, List.length_cons] at h ⊢
    split at h
    · rename_i hg
      rw [if_pos hg, run_put x t u (by omega) hu]
    · omega

theorem sign_put (x t u : List Nat) (hx : x ∈ signList) (h : signOf (x ++ t) = x) (hu : ∀ c, u.head? = some c → t.head? = some c ∨ isBlank c) : signOf (x ++ u) = x := by
  have key : ∀ c, u.head? = some c → ¬ c = 61 ∨ t.head? = some 61 := fun c hc => by
    by_cases h61 : c = 61
    · rcases hu c hc with h1 | h1
      · rw [h61] at h1; exact .inr h1
      · unfold isBlank at h1; omega
    · exact .inl h61
  simp only [signList, List.mem_cons, List.not_mem_nil, or_false] at hx
  rcases hx with rfl | rfl | rfl | rfl | rfl | rfl | rfl | rfl | rfl | rfl | rfl | rfl | rfl | rfl | rfl | rfl | rfl | rfl
  all_goals first
    | (simp [signOf, signList]; done)
    | (cases u with
       | nil => simp [signOf, signList]
       | cons c u =>
         rcases key c rfl with h1 | h1
         · simp [signOf, signList, h1]
         · cases t with
           | nil => cases h1
           | cons d t =>
             simp only [List.head?_cons, Option.some.injEq] at h1
             subst h1
             simp [signOf, signList] at h)

theorem at0_app {x t u : List Nat} (hx : 0 < x.length) : at' (x ++ t) 0 = at' (x ++ u) 0 := by
  unfold at'
  simp only [List.getD, List.getElem?_append_left hx]
/-- a token with something else behind it -/
theorem one_put (x t u : List Nat) (hx : 0 < x.length) (hlen : (oneF (x ++ t)).len = x.length) (hok : (oneF (x ++ t)).ok = true) (hu : ∀ c, u.head? = some c → t.head? = some c ∨ isBlank c) : oneF (x ++ u) = oneF (x ++ t) := by
  have e0 : at' (x ++ u) 0 = at' (x ++ t) 0 := at0_app hx
  by_cases hL : isLetter (at' (x ++ t) 0)
  · have hr : runLen (x ++ t) = x.length := by
      have : (oneF (x ++ t)).len = runLen (x ++ t) := by unfold oneF; rw [if_pos hL]; split <;> rfl
      omega
    have hr2 := run_put x t u hr hu
    have t1 : (x ++ t).take x.length = x := by simp
    have t2 : (x ++ u).take x.length = x := by simp
    unfold oneF
    rw [e0, if_pos hL, if_pos hL, hr, hr2, t1, t2]
  · by_cases hD : isDigit (at' (x ++ t) 0)
    · have hr : runLen (x ++ t) = x.length := by
        have : (oneF (x ++ t)).len = runLen (x ++ t) := by unfold oneF; rw [if_neg hL, if_pos hD]
        omega
      have hr2 := run_put x t u hr hu
      have t1 : (x ++ t).take x.length = x := by simp
      have t2 : (x ++ u).take x.length = x := by simp
      unfold oneF
      rw [e0, if_neg hL, if_neg hL, if_pos hD, if_pos hD, hr, hr2, t1, t2]
    · have hT : oneF (x ++ t) = ⟨4, 0, signOf (x ++ t), (signOf (x ++ t)).length, decide ((signOf (x ++ t)).length ≠ 0)⟩ := by unfold oneF; rw [if_neg hL, if_neg hD]
      rw [hT] at hlen hok
      simp only [decide_eq_true_eq] at hlen hok
      have hmem : signOf (x ++ t) ∈ signList := by
        unfold signOf at hok ⊢
        cases hf : signList.find? fun y => decide ((x ++ t).take y.length = y) with
        | none => rw [hf] at hok; simp at hok
        | some y => exact List.mem_of_find?_eq_some hf
      have htx : (x ++ t).take (signOf (x ++ t)).length = signOf (x ++ t) := by
        have := (oneF_text (x ++ t)).2.1
        rw [hT] at this
        exact this
      have hs : signOf (x ++ t) = x := by
        rw [hlen] at htx
        rw [← htx]; simp
      have hs2 := sign_put x t u (hs ▸ hmem) hs hu
      unfold oneF
      rw [e0, if_neg hL, if_neg hL, if_neg hD, if_neg hD, hs, hs2]

theorem skip_tok (x t u : List Nat) (hx : 0 < x.length) (h : skipF (x ++ t) = 0) (hu : ∀ c, u.head? = some c → t.head? = some c ∨ isBlank c) : skipF (x ++ u) = 0 := by
  cases x with
  | nil => cases hx
  | cons a x =>
    simp only [List.cons_append, skipF, skipB] at h ⊢
    split at h
    · omega
    · rename_i hb
      rw [if_neg hb]
      split at h
      · omega
      · rename_i hc
        rw [if_neg]
        rintro ⟨h1, h2⟩
        refine hc ⟨h1, ?_⟩
        cases x with
        | nil =>
          simp only [List.nil_append] at h2 ⊢
          rcases hu 47 h2 with h3 | h3
          · exact h3
          · unfold isBlank at h3; omega
        | cons d x => simpa using h2

theorem skip_idem : ∀ (b : Bool) (s : List Nat), skipF (s.drop (skipB b s)) = 0
  | b, [] => by cases b <;> rfl
  | false, c :: r => by
    simp only [skipB]
    split
    · rw [List.drop_succ_cons]; exact skip_idem false r
    · rename_i hb
      split
      · rw [List.drop_succ_cons]; exact skip_idem true r
      · rename_i hc
        rw [List.drop_zero]
        simp [skipF, skipB, hb, hc]
  | true, c :: r => by
    simp only [skipB]
    split
    · rw [List.drop_succ_cons]; exact skip_idem false r
    · rw [List.drop_succ_cons]; exact skip_idem true r

/-- the bytes from a place on, with w put behind each gap -/
noncomputable def insGo (w : List Nat) : Nat → List Nat → Nat → List Nat
  | 0, _, _ => []
  | f + 1, b, at0 =>
    (b.drop at0).take (skipF (b.drop at0)) ++ (w ++ (if at0 + skipF (b.drop at0) = b.length then []
      else (b.drop (at0 + skipF (b.drop at0))).take (oneF (b.drop (at0 + skipF (b.drop at0)))).len ++ insGo w f b (at0 + skipF (b.drop at0) + (oneF (b.drop (at0 + skipF (b.drop at0)))).len)))

theorem blank_head {w : List Nat} (hw : w ∈ blanks) : ∃ d r, w = d :: r ∧ isBlank d := by
  simp only [blanks, List.mem_cons, List.not_mem_nil, or_false] at hw
  rcases hw with rfl | rfl | rfl | rfl | rfl <;> exact ⟨_, _, rfl, by unfold isBlank; omega⟩
theorem ins_head {w : List Nat} (hw : w ∈ blanks) (f : Nat) (b : List Nat) (at0 c : Nat) (h : (insGo w f b at0).head? = some c) : (b.drop at0).head? = some c ∨ isBlank c := by
  cases f with
  | zero => cases h
  | succ f =>
    rw [insGo] at h
    obtain ⟨d, r, rfl, hd⟩ := blank_head hw
    cases hk : skipF (b.drop at0) with
    | zero =>
      rw [hk] at h
      simp only [List.take_zero, List.nil_append, List.cons_append, List.head?_cons, Option.some.injEq] at h
      subst h
      exact .inr hd
    | succ k =>
      rw [hk] at h
      cases hb : b.drop at0 with
      | nil => rw [hb] at hk; cases hk
      | cons a t =>
        rw [hb] at h
        simp only [List.take_succ_cons, List.cons_append, List.head?_cons, Option.some.injEq] at h
        subst h
        exact .inl rfl

/-- what the law puts together: the bytes up to each token, w behind them -/
def insV (w b : List Nat) : Nat → List T4 → List Nat
  | _, [] => []
  | at0, t :: r => (b.drop at0).take (t.at0 - at0) ++ (w ++ insV w b t.at0 r)
theorem insV_split (w b : List Nat) (at0 n : Nat) (t : T4) (r : List T4) (h : at0 + n ≤ t.at0) : insV w b at0 (t :: r) = (b.drop at0).take n ++ insV w b (at0 + n) (t :: r) := by
  have h1 : t.at0 - at0 = n + (t.at0 - (at0 + n)) := by omega
  have h2 : (b.drop at0).take (t.at0 - at0) = (b.drop at0).take n ++ (b.drop (at0 + n)).take (t.at0 - (at0 + n)) := by
    rw [h1, List.take_add, List.drop_drop]
  simp only [insV]
  rw [h2, List.append_assoc]

theorem ins_toks (w : List Nat) (hw : w ∈ blanks) (b c : List Nat) : ∀ (f at0 g q : Nat) (ts us : List T4), at0 ≤ b.length → b.length + 1 ≤ f + at0 → q ≤ c.length → c.length + 1 ≤ g + q → c.drop q = insGo w f b at0 →
    (∃ p : Nat, toksGo f b at0 ts.length (ts.flatMap T4.cs) = .tup [.nilsl, .int .i64 p, .int .i64 2]) ∨
    ∃ vs vs' : List T4, toksGo f b at0 ts.length (ts.flatMap T4.cs) = .tup [.fsl ((ts ++ vs).map T4.v) none, .int .i64 (b.length : Nat), .int .i64 0] ∧
      toksGo g c q us.length (us.flatMap T4.cs) = .tup [.fsl ((us ++ vs').map T4.v) none, .int .i64 (c.length : Nat), .int .i64 0] ∧ vs.map (fun t => (t.k, t.n, t.x)) = vs'.map (fun t => (t.k, t.n, t.x)) ∧ insGo w f b at0 = insV w b at0 vs ∧ ∃ v r, vs = v :: r ∧ at0 ≤ v.at0
  | 0, at0, g, q, ts, us, h1, h2, _, _, _ => by omega
  | f + 1, at0, g, q, ts, us, h1, h2, h3, h4, h5 => by
    obtain ⟨g, rfl⟩ : ∃ j, g = j + 1 := ⟨g - 1, by omega⟩
    have hk := skipF_le (b.drop at0)
    have hdl : (b.drop at0).length = b.length - at0 := List.length_drop
    have hcl : (c.drop q).length = c.length - q := List.length_drop
    have hid : skipF (b.drop (at0 + skipF (b.drop at0))) = 0 := by rw [← List.drop_drop]; exact skip_idem false (b.drop at0)
    have hsp : (b.drop at0).take (skipF (b.drop at0)) ++ b.drop (at0 + skipF (b.drop at0)) = b.drop at0 := by rw [← List.drop_drop]; exact List.take_append_drop _ _
    have hgl : ((b.drop at0).take (skipF (b.drop at0))).length = skipF (b.drop at0) := by rw [List.length_take]; omega
    have h6 : insGo w (f + 1) b at0 = c.drop q := h5.symm
    rw [insGo] at h5
    rw [toksGo]
    generalize hK : skipF (b.drop at0) = k at *
    generalize hp : at0 + k = p at *
    have endE : ∀ (vs : List T4) (z : List Nat), vs.flatMap T4.cs ++ endTok z.length = (vs ++ [endT z]).flatMap T4.cs := fun vs z => by simp [endT, T4.cs, endTok]
    split
    · rename_i he
      rw [if_pos he, List.append_nil] at h5
      have hrest : b.drop p = [] := List.drop_eq_nil_of_le (by omega)
      have hg := gap_put false ((b.drop at0).take k) (b.drop p) [] w hw rfl (fun _ => rfl) (by rw [hsp, hgl]; exact hK) (fun h => by cases h)
      rw [List.append_nil, ← h5, hgl] at hg
      have hcq : (c.drop q).length = k + w.length := by rw [h5, List.length_append, hgl]
      have hend : q + skipF (c.drop q) = c.length := by
        have : skipF (c.drop q) = k + w.length := hg
        omega
      refine .inr ⟨[endT b], [endT c], ?_, ?_, rfl, ?_, _, _, rfl, h1⟩
      · subst he
        have hl : ts.length + 1 = (ts ++ [endT b]).length := by simp
        rw [endE, hl, elems_T4]
      · rw [toksGo, if_pos hend, hend]
        have hl : us.length + 1 = (us ++ [endT c]).length := by simp
        rw [endE, hl, elems_T4]
      · rw [h6, h5]
        show _ = (b.drop at0).take (b.length - at0) ++ (w ++ [])
        have : b.length - at0 = k := by omega
        rw [this, List.append_nil]
    · rename_i hne
      rw [if_neg hne] at h5
      have hd2 : (b.drop p).length = b.length - p := List.length_drop
      obtain ⟨l1, l2⟩ := oneF_len (s := b.drop p) (by omega)
      split
      · rename_i hok
        have hpos := l2 hok
        have hxt : (b.drop p).take (oneF (b.drop p)).len ++ b.drop (p + (oneF (b.drop p)).len) = b.drop p := by rw [← List.drop_drop]; exact List.take_append_drop _ _
        have hxl : ((b.drop p).take (oneF (b.drop p)).len).length = (oneF (b.drop p)).len := by rw [List.length_take]; omega
        generalize hx : (b.drop p).take (oneF (b.drop p)).len = x at *
        generalize hu : insGo w f b (p + (oneF (b.drop p)).len) = u at *
        have hhead : ∀ d, u.head? = some d → (b.drop (p + (oneF (b.drop p)).len)).head? = some d ∨ isBlank d := fun d hd => ins_head hw f b _ d (by rw [hu]; exact hd)
        have hs0 : skipF (x ++ u) = 0 := skip_tok x _ u (by omega) (by rw [hxt]; exact hid) hhead
        have ho := one_put x (b.drop (p + (oneF (b.drop p)).len)) u (by omega) (by rw [hxt]; omega) (by rw [hxt]; exact hok) hhead
        rw [hxt] at ho
        have hg := gap_put false ((b.drop at0).take k) (b.drop p) (x ++ u) w hw hs0 (fun h => by rw [h] at hd2; simp at hd2; omega) (by rw [hsp, hgl]; exact hK) (fun h => by cases h)
        rw [← h5, hgl] at hg
        have hg' : skipF (c.drop q) = k + w.length := hg
        have hcq : (c.drop q).length = k + (w.length + (x.length + u.length)) := by rw [h5]; simp only [List.length_append, hgl]
        have hdc : c.drop (q + (k + w.length)) = x ++ u := by
          rw [← List.drop_drop, h5, ← List.append_assoc, List.drop_left' (by rw [List.length_append, hgl])]
        have hdu : c.drop (q + (k + w.length) + (oneF (b.drop p)).len) = u := by
          rw [← List.drop_drop, hdc, List.drop_left' hxl]
        have hnc : ¬ q + (k + w.length) = c.length := by omega
        have e : ∀ (vs : List T4) (r : Nat), vs.flatMap T4.cs ++ (oneF (b.drop p)).cells (r : Nat) = (vs ++ [(⟨(oneF (b.drop p)).kind, (oneF (b.drop p)).n, r, (oneF (b.drop p)).text⟩ : T4)]).flatMap T4.cs := fun vs r => by simp [T4.cs, Tok.cells]
        have hl : ∀ (vs : List T4) (r : Nat), vs.length + 1 = (vs ++ [(⟨(oneF (b.drop p)).kind, (oneF (b.drop p)).n, r, (oneF (b.drop p)).text⟩ : T4)]).length := fun vs r => by simp
        have ih := ins_toks w hw b c f (p + (oneF (b.drop p)).len) g (q + (k + w.length) + (oneF (b.drop p)).len) (ts ++ [(⟨(oneF (b.drop p)).kind, (oneF (b.drop p)).n, p, (oneF (b.drop p)).text⟩ : T4)]) (us ++ [(⟨(oneF (b.drop p)).kind, (oneF (b.drop p)).n, q + (k + w.length), (oneF (b.drop p)).text⟩ : T4)])
          (by omega) (by omega) (by omega) (by omega) (by rw [hdu, hu])
        rw [e, hl ts p]
        rcases ih with ⟨p', hbad⟩ | ⟨vs, vs', i1, i2, i3, i4, v1, r1, rfl, i5⟩
        · exact .inl ⟨p', hbad⟩
        · refine .inr ⟨(⟨(oneF (b.drop p)).kind, (oneF (b.drop p)).n, p, (oneF (b.drop p)).text⟩ : T4) :: (v1 :: r1), (⟨(oneF (b.drop p)).kind, (oneF (b.drop p)).n, q + (k + w.length), (oneF (b.drop p)).text⟩ : T4) :: vs', ?_, ?_, ?_, ?_, _, _, rfl, by show at0 ≤ p; omega⟩
          · rw [i1, List.append_assoc]
            rfl
          · rw [toksGo, hg', if_neg hnc, hdc, ho, if_pos hok, e, hl us (q + (k + w.length)), i2, List.append_assoc]
            rfl
          · simp only [List.map_cons] at i3 ⊢
            rw [i3]
          · rw [h6, h5]
            show _ = (b.drop at0).take (p - at0) ++ (w ++ insV w b p (v1 :: r1))
            rw [insV_split w b p (oneF (b.drop p)).len v1 r1 i5, hx, ← i4, hu]
            have : p - at0 = k := by omega
            rw [this]
      · exact .inl ⟨p, rfl⟩

/-- bytes put behind a slice that is being made -/
theorem app_row {h0 : Heap} (hf : h0.Fine) {bs : List (Option (List V))} {n m : Nat} {v x : V} {row news : List V} (hs : IsSl h0 bs 1 v n row) (hr : (hp h0 bs).row 1 x = some news) (hl : lenOf x = some m) (hm : news.length = m) (hb : n + m ≤ maxRow) :
    ∃ v' bs', Does (.app 1 1 (.v v) (.v x)) (hp h0 bs) v' (hp h0 bs') ∧ IsSl h0 bs' 1 v' (n + m) (row ++ news) ∧ bs.length ≤ bs'.length ∧
      ∀ j l, bget bs j = some l → (∀ a, v ≠ .msl (h0.next + j) 1 0 a none) → bget bs' j = some l ∧ ∀ a, v' ≠ .msl (h0.next + j) 1 0 a none := by
  have hmay : ∀ k vs, (hp h0 bs).mayPut (h0.next + k) vs = true := fun k vs => hp_may hf k vs
  have hmine : ∀ k, (hp h0 bs).mine (h0.next + k) = true := fun k => by
    simp only [Heap.mine, List.all_eq_true, decide_eq_true_eq]
    exact fun f m => Nat.le_trans (hf.fl f m) (Nat.le_add_right _ _)
  obtain ⟨h1, ⟨rfl, rfl⟩ | ⟨k, l, rfl, e2, e3, e4⟩⟩ := hs
  · have hrow : row = [] := List.length_eq_zero_iff.1 (by simpa using h1)
    subst hrow
    by_cases h0m : m = 0
    · have hnil : news = [] := List.length_eq_zero_iff.1 (by omega)
      subst hnil; subst h0m
      exact ⟨.nilsl, bs, ⟨by rw [op1v]; simp only [op1, ev, append, hr, hl, if_true]⟩, IsSl.nil, Nat.le_refl _, fun j l hj hv => ⟨hj, hv⟩⟩
    · refine ⟨.msl (h0.next + bs.length) 1 0 (0 + m) none, badd bs news, ⟨?_⟩, ⟨by simp [hm], .inr ⟨bs.length, news, rfl, bget_badd, by omega, by rw [List.nil_append, List.take_of_length_le (by omega)]⟩⟩, by rw [badd_len]; omega, fun j l hj _ => ⟨bget_badd_lt hj, fun a e => by
        have := bget_lt hj
        simp only [V.msl.injEq] at e
        omega⟩⟩
      rw [op1v]
      have hb' : m * 1 ≤ maxRow := by omega
      simp only [op1, ev, append, hr, hl, h0m, if_false, hb', if_true, Nat.zero_add]
      rw [← hp_new]
      rfl
  · have hk := bget_lt e2
    have hrl : row.length = n := by simpa using h1
    by_cases hroom : (n + m) * 1 ≤ l.length
    · refine ⟨.msl (h0.next + k) 1 0 (n + m) none, bset bs k (some (l.take (n * 1) ++ news ++ l.drop ((n + m) * 1))), ⟨?_⟩, ⟨by simp only [List.length_append]; omega, .inr ⟨k, _, rfl, bget_bset hk, ?_, ?_⟩⟩, by rw [bset_len]; omega, fun j l' hj hv => ?_⟩
      rotate_left 3
      · have hjk : j ≠ k := fun e => hv n (by rw [e])
        exact ⟨by rw [bget_bset_ne hjk]; exact hj, fun a e => by
          simp only [V.msl.injEq] at e
          omega⟩
      · rw [op1v]
        simp only [op1, ev, append, hr, hl, ne_eq, not_true_eq_false, if_false, hp_cells, e2, hroom, if_true, hmay]
        rw [← hp_set h0 hk]
        rfl
      · simp only [List.length_append, List.length_take, List.length_drop]; omega
      · have h5 : (l.take (n * 1) ++ news).length = (n + m) * 1 := by simp only [List.length_append, List.length_take]; omega
        rw [List.take_append_of_le_length (by omega), List.take_of_length_le (by omega), e4]
    · refine ⟨.msl (h0.next + bs.length) 1 0 (n + m) none, badd (bset bs k none) (l.take (n * 1) ++ news), ⟨?_⟩, ⟨by simp only [List.length_append]; omega, .inr ⟨bs.length, l.take (n * 1) ++ news, rfl, ?_, ?_, ?_⟩⟩, by rw [badd_len, bset_len]; omega, fun j l' hj hv => ?_⟩
      rotate_left 4
      · have hjk : j ≠ k := fun e => hv n (by rw [e])
        have hjl := bget_lt hj
        exact ⟨bget_badd_lt (by rw [bget_bset_ne hjk]; exact hj), fun a e => by
          simp only [V.msl.injEq] at e
          omega⟩
      · rw [op1v]
        have h6 : ¬ l.length < n * 1 := by omega
        have hb' : (n + m) * 1 ≤ maxRow := by omega
        simp only [op1, ev, append, hr, hl, ne_eq, not_true_eq_false, if_false, hp_cells, e2, hroom, h6, hmine, hb', Bool.true_and, decide_true, if_true]
        rw [← hp_new, ← hp_set h0 hk]
        rfl
      · have := bget_badd (bs := bset bs k none) (c := l.take (n * 1) ++ news)
        rw [bset_len] at this
        exact this
      · simp only [List.length_append, List.length_take]; omega
      · rw [List.take_of_length_le (by simp only [List.length_append, List.length_take]; omega), e4]

theorem rising_ge {ts : List T4} (hr : ts.Pairwise fun t u => t.at0 < u.at0) : ∀ (i : Nat) (t : T4), ts[i]? = some t → i ≤ t.at0
  | 0, _, _ => Nat.zero_le _
  | i + 1, t, h => by
    obtain ⟨hi, e⟩ := List.getElem?_eq_some_iff.1 h
    have h2 : i < ts.length := by omega
    have h3 := rising_ge hr i ts[i] (List.getElem?_eq_getElem h2)
    have h4 := List.pairwise_iff_getElem.1 hr i (i + 1) h2 hi (by omega)
    rw [e] at h4
    omega
theorem good_len {s : List Nat} {ts : List T4} (hg : Good s ts) : ts.length ≤ s.length + 1 := by
  have hp := hg.pos
  have hl : ts[ts.length - 1]? = some ts[ts.length - 1] := List.getElem?_eq_getElem (by omega)
  have h1 := rising_ge hg.rising _ _ hl
  have h2 := hg.endAt _ hl
  omega
/-- the place of the token ahead of the i-th -/
def fromAt (ts : List T4) : Nat → Nat
  | 0 => 0
  | i + 1 => ((ts[i]?).map T4.at0).getD 0
theorem insV_at {w b : List Nat} {ts : List T4} {i : Nat} {t : T4} (h : ts[i]? = some t) : insV w b (fromAt ts i) (ts.drop i) = (b.drop (fromAt ts i)).take (t.at0 - fromAt ts i) ++ (w ++ insV w b (fromAt ts (i + 1)) (ts.drop (i + 1))) := by
  obtain ⟨hi, e⟩ := List.getElem?_eq_some_iff.1 h
  have hd : ts.drop i = t :: ts.drop (i + 1) := by rw [List.drop_eq_getElem_cons hi, e]
  have hf : fromAt ts (i + 1) = t.at0 := by simp [fromAt, h]
  rw [hd, insV, hf]
theorem fromAt_le {ts : List T4} (hr : ts.Pairwise fun t u => t.at0 < u.at0) {i : Nat} {t : T4} (h : ts[i]? = some t) : fromAt ts i ≤ t.at0 := by
  cases i with
  | zero => exact Nat.zero_le _
  | succ i =>
    obtain ⟨hi, e⟩ := List.getElem?_eq_some_iff.1 h
    have h2 : i < ts.length := by omega
    have h4 := List.pairwise_iff_getElem.1 hr i (i + 1) h2 hi (by omega)
    rw [e] at h4
    simp only [fromAt, List.getElem?_eq_getElem h2, Option.map_some, Option.getD_some]
    omega
end Go.Proofs.YthclejjieggdkaaDoor.CodesL
