/- The lexer: all tokens. -/
import Derived.Test.YthclejjieggdkaaDoorWLO
namespace Go.Proofs.YthclejjieggdkaaDoor.CodesL
open Go Go.Ab
set_option maxHeartbeats 800000
set_option maxRecDepth 20000

def zeroTok : List V := [.int .i64 0, .int .i64 0, .int .i64 0, .str []]
def endTok (p : Nat) : List V := [.int .i64 0, .int .i64 0, .int .i64 p, .str []]
/-- the answer: from a place on, with n tokens told -/
noncomputable def toksGo : Nat → List Nat → Nat → Nat → List V → V
  | 0, _, _, _, _ => .undef
  | f + 1, s, at0, n, row =>
    if at0 + skipF (s.drop at0) = s.length then .tup [.fsl (elems 4 (n + 1) (row ++ endTok (at0 + skipF (s.drop at0)))) none, .int .i64 ((at0 + skipF (s.drop at0) : Nat) : Int), .int .i64 0]
    else if (oneF (s.drop (at0 + skipF (s.drop at0)))).ok then toksGo f s (at0 + skipF (s.drop at0) + (oneF (s.drop (at0 + skipF (s.drop at0)))).len) (n + 1) (row ++ (oneF (s.drop (at0 + skipF (s.drop at0)))).cells ((at0 + skipF (s.drop at0) : Nat) : Int))
    else .tup [.nilsl, .int .i64 ((at0 + skipF (s.drop at0) : Nat) : Int), .int .i64 2]

theorem skipB_le : ∀ (b : Bool) (s : List Nat), skipB b s ≤ s.length
  | b, [] => by cases b <;> exact Nat.le_refl _
  | false, c :: r => by
    simp only [skipB, List.length_cons]
    split
    · have := skipB_le false r; omega
    · split
      · have := skipB_le true r; omega
      · omega
  | true, c :: r => by
    simp only [skipB, List.length_cons]
    split
    · have := skipB_le false r; omega
    · have := skipB_le true r; omega
theorem skipF_le (s : List Nat) : skipF s ≤ s.length := skipB_le false s

theorem runLen_pos {s : List Nat} (h0 : 0 < s.length) (h : isLetter (at' s 0) ∨ isDigit (at' s 0)) : 0 < runLen s := by
  have := runLen_at (s := s) (i := 0) h0
  rw [List.drop_zero, if_pos (by unfold goes; rcases h with h | h <;> simp [h])] at this
  omega
theorem oneF_len {s : List Nat} (h0 : 0 < s.length) : (oneF s).len ≤ s.length ∧ ((oneF s).ok = true → 0 < (oneF s).len) := by
  have h1 := runLen_le s
  have h2 := signOf_le s
  unfold oneF
  by_cases hl : isLetter (at' s 0)
  · have := runLen_pos h0 (.inl hl)
    rw [if_pos hl]
    split
    · exact ⟨h1, fun _ => this⟩
    · exact ⟨h1, fun _ => this⟩
  · rw [if_neg hl]
    by_cases hd : isDigit (at' s 0)
    · have := runLen_pos h0 (.inr hd)
      rw [if_pos hd]
      exact ⟨h1, fun _ => this⟩
    · rw [if_neg hd]
      refine ⟨h2, fun h => ?_⟩
      simp only [decide_eq_true_eq] at h
      show 0 < (signOf s).length
      omega
theorem cells_scal (t : Tok) (p : Int) : ∀ v ∈ t.cells p, v.scal = true := by
  intro v hv
  simp only [Tok.cells, List.mem_cons, List.not_mem_nil, or_false] at hv
  rcases hv with rfl | rfl | rfl | rfl <;> rfl

structure TS where
  at0 : Nat
  n : Nat
  row : List V
  out : V
  bs : List (Option (List V))
  f : Nat

theorem tokens_pu (v : V) (s : List Nat) (hs : Small s) (hl : s.length ≤ 65536) : PuC D1 17 [v] (toksGo (s.length + 1) s 0 0 []) (fun h => Bytes h v s) := by
  refine PuC.tidy (fun h hb => hb.shut) rfl rfl rfl rfl rfl fun h hf hb => ?_
  refine W.seq ?_
  repeat' (first
      | refine W.region ?_ | refine WS.nil ?_ | refine W.skip ?_ | refine W.ret ?_ | refine W.goto ?_ | refine W.yes rfl rfl ?_ | refine W.no rfl rfl ?_ | refine W.fork rfl (fun _ => ?_) (fun _ => ?_) | refine WS.near rfl o_mov rfl ?_ | refine WS.near rfl o_notT rfl ?_ | refine WS.near rfl o_notF rfl ?_ | refine WS.near rfl o_gtr rfl ?_ | refine WS.near rfl o_eql rfl ?_ | refine WS.near rfl o_lenS rfl ?_ | refine WS.near rfl o_faddr rfl ?_ | refine WS.near rfl (o_extract rfl) rfl ?_ | refine WS.near rfl (o_build rfl) rfl ?_ | refine WS.near rfl (o_add (by omega) (by omega)) rfl ?_ | refine WS.near rfl (o_sliceF _ rfl (by omega)) rfl ?_)
  refine W.scope ?_
  refine W.inscope ?_
  have hb0 : Bytes (hp h []) v s := by rw [hp_nil]; exact hb
  refine W.seq ?_
  repeat' (first
      | refine W.region ?_ | refine WS.nil ?_ | refine W.skip ?_ | refine W.ret ?_ | refine W.goto ?_ | refine W.yes rfl rfl ?_ | refine W.no rfl rfl ?_ | refine W.fork rfl (fun _ => ?_) (fun _ => ?_) | refine WS.near rfl o_mov rfl ?_ | refine WS.near rfl o_notT rfl ?_ | refine WS.near rfl o_notF rfl ?_ | refine WS.near rfl o_gtr rfl ?_ | refine WS.near rfl o_eql rfl ?_ | refine WS.near rfl o_lenS rfl ?_ | refine WS.near rfl o_faddr rfl ?_ | refine WS.near rfl (o_extract rfl) rfl ?_ | refine WS.near rfl (o_build rfl) rfl ?_ | refine WS.near rfl (o_add (by omega) (by omega)) rfl ?_ | refine WS.near rfl (o_sliceF _ rfl (by omega)) rfl ?_)
  refine W.seq ?_
  refine W.region ?_
  refine WS.near rfl (o_lenY hb0) rfl ?_
  repeat' (first
      | refine W.region ?_ | refine WS.nil ?_ | refine W.skip ?_ | refine W.ret ?_ | refine W.goto ?_ | refine W.yes rfl rfl ?_ | refine W.no rfl rfl ?_ | refine W.fork rfl (fun _ => ?_) (fun _ => ?_) | refine WS.near rfl o_mov rfl ?_ | refine WS.near rfl o_notT rfl ?_ | refine WS.near rfl o_notF rfl ?_ | refine WS.near rfl o_gtr rfl ?_ | refine WS.near rfl o_eql rfl ?_ | refine WS.near rfl o_lenS rfl ?_ | refine WS.near rfl o_faddr rfl ?_ | refine WS.near rfl (o_extract rfl) rfl ?_ | refine WS.near rfl (o_build rfl) rfl ?_ | refine WS.near rfl (o_add (by omega) (by omega)) rfl ?_ | refine WS.near rfl (o_sliceF _ rfl (by omega)) rfl ?_)
  · rename_i hbig; omega
  refine W.seq ?_
  refine W.region ?_
  refine WS.near rfl (o_b2s hb0) rfl ?_
  repeat' (first
      | refine W.region ?_ | refine WS.nil ?_ | refine W.skip ?_ | refine W.ret ?_ | refine W.goto ?_ | refine W.yes rfl rfl ?_ | refine W.no rfl rfl ?_ | refine W.fork rfl (fun _ => ?_) (fun _ => ?_) | refine WS.near rfl o_mov rfl ?_ | refine WS.near rfl o_notT rfl ?_ | refine WS.near rfl o_notF rfl ?_ | refine WS.near rfl o_gtr rfl ?_ | refine WS.near rfl o_eql rfl ?_ | refine WS.near rfl o_lenS rfl ?_ | refine WS.near rfl o_faddr rfl ?_ | refine WS.near rfl (o_extract rfl) rfl ?_ | refine WS.near rfl (o_build rfl) rfl ?_ | refine WS.near rfl (o_add (by omega) (by omega)) rfl ?_ | refine WS.near rfl (o_sliceF _ rfl (by omega)) rfl ?_)
  repeat' (first
    | refine W.seq ?_
    | refine W.region ?_
    | refine WS.near rfl o_mov rfl ?_
    | refine WS.nil ?_)
  refine W.marked (fun a : TS => [(4, .str s), (5, a.out), (6, .int .i64 a.at0)]) (fun a => hp h a.bs)
    (fun a => a.at0 ≤ s.length ∧ IsSl h a.bs 4 a.out a.n a.row ∧ (∀ u ∈ a.row, u.scal = true) ∧ a.n ≤ a.at0 ∧ s.length + 1 ≤ a.f + a.at0 ∧ toksGo a.f s a.at0 a.n a.row = toksGo (s.length + 1) s 0 0 []) (fun a => s.length - a.at0)
    ⟨0, 0, [], .nilsl, [], s.length + 1⟩ rfl ⟨by show 0 ≤ s.length; omega, IsSl.nil, (fun u hu => by cases hu), Nat.le_refl _, Nat.le_refl _, rfl⟩ ⟨rfl, rfl, rfl, trivial⟩ rfl ?_
  rintro ⟨at0, n, row, out, bs, f⟩ ⟨hat, hsl, hsc, hn, hf1, hr⟩ ih
  simp only at hat hsl hsc hn hf1 hr ⊢
  obtain ⟨f, rfl⟩ : ∃ g, f = g + 1 := ⟨f - 1, by omega⟩
  have hk := skipF_le (s.drop at0)
  have hdl : (s.drop at0).length = s.length - at0 := List.length_drop
  rw [toksGo] at hr
  repeat' (first
      | refine W.seq ?_ | refine W.region ?_ | refine WS.nil ?_ | refine W.skip ?_ | refine W.ret ?_ | refine W.goto ?_ | refine W.yes rfl rfl ?_ | refine W.no rfl rfl ?_ | refine W.fork rfl (fun _ => ?_) (fun _ => ?_) | refine WS.near rfl o_mov rfl ?_ | refine WS.near rfl o_notT rfl ?_ | refine WS.near rfl o_notF rfl ?_ | refine WS.near rfl o_gtr rfl ?_ | refine WS.near rfl o_eql rfl ?_ | refine WS.near rfl o_lenS rfl ?_ | refine WS.near rfl o_faddr rfl ?_ | refine WS.near rfl (o_extract rfl) rfl ?_ | refine WS.near rfl (o_build rfl) rfl ?_ | refine WS.near rfl (o_add (by omega) (by omega)) rfl ?_ | refine WS.near rfl (o_sliceF _ rfl (by omega)) rfl ?_)
  refine WS.puF hf rfl rfl (blank_pu (s.drop at0) (hs.drop at0) (by omega)) ?_
  repeat' (first
      | refine W.seq ?_ | refine W.region ?_ | refine WS.nil ?_ | refine W.skip ?_ | refine W.ret ?_ | refine W.goto ?_ | refine W.yes rfl rfl ?_ | refine W.no rfl rfl ?_ | refine W.fork rfl (fun _ => ?_) (fun _ => ?_) | refine WS.near rfl o_mov rfl ?_ | refine WS.near rfl o_notT rfl ?_ | refine WS.near rfl o_notF rfl ?_ | refine WS.near rfl o_gtr rfl ?_ | refine WS.near rfl o_eql rfl ?_ | refine WS.near rfl o_lenS rfl ?_ | refine WS.near rfl o_faddr rfl ?_ | refine WS.near rfl (o_extract rfl) rfl ?_ | refine WS.near rfl (o_build rfl) rfl ?_ | refine WS.near rfl (o_add (by omega) (by omega)) rfl ?_ | refine WS.near rfl (o_sliceF _ rfl (by omega)) rfl ?_)
  · rename_i hend
    have hend' : at0 + skipF (s.drop at0) = s.length := by omega
    rw [if_pos hend'] at hr
    refine WS.near rfl (o_litS (cs := endTok (at0 + skipF (s.drop at0))) rfl) rfl ?_
    obtain ⟨v', bs', hd, hsl', _⟩ := app_one (c := endTok (at0 + skipF (s.drop at0))) (j := bs.length) (bytes := 40) hf hsl.badd bget_badd rfl (by decide) (by show (n + 1) * 40 ≤ 140737488355328; omega)
    refine WS.near rfl hd rfl ?_
    repeat' (first
        | refine W.seq ?_ | refine W.region ?_ | refine WS.nil ?_ | refine W.skip ?_ | refine W.ret ?_ | refine W.goto ?_ | refine W.yes rfl rfl ?_ | refine W.no rfl rfl ?_ | refine W.fork rfl (fun _ => ?_) (fun _ => ?_) | refine WS.near rfl o_mov rfl ?_ | refine WS.near rfl o_notT rfl ?_ | refine WS.near rfl o_notF rfl ?_ | refine WS.near rfl o_gtr rfl ?_ | refine WS.near rfl o_eql rfl ?_ | refine WS.near rfl o_lenS rfl ?_ | refine WS.near rfl o_faddr rfl ?_ | refine WS.near rfl (o_extract rfl) rfl ?_ | refine WS.near rfl (o_build rfl) rfl ?_ | refine WS.near rfl (o_add (by omega) (by omega)) rfl ?_ | refine WS.near rfl (o_sliceF _ rfl (by omega)) rfl ?_)
    refine ⟨_, rfl, bs', rfl, ?_⟩
    rw [← hr]
    refine freeze_tup3 fun k hk => freeze_sl hsl' (by omega) (by decide) (by omega) fun u hu => ?_
    rcases List.mem_append.1 hu with hu | hu
    · exact hsc u hu
    · simp only [endTok, List.mem_cons, List.not_mem_nil, or_false] at hu
      rcases hu with rfl | rfl | rfl | rfl <;> rfl
  · rename_i hend
    have hend' : ¬ at0 + skipF (s.drop at0) = s.length := by omega
    rw [if_neg hend'] at hr
    have hd2 : (s.drop (at0 + skipF (s.drop at0))).length = s.length - (at0 + skipF (s.drop at0)) := List.length_drop
    have o1 := one_pu (s.drop (at0 + skipF (s.drop at0))) (by omega) (by omega)
    obtain ⟨l1, l2⟩ := oneF_len (s := s.drop (at0 + skipF (s.drop at0))) (by omega)
    have hcs := cells_scal (oneF (s.drop (at0 + skipF (s.drop at0)))) ((at0 + skipF (s.drop at0) : Nat) : Int)
    generalize hT : oneF (s.drop (at0 + skipF (s.drop at0))) = T at *
    obtain ⟨tk, tn, tx, tl, tok⟩ := T
    simp only at l1 l2 hr
    cases tok with
    | false =>
      rw [if_neg (by simp)] at hr
      refine WS.puF hf rfl rfl o1 ?_
      repeat' (first
          | refine W.seq ?_ | refine W.region ?_ | refine WS.nil ?_ | refine W.skip ?_ | refine W.ret ?_ | refine W.goto ?_ | refine W.yes rfl rfl ?_ | refine W.no rfl rfl ?_ | refine W.fork rfl (fun _ => ?_) (fun _ => ?_) | refine WS.near rfl o_mov rfl ?_ | refine WS.near rfl o_notT rfl ?_ | refine WS.near rfl o_notF rfl ?_ | refine WS.near rfl o_gtr rfl ?_ | refine WS.near rfl o_eql rfl ?_ | refine WS.near rfl o_lenS rfl ?_ | refine WS.near rfl o_faddr rfl ?_ | refine WS.near rfl (o_extract rfl) rfl ?_ | refine WS.near rfl (o_build rfl) rfl ?_ | refine WS.near rfl (o_add (by omega) (by omega)) rfl ?_ | refine WS.near rfl (o_sliceF _ rfl (by omega)) rfl ?_)
      refine WS.near rfl o_allocS rfl ?_
      refine WS.near rfl (o_storeH hf bget_badd rfl) rfl ?_
      repeat' (first
          | refine W.seq ?_ | refine W.region ?_ | refine WS.nil ?_ | refine W.skip ?_ | refine W.ret ?_ | refine W.goto ?_ | refine W.yes rfl rfl ?_ | refine W.no rfl rfl ?_ | refine W.fork rfl (fun _ => ?_) (fun _ => ?_) | refine WS.near rfl o_mov rfl ?_ | refine WS.near rfl o_notT rfl ?_ | refine WS.near rfl o_notF rfl ?_ | refine WS.near rfl o_gtr rfl ?_ | refine WS.near rfl o_eql rfl ?_ | refine WS.near rfl o_lenS rfl ?_ | refine WS.near rfl o_faddr rfl ?_ | refine WS.near rfl (o_extract rfl) rfl ?_ | refine WS.near rfl (o_build rfl) rfl ?_ | refine WS.near rfl (o_add (by omega) (by omega)) rfl ?_ | refine WS.near rfl (o_sliceF _ rfl (by omega)) rfl ?_)
      refine ⟨_, rfl, _, rfl, ?_⟩
      rw [← hr]
      rfl
    | true =>
      rw [if_pos rfl] at hr
      have o2 : PuF D1 33 [.str (s.drop (at0 + skipF (s.drop at0)))] (.tup [.agg [.int .i64 tk, .int .i64 tn, .int .i64 0, .str tx], .int .i64 (tl : Nat), .bool true]) := o1
      refine WS.puF hf rfl rfl o2 ?_
      repeat' (first
          | refine W.seq ?_ | refine W.region ?_ | refine WS.nil ?_ | refine W.skip ?_ | refine W.ret ?_ | refine W.goto ?_ | refine W.yes rfl rfl ?_ | refine W.no rfl rfl ?_ | refine W.fork rfl (fun _ => ?_) (fun _ => ?_) | refine WS.near rfl o_mov rfl ?_ | refine WS.near rfl o_notT rfl ?_ | refine WS.near rfl o_notF rfl ?_ | refine WS.near rfl o_gtr rfl ?_ | refine WS.near rfl o_eql rfl ?_ | refine WS.near rfl o_lenS rfl ?_ | refine WS.near rfl o_faddr rfl ?_ | refine WS.near rfl (o_extract rfl) rfl ?_ | refine WS.near rfl (o_build rfl) rfl ?_ | refine WS.near rfl (o_add (by omega) (by omega)) rfl ?_ | refine WS.near rfl (o_sliceF _ rfl (by omega)) rfl ?_)
      refine WS.near rfl o_allocS rfl ?_
      refine WS.near rfl (o_storeH hf bget_badd rfl) rfl ?_
      repeat' (first
          | refine W.seq ?_ | refine W.region ?_ | refine WS.nil ?_ | refine W.skip ?_ | refine W.ret ?_ | refine W.goto ?_ | refine W.yes rfl rfl ?_ | refine W.no rfl rfl ?_ | refine W.fork rfl (fun _ => ?_) (fun _ => ?_) | refine WS.near rfl o_mov rfl ?_ | refine WS.near rfl o_notT rfl ?_ | refine WS.near rfl o_notF rfl ?_ | refine WS.near rfl o_gtr rfl ?_ | refine WS.near rfl o_eql rfl ?_ | refine WS.near rfl o_lenS rfl ?_ | refine WS.near rfl o_faddr rfl ?_ | refine WS.near rfl (o_extract rfl) rfl ?_ | refine WS.near rfl (o_build rfl) rfl ?_ | refine WS.near rfl (o_add (by omega) (by omega)) rfl ?_ | refine WS.near rfl (o_sliceF _ rfl (by omega)) rfl ?_)
      have g1 := bget_bput (off := 0) (n := 4) (cs := [.int .i64 tk, .int .i64 tn, .int .i64 0, .str tx]) (bget_badd (bs := bs) (c := zeroTok))
      refine WS.near rfl (o_storeH hf g1 rfl) rfl ?_
      repeat' (first
          | refine W.seq ?_ | refine W.region ?_ | refine WS.nil ?_ | refine W.skip ?_ | refine W.ret ?_ | refine W.goto ?_ | refine W.yes rfl rfl ?_ | refine W.no rfl rfl ?_ | refine W.fork rfl (fun _ => ?_) (fun _ => ?_) | refine WS.near rfl o_mov rfl ?_ | refine WS.near rfl o_notT rfl ?_ | refine WS.near rfl o_notF rfl ?_ | refine WS.near rfl o_gtr rfl ?_ | refine WS.near rfl o_eql rfl ?_ | refine WS.near rfl o_lenS rfl ?_ | refine WS.near rfl o_faddr rfl ?_ | refine WS.near rfl (o_extract rfl) rfl ?_ | refine WS.near rfl (o_build rfl) rfl ?_ | refine WS.near rfl (o_add (by omega) (by omega)) rfl ?_ | refine WS.near rfl (o_sliceF _ rfl (by omega)) rfl ?_)
      have g2 := bget_bput (off := 0 + 2) (n := 1) (cs := [.int .i64 (at0 + skipF (s.drop at0))]) g1
      refine WS.near rfl (o_loadHN g2 rfl) rfl ?_
      refine WS.near rfl (o_litS (cs := Tok.cells ⟨tk, tn, tx, tl, true⟩ ((at0 + skipF (s.drop at0) : Nat) : Int)) rfl) rfl ?_
      have key : ∀ k l, bget bs k = some l → bget (badd (bput (bput (badd bs zeroTok) bs.length 0 4 [.int .i64 tk, .int .i64 tn, .int .i64 0, .str tx]) bs.length (0 + 2) 1 [.int .i64 (at0 + skipF (s.drop at0))]) (Tok.cells ⟨tk, tn, tx, tl, true⟩ ((at0 + skipF (s.drop at0) : Nat) : Int))) k = some l := fun k l e => by
        have hne : k ≠ bs.length := Nat.ne_of_lt (bget_lt e)
        refine bget_badd_lt ?_
        rw [bget_bput_ne hne, bget_bput_ne hne]
        exact bget_badd_lt e
      obtain ⟨v', bs', hd, hsl', _⟩ := app_one (c := Tok.cells ⟨tk, tn, tx, tl, true⟩ ((at0 + skipF (s.drop at0) : Nat) : Int)) (bytes := 40) hf (hsl.keep key) bget_badd rfl (by decide) (by show (n + 1) * 40 ≤ 140737488355328; omega)
      refine WS.near rfl hd rfl ?_
      repeat' (first
          | refine W.seq ?_ | refine W.region ?_ | refine WS.nil ?_ | refine W.skip ?_ | refine W.ret ?_ | refine W.goto ?_ | refine W.yes rfl rfl ?_ | refine W.no rfl rfl ?_ | refine W.fork rfl (fun _ => ?_) (fun _ => ?_) | refine WS.near rfl o_mov rfl ?_ | refine WS.near rfl o_notT rfl ?_ | refine WS.near rfl o_notF rfl ?_ | refine WS.near rfl o_gtr rfl ?_ | refine WS.near rfl o_eql rfl ?_ | refine WS.near rfl o_lenS rfl ?_ | refine WS.near rfl o_faddr rfl ?_ | refine WS.near rfl (o_extract rfl) rfl ?_ | refine WS.near rfl (o_build rfl) rfl ?_ | refine WS.near rfl (o_add (by omega) (by omega)) rfl ?_ | refine WS.near rfl (o_sliceF _ rfl (by omega)) rfl ?_)
      have e1 : ((at0 : Int) + (skipF (s.drop at0) : Nat) + (tl : Nat)) = ((at0 + skipF (s.drop at0) + tl : Nat) : Int) := by omega
      refine ih ⟨at0 + skipF (s.drop at0) + tl, n + 1, row ++ Tok.cells ⟨tk, tn, tx, tl, true⟩ ((at0 + skipF (s.drop at0) : Nat) : Int), v', bs', f⟩ _ _ ?_ ?_ ?_ rfl
      · have h2 := l2 rfl
        refine ⟨by show at0 + skipF (s.drop at0) + tl ≤ s.length; omega, hsl', fun u hu => ?_, by show n + 1 ≤ at0 + skipF (s.drop at0) + tl; omega, by show s.length + 1 ≤ f + (at0 + skipF (s.drop at0) + tl); omega, hr⟩
        rcases List.mem_append.1 hu with hu | hu
        · exact hsc u hu
        · exact hcs u hu
      · have h2 := l2 rfl
        show s.length - (at0 + skipF (s.drop at0) + tl) < s.length - at0; omega
      · exact ⟨rfl, rfl, congrArg (fun z => some (V.int .i64 z)) e1, trivial⟩
end Go.Proofs.YthclejjieggdkaaDoor.CodesL
