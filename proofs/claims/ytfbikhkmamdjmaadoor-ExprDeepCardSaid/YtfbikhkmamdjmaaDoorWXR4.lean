/- The lexer, part 4. -/
import Derived.Test.YtfbikhkmamdjmaaDoorWXR3
namespace Go.Proofs.YtfbikhkmamdjmaaDoor.CodesX
open Go Go.Ab
set_option maxHeartbeats 800000
set_option maxRecDepth 20000
set_option maxHeartbeats 800000
set_option maxRecDepth 20000
/-- a token as an element of a slice -/
def TokEl (e : V) : Prop := ∃ a b c x, e = .agg [.int .i64 a, .int .i64 b, .int .i64 c, .str x]
def TokSl (v : V) : Prop := v = .nilsl ∨ ∃ es, v = .fsl es none ∧ (∀ e ∈ es, TokEl e) ∧ es.length < 2 ^ 60
theorem elems_snoc : ∀ (n : Nat) (row c : List V), row.length = n * 4 → c.length = 4 → elems 4 (n + 1) (row ++ c) = elems 4 n row ++ [.agg c]
  | 0, row, c, h1, h2 => by
    have : row = [] := List.length_eq_zero_iff.1 (by omega)
    subst this
    have h3 : c.take 4 = c := List.take_of_length_le (by omega)
    simp [elems, h3]
  | n + 1, row, c, h1, h2 => by
    have h4 : (row ++ c).take 4 = row.take 4 := List.take_append_of_le_length (by omega)
    have h5 : (row ++ c).drop 4 = row.drop 4 ++ c := List.drop_append_of_le_length (by omega)
    have ih := elems_snoc n (row.drop 4) c (by rw [List.length_drop]; omega) h2
    rw [elems, h4, h5, ih, elems]
    rfl
theorem elems_len : ∀ (sz n : Nat) (l : List V), (elems sz n l).length = n
  | _, 0, _ => rfl
  | sz, n + 1, l => by simp only [elems, List.length_cons, elems_len sz n]
/-- a row of tokens -/
def IsToks (n : Nat) (row : List V) : Prop := row.length = n * 4 ∧ ∀ e ∈ elems 4 n row, TokEl e
theorem IsToks.snoc {n : Nat} {row c : List V} (h : IsToks n row) (hc : TokEl (.agg c)) : IsToks (n + 1) (row ++ c) := by
  obtain ⟨a, b, d, x, hx⟩ := hc
  cases hx
  refine ⟨by rw [List.length_append, h.1]; show n * 4 + 4 = _; omega, fun e he => ?_⟩
  rw [elems_snoc n row _ h.1 rfl] at he
  rcases List.mem_append.1 he with he | he
  · exact h.2 e he
  · rw [List.mem_singleton] at he; exact ⟨a, b, d, x, he⟩
theorem IsToks.sl {n : Nat} {row : List V} (h : IsToks n row) (hn : n < 2 ^ 60) : TokSl (.fsl (elems 4 n row) none) := .inr ⟨_, rfl, h.2, by rw [elems_len]; exact hn⟩
/-- the answer has three parts, the first a slice of tokens -/
theorem toks_parts (s : List Nat) (hs : s.length ≤ 65536) : ∀ (f at0 n : Nat) (row : List V), at0 ≤ s.length → s.length + 1 ≤ f + at0 → n ≤ at0 → IsToks n row → ∃ a p e, toksGo f s at0 n row = .tup [a, .int .i64 p, .int .i64 e] ∧ TokSl a
  | 0, at0, n, row, h1, h2, _, _ => by omega
  | f + 1, at0, n, row, h1, h2, h3, h4 => by
    have hk := skipF_le (s.drop at0)
    have hdl : (s.drop at0).length = s.length - at0 := List.length_drop
    rw [toksGo]
    split
    · exact ⟨_, _, _, rfl, (h4.snoc ⟨_, _, _, _, rfl⟩).sl (by omega)⟩
    · rename_i hne
      have hd2 : (s.drop (at0 + skipF (s.drop at0))).length = s.length - (at0 + skipF (s.drop at0)) := List.length_drop
      obtain ⟨l1, l2⟩ := oneF_len (s := s.drop (at0 + skipF (s.drop at0))) (by omega)
      split
      · rename_i hok
        have := l2 hok
        exact toks_parts s hs f _ _ _ (by omega) (by omega) (by omega) (h4.snoc ⟨_, _, _, _, rfl⟩)
      · exact ⟨_, _, _, rfl, .inl rfl⟩
theorem o_iaddrT {es : List V} {h : Heap} {k : IntKind} {a b c d : Int} {x : List Nat} (n : Nat) (ha : d = n) (hv : es[n]? = some (.agg [.int .i64 a, .int .i64 b, .int .i64 c, .str x])) :
    Does (.iaddr 4 (.v (.fsl es none)) (.v (.int k d))) h (.fptr [.int .i64 a, .int .i64 b, .int .i64 c, .str x]) h := o_iaddrF ha hv rfl
theorem o_eqsT {h : Heap} {a b c : Int} {x : List Nat} : Does (.eqs true [0, 0, 0, 2] (.v (.agg [.int .i64 a, .int .i64 b, .int .i64 c, .str x])) (.v (.agg [.int .i64 a, .int .i64 b, .int .i64 c, .str x]))) h (.bool false) h := by
  refine ⟨?_⟩; rw [op1v]; simp [op1, ev, kCell, eqCells, eq1]
structure RS where
  at0 : Nat
  n : Nat
  row : List V
  out : V
  bs : List (Option (List V))
  f : Nat
theorem rtokens_pu (s : List Nat) (hs : Small s) (hl : s.length ≤ 65536) : PuF D1 33 [bV s] (toksGo (s.length + 1) s 0 0 []) := by
  refine PuF.tidy rfl rfl rfl rfl rfl fun h hf => ?_
  unfold bV
  repeat' (first
      | refine W.seq ?_ | refine W.region ?_ | refine WS.nil ?_ | refine W.skip ?_ | refine W.ret ?_ | refine W.fork rfl (fun _ => ?_) (fun _ => ?_) | refine WS.near rfl o_mov rfl ?_ | refine WS.near rfl o_gtr rfl ?_ | refine WS.near rfl o_lenB rfl ?_ | refine WS.near rfl o_lenB rfl ?_ | fail)
  · rename_i hbig; omega
  refine WS.puF hf rfl rfl (rskip_pu s 0 hs (by omega) (by omega)) ?_
  repeat' (first
      | refine WS.nil ?_ | fail)
  refine W.seq ?_
  refine W.block ?_
  refine W.loop (fun a : RS => [(0, bV s), (4, a.out), (5, .int .i64 ((a.at0 + skipF (s.drop a.at0) : Nat) : Int))]) (fun a => hp h a.bs)
    (fun a => a.at0 ≤ s.length ∧ IsSl h a.bs 4 a.out a.n a.row ∧ (∀ u ∈ a.row, u.scal = true) ∧ a.n ≤ a.at0 ∧ s.length + 1 ≤ a.f + a.at0 ∧ toksGo a.f s a.at0 a.n a.row = toksGo (s.length + 1) s 0 0 []) (fun a => s.length - a.at0)
    ⟨0, 0, [], .nilsl, [], s.length + 1⟩ ⟨by show 0 ≤ s.length; omega, IsSl.nil, (fun u hu => by cases hu), Nat.le_refl _, Nat.le_refl _, rfl⟩ ⟨rfl, rfl, rfl, trivial⟩ rfl ?_
  rintro ⟨at0, n, row, out, bs, f⟩ ⟨hat, hsl, hsc, hn, hf1, hr⟩
  simp only at hat hsl hsc hn hf1 hr ⊢
  unfold bV
  obtain ⟨f, rfl⟩ : ∃ g, f = g + 1 := ⟨f - 1, by omega⟩
  have hk := skipF_le (s.drop at0)
  have hdl : (s.drop at0).length = s.length - at0 := List.length_drop
  rw [toksGo] at hr
  generalize hp0 : at0 + skipF (s.drop at0) = p at *
  repeat' (first
      | refine W.seq ?_ | refine W.region ?_ | refine WS.nil ?_ | refine W.skip ?_ | refine W.block ?_ | refine W.exit ?_ | refine W.fork rfl (fun _ => ?_) (fun _ => ?_) | refine WS.near rfl o_lss rfl ?_ | refine WS.near rfl o_lenB rfl ?_ | refine WS.near rfl o_lenB rfl ?_ | refine WS.near rfl (o_build rfl) rfl ?_ | fail)
  · rename_i hlt
    rw [if_neg (by omega)] at hr
    have hd2 : (s.drop p).length = s.length - p := List.length_drop
    have o1 := rtok_pu s p hs (by omega) (by omega)
    obtain ⟨l1, l2⟩ := oneF_len (s := s.drop p) (by omega)
    have hcs := cells_scal (oneF (s.drop p)) ((p : Nat) : Int)
    unfold rtokV at o1
    generalize hT : oneF (s.drop p) = T at *
    obtain ⟨tk, tn, tx, tl, tok⟩ := T
    simp only at l1 l2 hr o1
    cases tok with
    | false =>
      rw [if_neg (by simp)] at hr o1
      obtain ⟨ja, jb, jc, jd, hj⟩ : ∃ a b c d, (if isLetter (at' s p) then Tok.cells ⟨tk, tn, tx, tl, false⟩ p else endTok p) = [a, b, c, d] := by split <;> exact ⟨_, _, _, _, rfl⟩
      rw [hj] at o1
      refine WS.puF hf rfl rfl o1 ?_
      repeat' (first
          | refine WS.near rfl (o_extract rfl) rfl ?_ | fail)
      refine WS.near rfl o_allocS rfl ?_
      refine WS.near rfl (o_storeH hf bget_badd rfl) rfl ?_
      repeat' (first
          | refine W.seq ?_ | refine W.region ?_ | refine WS.nil ?_ | refine W.ret ?_ | refine W.yes rfl rfl ?_ | refine WS.near rfl o_mov rfl ?_ | refine WS.near rfl o_neq rfl ?_ | fail)
      refine ⟨_, rfl, _, rfl, ?_⟩
      rw [← hr]
      rfl
    | true =>
      rw [if_pos rfl] at hr o1
      have o2 : PuF D1 61 [bV s, .int .i64 p] (.tup [.agg [.int .i64 tk, .int .i64 tn, .int .i64 p, .str tx], .int .i64 ((p + tl : Nat) : Int), .int .i64 0]) := o1
      refine WS.puF hf rfl rfl o2 ?_
      repeat' (first
          | refine WS.near rfl (o_extract rfl) rfl ?_ | fail)
      refine WS.near rfl o_allocS rfl ?_
      refine WS.near rfl (o_storeH hf bget_badd rfl) rfl ?_
      repeat' (first
          | refine W.seq ?_ | refine W.region ?_ | refine WS.nil ?_ | refine W.skip ?_ | refine W.no rfl rfl ?_ | refine WS.near rfl o_mov rfl ?_ | refine WS.near rfl o_neq rfl ?_ | fail)
      have g1 := bget_bput (off := 0) (n := 4) (cs := [.int .i64 tk, .int .i64 tn, .int .i64 p, .str tx]) (bget_badd (bs := bs) (c := zeroTok))
      refine WS.near rfl (o_loadHN g1 rfl) rfl ?_
      refine WS.near rfl (o_litS (cs := [.int .i64 tk, .int .i64 tn, .int .i64 p, .str tx]) rfl) rfl ?_
      have key : ∀ k l, bget bs k = some l → bget (badd (bput (badd bs zeroTok) bs.length 0 4 [.int .i64 tk, .int .i64 tn, .int .i64 p, .str tx]) [.int .i64 tk, .int .i64 tn, .int .i64 p, .str tx]) k = some l := fun k l e => by
        have hne : k ≠ bs.length := Nat.ne_of_lt (bget_lt e)
        refine bget_badd_lt ?_
        rw [bget_bput_ne hne]
        exact bget_badd_lt e
      obtain ⟨v', bs', hd, hsl', _⟩ := app_one (c := [.int .i64 tk, .int .i64 tn, .int .i64 p, .str tx]) (bytes := 40) hf (hsl.keep key) bget_badd rfl (by decide) (by show (n + 1) * 40 ≤ 140737488355328; omega)
      refine WS.near rfl hd rfl ?_
      repeat' (first
          | refine W.region ?_ | refine WS.nil ?_ | fail)
      have h2 := l2 rfl
      refine WS.puF hf rfl rfl (rskip_pu s (p + tl) hs (by omega) (by omega)) ?_
      repeat' (first
          | refine WS.nil ?_ | fail)
      refine ⟨⟨p + tl, n + 1, row ++ [.int .i64 tk, .int .i64 tn, .int .i64 p, .str tx], v', bs', f⟩, ⟨by show p + tl ≤ s.length; omega, hsl', fun u hu => ?_, by show n + 1 ≤ p + tl; omega, by show s.length + 1 ≤ f + (p + tl); omega, hr⟩, by show s.length - (p + tl) < s.length - at0; omega, ⟨rfl, rfl, rfl, trivial⟩, rfl⟩
      rcases List.mem_append.1 hu with hu | hu
      · exact hsc u hu
      · exact hcs u hu
  · rename_i hge
    rw [if_pos (by omega)] at hr
    obtain rfl : p = s.length := by omega
    repeat' (first
        | refine W.ret ?_ | fail)
    refine WS.near rfl (o_litS (cs := endTok s.length) rfl) rfl ?_
    obtain ⟨v', bs', hd, hsl', _⟩ := app_one (c := endTok s.length) (j := bs.length) (bytes := 40) hf hsl.badd bget_badd rfl (by decide) (by show (n + 1) * 40 ≤ 140737488355328; omega)
    refine WS.near rfl hd rfl ?_
    repeat' (first
        | refine WS.nil ?_ | refine W.ret ?_ | refine WS.near rfl o_mov rfl ?_ | refine WS.near rfl o_lenB rfl ?_ | refine WS.near rfl o_lenB rfl ?_ | fail)
    refine ⟨_, rfl, bs', rfl, ?_⟩
    rw [← hr]
    refine freeze_tup3 fun k hk => freeze_sl hsl' (by omega) (by decide) (by omega) fun u hu => ?_
    rcases List.mem_append.1 hu with hu | hu
    · exact hsc u hu
    · simp only [endTok, List.mem_cons, List.not_mem_nil, or_false] at hu
      rcases hu with rfl | rfl | rfl | rfl <;> rfl
end Go.Proofs.YtfbikhkmamdjmaaDoor.CodesX
