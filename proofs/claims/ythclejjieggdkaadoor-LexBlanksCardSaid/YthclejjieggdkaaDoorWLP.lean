/- The lexer: where tokens stand. -/
import Derived.Test.YthclejjieggdkaaDoorWLL
namespace Go.Proofs.YthclejjieggdkaaDoor.CodesL
open Go Go.Ab
set_option maxHeartbeats 800000
set_option maxRecDepth 20000

structure T4 where
  k : Int
  n : Int
  at0 : Nat
  x : List Nat
def T4.cs (t : T4) : List V := [.int .i64 t.k, .int .i64 t.n, .int .i64 t.at0, .str t.x]
def T4.v (t : T4) : V := .agg t.cs
/-- a token that stands where it says -/
def Stands (s : List Nat) (t : T4) : Prop := t.at0 ≤ s.length ∧ t.x.length ≤ s.length - t.at0 ∧ (s.drop t.at0).take t.x.length = t.x
def endT (s : List Nat) : T4 := ⟨0, 0, s.length, []⟩
/-- all tokens told so far -/
structure Told (s : List Nat) (at0 : Nat) (ts : List T4) : Prop where
  stands : ∀ t ∈ ts, Stands s t ∧ t.k ≠ 0 ∧ t.at0 < at0
  rising : ts.Pairwise fun t u => t.at0 < u.at0

theorem elems_T4 : ∀ ts : List T4, elems 4 ts.length (ts.flatMap T4.cs) = ts.map T4.v
  | [] => rfl
  | t :: ts => by
    simp only [List.length_cons, List.flatMap_cons, elems, List.map_cons]
    have h1 : (t.cs ++ ts.flatMap T4.cs).take 4 = t.cs := rfl
    have h2 : (t.cs ++ ts.flatMap T4.cs).drop 4 = ts.flatMap T4.cs := rfl
    rw [h1, h2, elems_T4 ts]
    rfl

theorem oneF_text (s : List Nat) : (oneF s).text.length ≤ s.length ∧ s.take (oneF s).text.length = (oneF s).text ∧ (oneF s).kind ≠ 0 := by
  have h1 := runLen_le s
  have ht : (s.take (runLen s)).length = runLen s := by rw [List.length_take]; omega
  have hsg : s.take (signOf s).length = signOf s := by
    unfold signOf
    cases h : signList.find? fun x => decide (s.take x.length = x) with
    | none => rfl
    | some x =>
      have := List.find?_some h
      simpa using this
  unfold oneF
  split
  · split
    · exact ⟨by simp only [ht]; omega, by simp only [ht], (show (2 : Int) ≠ 0 by decide)⟩
    · exact ⟨by simp only [ht]; omega, by simp only [ht], (show (1 : Int) ≠ 0 by decide)⟩
  · split
    · exact ⟨Nat.zero_le _, rfl, (show (3 : Int) ≠ 0 by decide)⟩
    · exact ⟨signOf_le s, hsg, (show (4 : Int) ≠ 0 by decide)⟩

theorem toks_places (s : List Nat) : ∀ (f at0 : Nat) (ts : List T4), at0 ≤ s.length → s.length + 1 ≤ f + at0 → Told s at0 ts →
    (∃ p : Nat, toksGo f s at0 ts.length (ts.flatMap T4.cs) = .tup [.nilsl, .int .i64 p, .int .i64 2] ∧ p < s.length) ∨
    ∃ us, toksGo f s at0 ts.length (ts.flatMap T4.cs) = .tup [.fsl ((us ++ [endT s]).map T4.v) none, .int .i64 (s.length : Nat), .int .i64 0] ∧ Told s s.length us
  | 0, at0, ts, h1, h2, _ => by omega
  | f + 1, at0, ts, h1, h2, h3 => by
    have hk := skipF_le (s.drop at0)
    have hdl : (s.drop at0).length = s.length - at0 := List.length_drop
    rw [toksGo]
    generalize hp : at0 + skipF (s.drop at0) = p
    split
    · rename_i he
      refine .inr ⟨ts, ?_, ⟨fun t ht => ?_, h3.rising⟩⟩
      · subst he
        have : ts.flatMap T4.cs ++ endTok s.length = (ts ++ [endT s]).flatMap T4.cs := by simp [endT, T4.cs, endTok]
        have hl : ts.length + 1 = (ts ++ [endT s]).length := by simp
        rw [this, hl, elems_T4]
      · obtain ⟨a1, a2, a3⟩ := h3.stands t ht
        exact ⟨a1, a2, by omega⟩
    · rename_i hne
      have hd2 : (s.drop p).length = s.length - p := List.length_drop
      obtain ⟨l1, l2⟩ := oneF_len (s := s.drop p) (by omega)
      obtain ⟨x1, x2, x3⟩ := oneF_text (s.drop p)
      split
      · rename_i hok
        have hpos := l2 hok
        have e : ts.flatMap T4.cs ++ (oneF (s.drop p)).cells (p : Nat) = (ts ++ [(⟨(oneF (s.drop p)).kind, (oneF (s.drop p)).n, p, (oneF (s.drop p)).text⟩ : T4)]).flatMap T4.cs := by simp [T4.cs, Tok.cells]
        have hl : ts.length + 1 = (ts ++ [(⟨(oneF (s.drop p)).kind, (oneF (s.drop p)).n, p, (oneF (s.drop p)).text⟩ : T4)]).length := by simp
        rw [e, hl]
        refine toks_places s f _ _ (by omega) (by omega) ⟨fun t ht => ?_, ?_⟩
        · rcases List.mem_append.1 ht with ht | ht
          · obtain ⟨a1, a2, a3⟩ := h3.stands t ht
            exact ⟨a1, a2, by omega⟩
          · rw [List.mem_singleton] at ht
            subst ht
            exact ⟨⟨by show p ≤ _; omega, by show (oneF (s.drop p)).text.length ≤ s.length - p; omega, x2⟩, x3, by show p < _; omega⟩
        · rw [List.pairwise_append]
          refine ⟨h3.rising, List.pairwise_singleton _ _, fun t ht u hu => ?_⟩
          rw [List.mem_singleton] at hu
          subst hu
          have := (h3.stands t ht).2.2
          show t.at0 < p
          omega
      · exact .inl ⟨p, rfl, by omega⟩

theorem hload_of {bs : List (Option (List V))} {k off : Nat} {l : List V} {v : V} (g : bget bs k = some l) (h : (l.drop off).head? = some v) : hload bs k off = some v := by
  unfold hload; rw [g]; exact h
def wasAt (ts : List T4) : Nat → Int
  | 0 => -1
  | i + 1 => (((ts[i]?).map T4.at0).getD 0 : Nat)
theorem wasAt_lt {ts : List T4} (hr : ts.Pairwise fun t u => t.at0 < u.at0) {i : Nat} {t : T4} (h : ts[i]? = some t) : wasAt ts i < t.at0 := by
  cases i with
  | zero => show (-1 : Int) < _; omega
  | succ i =>
    obtain ⟨hi, e⟩ := List.getElem?_eq_some_iff.1 h
    have h2 : i < ts.length := by omega
    have := List.pairwise_iff_getElem.1 hr i (i + 1) h2 hi (by omega)
    rw [e] at this
    show (((ts[i]?).map T4.at0).getD 0 : Nat) < (t.at0 : Int)
    rw [List.getElem?_eq_getElem h2]
    simp only [Option.map_some, Option.getD_some]
    omega
/-- all that the law looks for -/
structure Good (s : List Nat) (ts : List T4) : Prop where
  pos : 0 < ts.length
  rising : ts.Pairwise fun t u => t.at0 < u.at0
  stands : ∀ t ∈ ts, Stands s t
  last : ∀ i t, ts[i]? = some t → (t.k = 0 ↔ i + 1 = ts.length)
  endAt : ∀ t, ts[ts.length - 1]? = some t → t.at0 = s.length
theorem good_of {s : List Nat} {us : List T4} (h : Told s s.length us) : Good s (us ++ [endT s]) := by
  refine ⟨by simp, ?_, fun t ht => ?_, fun i t ht => ?_, fun t ht => ?_⟩
  · rw [List.pairwise_append]
    refine ⟨h.rising, List.pairwise_singleton _ _, fun t ht u hu => ?_⟩
    rw [List.mem_singleton] at hu
    subst hu
    exact (h.stands t ht).2.2
  · rcases List.mem_append.1 ht with ht | ht
    · exact (h.stands t ht).1
    · rw [List.mem_singleton] at ht; subst ht; exact ⟨Nat.le_refl _, Nat.zero_le _, rfl⟩
  · by_cases hi : i < us.length
    · rw [List.getElem?_append_left hi] at ht
      have := (h.stands t (List.mem_of_getElem? ht)).2.1
      constructor
      · exact fun h0 => absurd h0 this
      · intro h0; simp at h0; omega
    · have hi2 := (List.getElem?_eq_some_iff.1 ht).1
      simp only [List.length_append, List.length_singleton] at hi2
      have hii : i = us.length := by omega
      subst hii
      simp at ht
      subst ht
      simp [endT]
  · simp at ht
    subst ht
    rfl

theorem o_sneqR {s : List Nat} {h : Heap} : Does (.bin .neq (.v (.str s)) (.v (.str s))) h (.bool false) h := by refine ⟨?_⟩; rw [op1v]; simp [op1, ev, bin]
theorem o_binBX {neg a b c : Bool} {h : Heap} (e : ((a == b) != neg) = c) : Does (.binB neg (.v (.bool a)) (.v (.bool b))) h (.bool c) h := by subst e; exact o_binB
theorem o_b2sX {h : Heap} {s x : List Nat} {n m : Nat} (hs : Small s) (hx : (s.take m).drop n = x) : Does (.b2s (.v (.fsl (((s.take m).drop n).map fun (b : Nat) => V.int .u8 (b : Int)) none))) h (.str x) h := by
  subst hx; exact o_b2sB fun b hb => hs b (List.mem_of_mem_take (List.mem_of_mem_drop hb))

theorem lplaces_pu (s : List Nat) (hs : Small s) : PuF D1 7 [bV s] (.bool true) := by
  refine PuF.tidy rfl rfl rfl rfl rfl fun h hf => ?_
  unfold bV
  repeat' (first
      | refine W.seq ?_ | refine W.region ?_ | refine WS.nil ?_ | refine W.skip ?_ | refine W.block ?_ | refine W.ret ?_ | refine W.exit ?_ | refine W.yes rfl rfl ?_ | refine W.no rfl rfl ?_ | refine W.fork rfl (fun _ => ?_) (fun _ => ?_) | refine WS.guardT rfl ?_ | refine WS.guardF rfl rfl rfl ?_ | refine WS.guardK rfl (fun _ => ?_) (fun _ => ?_) | refine WS.near rfl o_mov rfl ?_ | refine WS.near rfl o_pickT rfl ?_ | refine WS.near rfl o_pickF rfl ?_ | refine WS.near rfl o_notT rfl ?_ | refine WS.near rfl o_lss rfl ?_ | refine WS.near rfl o_leq rfl ?_ | refine WS.near rfl o_gtr rfl ?_ | refine WS.near rfl o_geq rfl ?_ | refine WS.near rfl o_eql rfl ?_ | refine WS.near rfl o_neq rfl ?_ | refine WS.near rfl o_lenN rfl ?_ | refine WS.near rfl o_lenE rfl ?_ | refine WS.near rfl o_lenS rfl ?_ | refine WS.near rfl o_lenB rfl ?_ | refine WS.near rfl o_lenF rfl ?_ | refine WS.near rfl o_faddr rfl ?_
      | refine WS.near rfl o_lenB rfl ?_ | refine WS.near rfl o_loadF rfl ?_ | refine WS.near rfl (o_extract rfl) rfl ?_ | refine WS.near rfl (o_add (by omega) (by omega)) rfl ?_ | refine WS.near rfl (o_sub (by omega) (by omega)) rfl ?_ | refine WS.near rfl (o_faddrF (Nat.le_of_ble_eq_true rfl)) rfl ?_)
  refine WS.puF hf rfl rfl alive_pu ?_
  repeat' (first
      | refine W.seq ?_ | refine W.region ?_ | refine WS.nil ?_ | refine W.skip ?_ | refine W.block ?_ | refine W.ret ?_ | refine W.exit ?_ | refine W.yes rfl rfl ?_ | refine W.no rfl rfl ?_ | refine W.fork rfl (fun _ => ?_) (fun _ => ?_) | refine WS.guardT rfl ?_ | refine WS.guardF rfl rfl rfl ?_ | refine WS.guardK rfl (fun _ => ?_) (fun _ => ?_) | refine WS.near rfl o_mov rfl ?_ | refine WS.near rfl o_pickT rfl ?_ | refine WS.near rfl o_pickF rfl ?_ | refine WS.near rfl o_notT rfl ?_ | refine WS.near rfl o_lss rfl ?_ | refine WS.near rfl o_leq rfl ?_ | refine WS.near rfl o_gtr rfl ?_ | refine WS.near rfl o_geq rfl ?_ | refine WS.near rfl o_eql rfl ?_ | refine WS.near rfl o_neq rfl ?_ | refine WS.near rfl o_lenN rfl ?_ | refine WS.near rfl o_lenE rfl ?_ | refine WS.near rfl o_lenS rfl ?_ | refine WS.near rfl o_lenB rfl ?_ | refine WS.near rfl o_lenF rfl ?_ | refine WS.near rfl o_faddr rfl ?_
      | refine WS.near rfl o_lenB rfl ?_ | refine WS.near rfl o_loadF rfl ?_ | refine WS.near rfl (o_extract rfl) rfl ?_ | refine WS.near rfl (o_add (by omega) (by omega)) rfl ?_ | refine WS.near rfl (o_sub (by omega) (by omega)) rfl ?_ | refine WS.near rfl (o_faddrF (Nat.le_of_ble_eq_true rfl)) rfl ?_)
  · exact ⟨_, rfl, fin_bool rfl⟩
  have t1 := tokens_pu (bV s) s hs (by omega)
  rcases toks_places s (s.length + 1) 0 [] (by omega) (by omega) ⟨(fun t ht => by cases ht), List.Pairwise.nil⟩ with ⟨p, e, hlt⟩ | ⟨us, e, ht⟩
  · rw [show toksGo (s.length + 1) s 0 0 [] = _ from e] at t1
    refine WS.puC hf (Pre := fun g => Bytes g (bV s) s) (bytes_str hs) rfl rfl t1 ?_
    repeat' (first
        | refine W.seq ?_ | refine W.region ?_ | refine WS.nil ?_ | refine W.skip ?_ | refine W.block ?_ | refine W.ret ?_ | refine W.exit ?_ | refine W.yes rfl rfl ?_ | refine W.no rfl rfl ?_ | refine W.fork rfl (fun _ => ?_) (fun _ => ?_) | refine WS.guardT rfl ?_ | refine WS.guardF rfl rfl rfl ?_ | refine WS.guardK rfl (fun _ => ?_) (fun _ => ?_) | refine WS.near rfl o_mov rfl ?_ | refine WS.near rfl o_pickT rfl ?_ | refine WS.near rfl o_pickF rfl ?_ | refine WS.near rfl o_notT rfl ?_ | refine WS.near rfl o_lss rfl ?_ | refine WS.near rfl o_leq rfl ?_ | refine WS.near rfl o_gtr rfl ?_ | refine WS.near rfl o_geq rfl ?_ | refine WS.near rfl o_eql rfl ?_ | refine WS.near rfl o_neq rfl ?_ | refine WS.near rfl o_lenN rfl ?_ | refine WS.near rfl o_lenE rfl ?_ | refine WS.near rfl o_lenS rfl ?_ | refine WS.near rfl o_lenB rfl ?_ | refine WS.near rfl o_lenF rfl ?_ | refine WS.near rfl o_faddr rfl ?_
        | refine WS.near rfl o_lenB rfl ?_ | refine WS.near rfl o_loadF rfl ?_ | refine WS.near rfl (o_extract rfl) rfl ?_ | refine WS.near rfl (o_add (by omega) (by omega)) rfl ?_ | refine WS.near rfl (o_sub (by omega) (by omega)) rfl ?_ | refine WS.near rfl (o_faddrF (Nat.le_of_ble_eq_true rfl)) rfl ?_)
    refine WS.puF hf rfl rfl (num_pu _) ?_
    repeat' (first
        | refine W.seq ?_ | refine W.region ?_ | refine WS.nil ?_ | refine W.skip ?_ | refine W.block ?_ | refine W.ret ?_ | refine W.exit ?_ | refine W.yes rfl rfl ?_ | refine W.no rfl rfl ?_ | refine W.fork rfl (fun _ => ?_) (fun _ => ?_) | refine WS.guardT rfl ?_ | refine WS.guardF rfl rfl rfl ?_ | refine WS.guardK rfl (fun _ => ?_) (fun _ => ?_) | refine WS.near rfl o_mov rfl ?_ | refine WS.near rfl o_pickT rfl ?_ | refine WS.near rfl o_pickF rfl ?_ | refine WS.near rfl o_notT rfl ?_ | refine WS.near rfl o_lss rfl ?_ | refine WS.near rfl o_leq rfl ?_ | refine WS.near rfl o_gtr rfl ?_ | refine WS.near rfl o_geq rfl ?_ | refine WS.near rfl o_eql rfl ?_ | refine WS.near rfl o_neq rfl ?_ | refine WS.near rfl o_lenN rfl ?_ | refine WS.near rfl o_lenE rfl ?_ | refine WS.near rfl o_lenS rfl ?_ | refine WS.near rfl o_lenB rfl ?_ | refine WS.near rfl o_lenF rfl ?_ | refine WS.near rfl o_faddr rfl ?_
        | refine WS.near rfl o_lenB rfl ?_ | refine WS.near rfl o_loadF rfl ?_ | refine WS.near rfl (o_extract rfl) rfl ?_ | refine WS.near rfl (o_add (by omega) (by omega)) rfl ?_ | refine WS.near rfl (o_sub (by omega) (by omega)) rfl ?_ | refine WS.near rfl (o_faddrF (Nat.le_of_ble_eq_true rfl)) rfl ?_)
    · exact ⟨_, rfl, fin_bool rfl⟩
    · rename_i hbad; omega
  · have hg := good_of ht
    generalize us ++ [endT s] = ts at *
    obtain ⟨a, p', e', ht', hsl⟩ := toks_parts s (by omega) (s.length + 1) 0 0 [] (by omega) (by omega) (by omega) ⟨rfl, fun e he => by cases he⟩
    have hbound : ts.length < 2 ^ 60 := by
      have h2 := ht'.symm.trans e
      cases h2
      rcases hsl with h3 | ⟨es, h3, _, h4⟩
      · cases h3
      · cases h3
        simpa using h4
    rw [show toksGo (s.length + 1) s 0 0 [] = _ from e] at t1
    refine WS.puC hf (Pre := fun g => Bytes g (bV s) s) (bytes_str hs) rfl rfl t1 ?_
    repeat' (first
        | refine W.seq ?_ | refine W.region ?_ | refine WS.nil ?_ | refine W.skip ?_ | refine W.block ?_ | refine W.ret ?_ | refine W.exit ?_ | refine W.yes rfl rfl ?_ | refine W.no rfl rfl ?_ | refine W.fork rfl (fun _ => ?_) (fun _ => ?_) | refine WS.guardT rfl ?_ | refine WS.guardF rfl rfl rfl ?_ | refine WS.guardK rfl (fun _ => ?_) (fun _ => ?_) | refine WS.near rfl o_mov rfl ?_ | refine WS.near rfl o_pickT rfl ?_ | refine WS.near rfl o_pickF rfl ?_ | refine WS.near rfl o_notT rfl ?_ | refine WS.near rfl o_lss rfl ?_ | refine WS.near rfl o_leq rfl ?_ | refine WS.near rfl o_gtr rfl ?_ | refine WS.near rfl o_geq rfl ?_ | refine WS.near rfl o_eql rfl ?_ | refine WS.near rfl o_neq rfl ?_ | refine WS.near rfl o_lenN rfl ?_ | refine WS.near rfl o_lenE rfl ?_ | refine WS.near rfl o_lenS rfl ?_ | refine WS.near rfl o_lenB rfl ?_ | refine WS.near rfl o_lenF rfl ?_ | refine WS.near rfl o_faddr rfl ?_
        | refine WS.near rfl o_lenB rfl ?_ | refine WS.near rfl o_loadF rfl ?_ | refine WS.near rfl (o_extract rfl) rfl ?_ | refine WS.near rfl (o_add (by omega) (by omega)) rfl ?_ | refine WS.near rfl (o_sub (by omega) (by omega)) rfl ?_ | refine WS.near rfl (o_faddrF (Nat.le_of_ble_eq_true rfl)) rfl ?_)
    refine WS.puF hf rfl rfl (num_pu _) ?_
    repeat' (first
        | refine W.seq ?_ | refine W.region ?_ | refine WS.nil ?_ | refine W.skip ?_ | refine W.block ?_ | refine W.ret ?_ | refine W.exit ?_ | refine W.yes rfl rfl ?_ | refine W.no rfl rfl ?_ | refine W.fork rfl (fun _ => ?_) (fun _ => ?_) | refine WS.guardT rfl ?_ | refine WS.guardF rfl rfl rfl ?_ | refine WS.guardK rfl (fun _ => ?_) (fun _ => ?_) | refine WS.near rfl o_mov rfl ?_ | refine WS.near rfl o_pickT rfl ?_ | refine WS.near rfl o_pickF rfl ?_ | refine WS.near rfl o_notT rfl ?_ | refine WS.near rfl o_lss rfl ?_ | refine WS.near rfl o_leq rfl ?_ | refine WS.near rfl o_gtr rfl ?_ | refine WS.near rfl o_geq rfl ?_ | refine WS.near rfl o_eql rfl ?_ | refine WS.near rfl o_neq rfl ?_ | refine WS.near rfl o_lenN rfl ?_ | refine WS.near rfl o_lenE rfl ?_ | refine WS.near rfl o_lenS rfl ?_ | refine WS.near rfl o_lenB rfl ?_ | refine WS.near rfl o_lenF rfl ?_ | refine WS.near rfl o_faddr rfl ?_
        | refine WS.near rfl o_lenB rfl ?_ | refine WS.near rfl o_loadF rfl ?_ | refine WS.near rfl (o_extract rfl) rfl ?_ | refine WS.near rfl (o_add (by omega) (by omega)) rfl ?_ | refine WS.near rfl (o_sub (by omega) (by omega)) rfl ?_ | refine WS.near rfl (o_faddrF (Nat.le_of_ble_eq_true rfl)) rfl ?_)
    have hlen : (ts.map T4.v).length = ts.length := List.length_map ..
    refine W.loop (fun a : Nat × List (Option (List V)) => [(0, bV s), (3, .fsl (ts.map T4.v) none), (4, .int .i64 (s.length : Nat)), (6, .int .i64 (wasAt ts a.1)), (7, .int .i64 a.1)]) (fun a => hp h a.2) (fun a => a.1 ≤ ts.length) (fun a => ts.length - a.1) (0, []) (by show 0 ≤ ts.length; omega) ⟨rfl, rfl, rfl, rfl, rfl, trivial⟩ rfl ?_
    rintro ⟨i, bs⟩ hi
    simp only at hi ⊢
    unfold bV
    repeat' (first
        | refine W.seq ?_ | refine W.region ?_ | refine WS.nil ?_ | refine W.skip ?_ | refine W.block ?_ | refine W.ret ?_ | refine W.exit ?_ | refine W.yes rfl rfl ?_ | refine W.no rfl rfl ?_ | refine W.fork rfl (fun _ => ?_) (fun _ => ?_) | refine WS.guardT rfl ?_ | refine WS.guardF rfl rfl rfl ?_ | refine WS.guardK rfl (fun _ => ?_) (fun _ => ?_) | refine WS.near rfl o_mov rfl ?_ | refine WS.near rfl o_pickT rfl ?_ | refine WS.near rfl o_pickF rfl ?_ | refine WS.near rfl o_notT rfl ?_ | refine WS.near rfl o_lss rfl ?_ | refine WS.near rfl o_leq rfl ?_ | refine WS.near rfl o_gtr rfl ?_ | refine WS.near rfl o_geq rfl ?_ | refine WS.near rfl o_eql rfl ?_ | refine WS.near rfl o_neq rfl ?_ | refine WS.near rfl o_lenN rfl ?_ | refine WS.near rfl o_lenE rfl ?_ | refine WS.near rfl o_lenS rfl ?_ | refine WS.near rfl o_lenB rfl ?_ | refine WS.near rfl o_lenF rfl ?_ | refine WS.near rfl o_faddr rfl ?_
        | refine WS.near rfl o_lenB rfl ?_ | refine WS.near rfl o_loadF rfl ?_ | refine WS.near rfl (o_extract rfl) rfl ?_ | refine WS.near rfl (o_add (by omega) (by omega)) rfl ?_ | refine WS.near rfl (o_sub (by omega) (by omega)) rfl ?_ | refine WS.near rfl (o_faddrF (Nat.le_of_ble_eq_true rfl)) rfl ?_)
    · rename_i hlt
      rw [hlen] at hlt
      have hi' : i < ts.length := by omega
      have ht1 : ts[i]? = some ts[i] := List.getElem?_eq_getElem hi'
      have hw := wasAt_lt hg.rising ht1
      have hst := hg.stands ts[i] (List.getElem_mem hi')
      have hla := hg.last i ts[i] ht1
      have hnext : wasAt ts (i + 1) = (ts[i].at0 : Nat) := by show (((ts[i]?).map T4.at0).getD 0 : Nat) = (ts[i].at0 : Int); rw [ht1]; rfl
      have hget : (ts.map T4.v)[i]? = some ts[i].v := by rw [List.getElem?_map, ht1]; rfl
      generalize ts[i] = t at *
      obtain ⟨tk, tn, ta, tx⟩ := t
      obtain ⟨s1, s2, s3⟩ := hst
      simp only at s1 s2 s3 hw hla hnext
      have hx : (s.take (ta + tx.length)).drop ta = tx := by rw [take_drop_at (by omega)]; exact s3
      have hb : ((decide (tk = 0) == decide ((i : Int) = (((ts.map T4.v).length : Nat) : Int) - 1)) != true) = false := by
        have : (tk = 0) ↔ ((i : Int) = (((ts.map T4.v).length : Nat) : Int) - 1) := by rw [hlen, hla]; omega
        simp [this]
      refine WS.near rfl (o_iaddrT (a := tk) (b := tn) (c := ta) (x := tx) i rfl hget) rfl ?_
      refine WS.near rfl o_load4 rfl ?_
      refine WS.near rfl o_allocS rfl ?_
      refine WS.near rfl (o_storeH hf bget_badd rfl) rfl ?_
      have g1 := bget_bput (off := 0) (n := 4) (cs := [.int .i64 tk, .int .i64 tn, .int .i64 ta, .str tx]) (bget_badd (bs := bs) (c := zeroTok))
      repeat' (first
          | refine WS.near rfl (o_loadH (hload_of g1 rfl)) rfl ?_ | refine WS.near rfl (o_sliceB ta (ta + tx.length) rfl rfl (by omega) (by omega)) rfl ?_ | refine WS.near rfl (o_b2sX hs hx) rfl ?_ | refine WS.near rfl o_sneqR rfl ?_ | refine WS.near rfl (o_binBX hb) rfl ?_ | refine W.seq ?_ | refine W.region ?_ | refine WS.nil ?_ | refine W.skip ?_ | refine W.block ?_ | refine W.ret ?_ | refine W.exit ?_ | refine W.yes rfl rfl ?_ | refine W.no rfl rfl ?_ | refine W.fork rfl (fun _ => ?_) (fun _ => ?_) | refine WS.guardT rfl ?_ | refine WS.guardF rfl rfl rfl ?_ | refine WS.guardK rfl (fun _ => ?_) (fun _ => ?_) | refine WS.near rfl o_mov rfl ?_ | refine WS.near rfl o_pickT rfl ?_ | refine WS.near rfl o_pickF rfl ?_ | refine WS.near rfl o_notT rfl ?_ | refine WS.near rfl o_lss rfl ?_ | refine WS.near rfl o_leq rfl ?_ | refine WS.near rfl o_gtr rfl ?_ | refine WS.near rfl o_geq rfl ?_
          | refine WS.near rfl o_eql rfl ?_ | refine WS.near rfl o_neq rfl ?_ | refine WS.near rfl o_lenN rfl ?_ | refine WS.near rfl o_lenE rfl ?_ | refine WS.near rfl o_lenS rfl ?_ | refine WS.near rfl o_lenB rfl ?_ | refine WS.near rfl o_lenF rfl ?_ | refine WS.near rfl o_faddr rfl ?_ | refine WS.near rfl o_lenB rfl ?_ | refine WS.near rfl o_loadF rfl ?_ | refine WS.near rfl (o_extract rfl) rfl ?_ | refine WS.near rfl (o_add (by omega) (by omega)) rfl ?_ | refine WS.near rfl (o_sub (by omega) (by omega)) rfl ?_ | refine WS.near rfl (o_faddrF (Nat.le_of_ble_eq_true rfl)) rfl ?_)
      all_goals first
        | (exfalso; omega)
        | exact ⟨(i + 1, _), (by show i + 1 ≤ ts.length; omega), (by show ts.length - (i + 1) < ts.length - i; omega), ⟨rfl, rfl, rfl, congrArg (fun z => some (V.int .i64 z)) hnext.symm, rfl, trivial⟩, rfl⟩
    · have hpos := hg.pos
      have hlast : ts[ts.length - 1]? = some ts[ts.length - 1] := List.getElem?_eq_getElem (by omega)
      have hend := hg.endAt _ hlast
      have hget : (ts.map T4.v)[ts.length - 1]? = some ts[ts.length - 1].v := by rw [List.getElem?_map, hlast]; rfl
      generalize ts[ts.length - 1] = t at *
      obtain ⟨tk, tn, ta, tx⟩ := t
      simp only at hend
      refine WS.near rfl (o_iaddrT (a := tk) (b := tn) (c := ta) (x := tx) (ts.length - 1) (by rw [hlen]; omega) hget) rfl ?_
      repeat' (first
          | refine W.seq ?_ | refine W.region ?_ | refine WS.nil ?_ | refine W.skip ?_ | refine W.block ?_ | refine W.ret ?_ | refine W.exit ?_ | refine W.yes rfl rfl ?_ | refine W.no rfl rfl ?_ | refine W.fork rfl (fun _ => ?_) (fun _ => ?_) | refine WS.guardT rfl ?_ | refine WS.guardF rfl rfl rfl ?_ | refine WS.guardK rfl (fun _ => ?_) (fun _ => ?_) | refine WS.near rfl o_mov rfl ?_ | refine WS.near rfl o_pickT rfl ?_ | refine WS.near rfl o_pickF rfl ?_ | refine WS.near rfl o_notT rfl ?_ | refine WS.near rfl o_lss rfl ?_ | refine WS.near rfl o_leq rfl ?_ | refine WS.near rfl o_gtr rfl ?_ | refine WS.near rfl o_geq rfl ?_ | refine WS.near rfl o_eql rfl ?_ | refine WS.near rfl o_neq rfl ?_ | refine WS.near rfl o_lenN rfl ?_ | refine WS.near rfl o_lenE rfl ?_ | refine WS.near rfl o_lenS rfl ?_ | refine WS.near rfl o_lenB rfl ?_ | refine WS.near rfl o_lenF rfl ?_ | refine WS.near rfl o_faddr rfl ?_
          | refine WS.near rfl o_lenB rfl ?_ | refine WS.near rfl o_loadF rfl ?_ | refine WS.near rfl (o_extract rfl) rfl ?_ | refine WS.near rfl (o_add (by omega) (by omega)) rfl ?_ | refine WS.near rfl (o_sub (by omega) (by omega)) rfl ?_ | refine WS.near rfl (o_faddrF (Nat.le_of_ble_eq_true rfl)) rfl ?_)
      exact ⟨_, rfl, fin_bool (yes_dec (by rw [hend]))⟩
    · rename_i hbad; rw [hlen] at hbad; have := hg.pos; exact absurd this (by omega)
    · rename_i hbad; exact absurd rfl hbad

theorem bytes_esl {h : Heap} : Bytes h .esl [] := ⟨rfl, rfl, (fun _ h => by cases h), .inr (.inl rfl)⟩
theorem o_sliceN {h : Heap} {k k' : IntKind} {a b : Int} (ha : a = 0) (hb : b = 0) : Does (.slice 1 (.v .nilsl) (some (.v (.int k a))) (some (.v (.int k' b))) none) h .nilsl h := by subst ha hb; exact ⟨by rw [op1v]; rfl⟩
theorem o_sliceE {h : Heap} {k k' : IntKind} {a b : Int} (ha : a = 0) (hb : b = 0) : Does (.slice 1 (.v .esl) (some (.v (.int k a))) (some (.v (.int k' b))) none) h .esl h := by subst ha hb; exact ⟨by rw [op1v]; rfl⟩
theorem o_b2sN {h : Heap} : Does (.b2s (.v .nilsl)) h (.str []) h := ⟨rfl⟩
theorem o_b2sE {h : Heap} : Does (.b2s (.v .esl)) h (.str []) h := ⟨rfl⟩
theorem lplaces_nil (s : List Nat) (hz : s = []) : PuF D1 7 [.nilsl] (.bool true) := by
  have hs : Small s := by subst hz; exact fun b hb => by cases hb
  have hz0 : s.length = 0 := by subst hz; rfl
  refine PuF.tidy rfl rfl rfl rfl rfl fun h hf => ?_
  repeat' (first
      | refine W.seq ?_ | refine W.region ?_ | refine WS.nil ?_ | refine W.skip ?_ | refine W.block ?_ | refine W.ret ?_ | refine W.exit ?_ | refine W.yes rfl rfl ?_ | refine W.no rfl rfl ?_ | refine W.fork rfl (fun _ => ?_) (fun _ => ?_) | refine WS.guardT rfl ?_ | refine WS.guardF rfl rfl rfl ?_ | refine WS.guardK rfl (fun _ => ?_) (fun _ => ?_) | refine WS.near rfl o_mov rfl ?_ | refine WS.near rfl o_pickT rfl ?_ | refine WS.near rfl o_pickF rfl ?_ | refine WS.near rfl o_notT rfl ?_ | refine WS.near rfl o_lss rfl ?_ | refine WS.near rfl o_leq rfl ?_ | refine WS.near rfl o_gtr rfl ?_ | refine WS.near rfl o_geq rfl ?_ | refine WS.near rfl o_eql rfl ?_ | refine WS.near rfl o_neq rfl ?_ | refine WS.near rfl o_lenN rfl ?_ | refine WS.near rfl o_lenE rfl ?_ | refine WS.near rfl o_lenS rfl ?_ | refine WS.near rfl o_lenB rfl ?_ | refine WS.near rfl o_lenF rfl ?_ | refine WS.near rfl o_faddr rfl ?_
      | refine WS.near rfl o_lenB rfl ?_ | refine WS.near rfl o_loadF rfl ?_ | refine WS.near rfl (o_extract rfl) rfl ?_ | refine WS.near rfl (o_add (by omega) (by omega)) rfl ?_ | refine WS.near rfl (o_sub (by omega) (by omega)) rfl ?_ | refine WS.near rfl (o_faddrF (Nat.le_of_ble_eq_true rfl)) rfl ?_)
  refine WS.puF hf rfl rfl alive_pu ?_
  repeat' (first
      | refine W.seq ?_ | refine W.region ?_ | refine WS.nil ?_ | refine W.skip ?_ | refine W.block ?_ | refine W.ret ?_ | refine W.exit ?_ | refine W.yes rfl rfl ?_ | refine W.no rfl rfl ?_ | refine W.fork rfl (fun _ => ?_) (fun _ => ?_) | refine WS.guardT rfl ?_ | refine WS.guardF rfl rfl rfl ?_ | refine WS.guardK rfl (fun _ => ?_) (fun _ => ?_) | refine WS.near rfl o_mov rfl ?_ | refine WS.near rfl o_pickT rfl ?_ | refine WS.near rfl o_pickF rfl ?_ | refine WS.near rfl o_notT rfl ?_ | refine WS.near rfl o_lss rfl ?_ | refine WS.near rfl o_leq rfl ?_ | refine WS.near rfl o_gtr rfl ?_ | refine WS.near rfl o_geq rfl ?_ | refine WS.near rfl o_eql rfl ?_ | refine WS.near rfl o_neq rfl ?_ | refine WS.near rfl o_lenN rfl ?_ | refine WS.near rfl o_lenE rfl ?_ | refine WS.near rfl o_lenS rfl ?_ | refine WS.near rfl o_lenB rfl ?_ | refine WS.near rfl o_lenF rfl ?_ | refine WS.near rfl o_faddr rfl ?_
      | refine WS.near rfl o_lenB rfl ?_ | refine WS.near rfl o_loadF rfl ?_ | refine WS.near rfl (o_extract rfl) rfl ?_ | refine WS.near rfl (o_add (by omega) (by omega)) rfl ?_ | refine WS.near rfl (o_sub (by omega) (by omega)) rfl ?_ | refine WS.near rfl (o_faddrF (Nat.le_of_ble_eq_true rfl)) rfl ?_)
  have t1 := tokens_pu .nilsl s hs (by omega)
  rcases toks_places s (s.length + 1) 0 [] (by omega) (by omega) ⟨(fun t ht => by cases ht), List.Pairwise.nil⟩ with ⟨p, e, hlt⟩ | ⟨us, e, ht⟩
  · omega
  · have hg := good_of ht
    generalize us ++ [endT s] = ts at *
    obtain ⟨a, p', e', ht', hsl⟩ := toks_parts s (by omega) (s.length + 1) 0 0 [] (by omega) (by omega) (by omega) ⟨rfl, fun e he => by cases he⟩
    have hbound : ts.length < 2 ^ 60 := by
      have h2 := ht'.symm.trans e
      cases h2
      rcases hsl with h3 | ⟨es, h3, _, h4⟩
      · cases h3
      · cases h3
        simpa using h4
    rw [show toksGo (s.length + 1) s 0 0 [] = _ from e] at t1
    refine WS.puC hf (Pre := fun g => Bytes g .nilsl s) (by subst hz; exact bytes_nil) rfl rfl t1 ?_
    repeat' (first
        | refine W.seq ?_ | refine W.region ?_ | refine WS.nil ?_ | refine W.skip ?_ | refine W.block ?_ | refine W.ret ?_ | refine W.exit ?_ | refine W.yes rfl rfl ?_ | refine W.no rfl rfl ?_ | refine W.fork rfl (fun _ => ?_) (fun _ => ?_) | refine WS.guardT rfl ?_ | refine WS.guardF rfl rfl rfl ?_ | refine WS.guardK rfl (fun _ => ?_) (fun _ => ?_) | refine WS.near rfl o_mov rfl ?_ | refine WS.near rfl o_pickT rfl ?_ | refine WS.near rfl o_pickF rfl ?_ | refine WS.near rfl o_notT rfl ?_ | refine WS.near rfl o_lss rfl ?_ | refine WS.near rfl o_leq rfl ?_ | refine WS.near rfl o_gtr rfl ?_ | refine WS.near rfl o_geq rfl ?_ | refine WS.near rfl o_eql rfl ?_ | refine WS.near rfl o_neq rfl ?_ | refine WS.near rfl o_lenN rfl ?_ | refine WS.near rfl o_lenE rfl ?_ | refine WS.near rfl o_lenS rfl ?_ | refine WS.near rfl o_lenB rfl ?_ | refine WS.near rfl o_lenF rfl ?_ | refine WS.near rfl o_faddr rfl ?_
        | refine WS.near rfl o_lenB rfl ?_ | refine WS.near rfl o_loadF rfl ?_ | refine WS.near rfl (o_extract rfl) rfl ?_ | refine WS.near rfl (o_add (by omega) (by omega)) rfl ?_ | refine WS.near rfl (o_sub (by omega) (by omega)) rfl ?_ | refine WS.near rfl (o_faddrF (Nat.le_of_ble_eq_true rfl)) rfl ?_)
    refine WS.puF hf rfl rfl (num_pu _) ?_
    repeat' (first
        | refine W.seq ?_ | refine W.region ?_ | refine WS.nil ?_ | refine W.skip ?_ | refine W.block ?_ | refine W.ret ?_ | refine W.exit ?_ | refine W.yes rfl rfl ?_ | refine W.no rfl rfl ?_ | refine W.fork rfl (fun _ => ?_) (fun _ => ?_) | refine WS.guardT rfl ?_ | refine WS.guardF rfl rfl rfl ?_ | refine WS.guardK rfl (fun _ => ?_) (fun _ => ?_) | refine WS.near rfl o_mov rfl ?_ | refine WS.near rfl o_pickT rfl ?_ | refine WS.near rfl o_pickF rfl ?_ | refine WS.near rfl o_notT rfl ?_ | refine WS.near rfl o_lss rfl ?_ | refine WS.near rfl o_leq rfl ?_ | refine WS.near rfl o_gtr rfl ?_ | refine WS.near rfl o_geq rfl ?_ | refine WS.near rfl o_eql rfl ?_ | refine WS.near rfl o_neq rfl ?_ | refine WS.near rfl o_lenN rfl ?_ | refine WS.near rfl o_lenE rfl ?_ | refine WS.near rfl o_lenS rfl ?_ | refine WS.near rfl o_lenB rfl ?_ | refine WS.near rfl o_lenF rfl ?_ | refine WS.near rfl o_faddr rfl ?_
        | refine WS.near rfl o_lenB rfl ?_ | refine WS.near rfl o_loadF rfl ?_ | refine WS.near rfl (o_extract rfl) rfl ?_ | refine WS.near rfl (o_add (by omega) (by omega)) rfl ?_ | refine WS.near rfl (o_sub (by omega) (by omega)) rfl ?_ | refine WS.near rfl (o_faddrF (Nat.le_of_ble_eq_true rfl)) rfl ?_)
    have hlen : (ts.map T4.v).length = ts.length := List.length_map ..
    refine W.loop (fun a : Nat × List (Option (List V)) => [(0, .nilsl), (3, .fsl (ts.map T4.v) none), (4, .int .i64 (s.length : Nat)), (6, .int .i64 (wasAt ts a.1)), (7, .int .i64 a.1)]) (fun a => hp h a.2) (fun a => a.1 ≤ ts.length) (fun a => ts.length - a.1) (0, []) (by show 0 ≤ ts.length; omega) ⟨rfl, rfl, rfl, rfl, rfl, trivial⟩ rfl ?_
    rintro ⟨i, bs⟩ hi
    simp only at hi ⊢
    repeat' (first
        | refine W.seq ?_ | refine W.region ?_ | refine WS.nil ?_ | refine W.skip ?_ | refine W.block ?_ | refine W.ret ?_ | refine W.exit ?_ | refine W.yes rfl rfl ?_ | refine W.no rfl rfl ?_ | refine W.fork rfl (fun _ => ?_) (fun _ => ?_) | refine WS.guardT rfl ?_ | refine WS.guardF rfl rfl rfl ?_ | refine WS.guardK rfl (fun _ => ?_) (fun _ => ?_) | refine WS.near rfl o_mov rfl ?_ | refine WS.near rfl o_pickT rfl ?_ | refine WS.near rfl o_pickF rfl ?_ | refine WS.near rfl o_notT rfl ?_ | refine WS.near rfl o_lss rfl ?_ | refine WS.near rfl o_leq rfl ?_ | refine WS.near rfl o_gtr rfl ?_ | refine WS.near rfl o_geq rfl ?_ | refine WS.near rfl o_eql rfl ?_ | refine WS.near rfl o_neq rfl ?_ | refine WS.near rfl o_lenN rfl ?_ | refine WS.near rfl o_lenE rfl ?_ | refine WS.near rfl o_lenS rfl ?_ | refine WS.near rfl o_lenB rfl ?_ | refine WS.near rfl o_lenF rfl ?_ | refine WS.near rfl o_faddr rfl ?_
        | refine WS.near rfl o_lenB rfl ?_ | refine WS.near rfl o_loadF rfl ?_ | refine WS.near rfl (o_extract rfl) rfl ?_ | refine WS.near rfl (o_add (by omega) (by omega)) rfl ?_ | refine WS.near rfl (o_sub (by omega) (by omega)) rfl ?_ | refine WS.near rfl (o_faddrF (Nat.le_of_ble_eq_true rfl)) rfl ?_)
    · rename_i hlt
      rw [hlen] at hlt
      have hi' : i < ts.length := by omega
      have ht1 : ts[i]? = some ts[i] := List.getElem?_eq_getElem hi'
      have hw := wasAt_lt hg.rising ht1
      have hst := hg.stands ts[i] (List.getElem_mem hi')
      have hla := hg.last i ts[i] ht1
      have hnext : wasAt ts (i + 1) = (ts[i].at0 : Nat) := by show (((ts[i]?).map T4.at0).getD 0 : Nat) = (ts[i].at0 : Int); rw [ht1]; rfl
      have hget : (ts.map T4.v)[i]? = some ts[i].v := by rw [List.getElem?_map, ht1]; rfl
      generalize ts[i] = t at *
      obtain ⟨tk, tn, ta, tx⟩ := t
      obtain ⟨s1, s2, s3⟩ := hst
      simp only at s1 s2 s3 hw hla hnext
      obtain rfl : tx = [] := List.length_eq_zero_iff.1 (by omega)
      have hb : ((decide (tk = 0) == decide ((i : Int) = (((ts.map T4.v).length : Nat) : Int) - 1)) != true) = false := by
        have : (tk = 0) ↔ ((i : Int) = (((ts.map T4.v).length : Nat) : Int) - 1) := by rw [hlen, hla]; omega
        simp [this]
      refine WS.near rfl (o_iaddrT (a := tk) (b := tn) (c := ta) (x := []) i rfl hget) rfl ?_
      refine WS.near rfl o_load4 rfl ?_
      refine WS.near rfl o_allocS rfl ?_
      refine WS.near rfl (o_storeH hf bget_badd rfl) rfl ?_
      have g1 := bget_bput (off := 0) (n := 4) (cs := [.int .i64 tk, .int .i64 tn, .int .i64 ta, .str []]) (bget_badd (bs := bs) (c := zeroTok))
      repeat' (first
          | refine WS.near rfl (o_loadH (hload_of g1 rfl)) rfl ?_ | refine WS.near rfl (o_sliceN (by omega) (by omega)) rfl ?_ | refine WS.near rfl o_b2sN rfl ?_ | refine WS.near rfl o_sneqR rfl ?_ | refine WS.near rfl (o_binBX hb) rfl ?_ | refine W.seq ?_ | refine W.region ?_ | refine WS.nil ?_ | refine W.skip ?_ | refine W.block ?_ | refine W.ret ?_ | refine W.exit ?_ | refine W.yes rfl rfl ?_ | refine W.no rfl rfl ?_ | refine W.fork rfl (fun _ => ?_) (fun _ => ?_) | refine WS.guardT rfl ?_ | refine WS.guardF rfl rfl rfl ?_ | refine WS.guardK rfl (fun _ => ?_) (fun _ => ?_) | refine WS.near rfl o_mov rfl ?_ | refine WS.near rfl o_pickT rfl ?_ | refine WS.near rfl o_pickF rfl ?_ | refine WS.near rfl o_notT rfl ?_ | refine WS.near rfl o_lss rfl ?_ | refine WS.near rfl o_leq rfl ?_ | refine WS.near rfl o_gtr rfl ?_ | refine WS.near rfl o_geq rfl ?_ | refine WS.near rfl o_eql rfl ?_
          | refine WS.near rfl o_neq rfl ?_ | refine WS.near rfl o_lenN rfl ?_ | refine WS.near rfl o_lenE rfl ?_ | refine WS.near rfl o_lenS rfl ?_ | refine WS.near rfl o_lenB rfl ?_ | refine WS.near rfl o_lenF rfl ?_ | refine WS.near rfl o_faddr rfl ?_ | refine WS.near rfl o_lenB rfl ?_ | refine WS.near rfl o_loadF rfl ?_ | refine WS.near rfl (o_extract rfl) rfl ?_ | refine WS.near rfl (o_add (by omega) (by omega)) rfl ?_ | refine WS.near rfl (o_sub (by omega) (by omega)) rfl ?_ | refine WS.near rfl (o_faddrF (Nat.le_of_ble_eq_true rfl)) rfl ?_)
      all_goals first
        | (exfalso; omega)
        | exact ⟨(i + 1, _), (by show i + 1 ≤ ts.length; omega), (by show ts.length - (i + 1) < ts.length - i; omega), ⟨rfl, rfl, rfl, congrArg (fun z => some (V.int .i64 z)) hnext.symm, rfl, trivial⟩, rfl⟩
    · have hpos := hg.pos
      have hlast : ts[ts.length - 1]? = some ts[ts.length - 1] := List.getElem?_eq_getElem (by omega)
      have hend := hg.endAt _ hlast
      have hget : (ts.map T4.v)[ts.length - 1]? = some ts[ts.length - 1].v := by rw [List.getElem?_map, hlast]; rfl
      generalize ts[ts.length - 1] = t at *
      obtain ⟨tk, tn, ta, tx⟩ := t
      simp only at hend
      refine WS.near rfl (o_iaddrT (a := tk) (b := tn) (c := ta) (x := tx) (ts.length - 1) (by rw [hlen]; omega) hget) rfl ?_
      repeat' (first
          | refine W.seq ?_ | refine W.region ?_ | refine WS.nil ?_ | refine W.skip ?_ | refine W.block ?_ | refine W.ret ?_ | refine W.exit ?_ | refine W.yes rfl rfl ?_ | refine W.no rfl rfl ?_ | refine W.fork rfl (fun _ => ?_) (fun _ => ?_) | refine WS.guardT rfl ?_ | refine WS.guardF rfl rfl rfl ?_ | refine WS.guardK rfl (fun _ => ?_) (fun _ => ?_) | refine WS.near rfl o_mov rfl ?_ | refine WS.near rfl o_pickT rfl ?_ | refine WS.near rfl o_pickF rfl ?_ | refine WS.near rfl o_notT rfl ?_ | refine WS.near rfl o_lss rfl ?_ | refine WS.near rfl o_leq rfl ?_ | refine WS.near rfl o_gtr rfl ?_ | refine WS.near rfl o_geq rfl ?_ | refine WS.near rfl o_eql rfl ?_ | refine WS.near rfl o_neq rfl ?_ | refine WS.near rfl o_lenN rfl ?_ | refine WS.near rfl o_lenE rfl ?_ | refine WS.near rfl o_lenS rfl ?_ | refine WS.near rfl o_lenB rfl ?_ | refine WS.near rfl o_lenF rfl ?_ | refine WS.near rfl o_faddr rfl ?_
          | refine WS.near rfl o_lenB rfl ?_ | refine WS.near rfl o_loadF rfl ?_ | refine WS.near rfl (o_extract rfl) rfl ?_ | refine WS.near rfl (o_add (by omega) (by omega)) rfl ?_ | refine WS.near rfl (o_sub (by omega) (by omega)) rfl ?_ | refine WS.near rfl (o_faddrF (Nat.le_of_ble_eq_true rfl)) rfl ?_)
      exact ⟨_, rfl, fin_bool (yes_dec (by omega))⟩
    · rename_i hbad; rw [hlen] at hbad; have := hg.pos; exact absurd this (by omega)
    · rename_i hbad; exact absurd (by omega) hbad

theorem lplaces_esl (s : List Nat) (hz : s = []) : PuF D1 7 [.esl] (.bool true) := by
  have hs : Small s := by subst hz; exact fun b hb => by cases hb
  have hz0 : s.length = 0 := by subst hz; rfl
  refine PuF.tidy rfl rfl rfl rfl rfl fun h hf => ?_
  repeat' (first
      | refine W.seq ?_ | refine W.region ?_ | refine WS.nil ?_ | refine W.skip ?_ | refine W.block ?_ | refine W.ret ?_ | refine W.exit ?_ | refine W.yes rfl rfl ?_ | refine W.no rfl rfl ?_ | refine W.fork rfl (fun _ => ?_) (fun _ => ?_) | refine WS.guardT rfl ?_ | refine WS.guardF rfl rfl rfl ?_ | refine WS.guardK rfl (fun _ => ?_) (fun _ => ?_) | refine WS.near rfl o_mov rfl ?_ | refine WS.near rfl o_pickT rfl ?_ | refine WS.near rfl o_pickF rfl ?_ | refine WS.near rfl o_notT rfl ?_ | refine WS.near rfl o_lss rfl ?_ | refine WS.near rfl o_leq rfl ?_ | refine WS.near rfl o_gtr rfl ?_ | refine WS.near rfl o_geq rfl ?_ | refine WS.near rfl o_eql rfl ?_ | refine WS.near rfl o_neq rfl ?_ | refine WS.near rfl o_lenN rfl ?_ | refine WS.near rfl o_lenE rfl ?_ | refine WS.near rfl o_lenS rfl ?_ | refine WS.near rfl o_lenB rfl ?_ | refine WS.near rfl o_lenF rfl ?_ | refine WS.near rfl o_faddr rfl ?_
      | refine WS.near rfl o_lenB rfl ?_ | refine WS.near rfl o_loadF rfl ?_ | refine WS.near rfl (o_extract rfl) rfl ?_ | refine WS.near rfl (o_add (by omega) (by omega)) rfl ?_ | refine WS.near rfl (o_sub (by omega) (by omega)) rfl ?_ | refine WS.near rfl (o_faddrF (Nat.le_of_ble_eq_true rfl)) rfl ?_)
  refine WS.puF hf rfl rfl alive_pu ?_
  repeat' (first
      | refine W.seq ?_ | refine W.region ?_ | refine WS.nil ?_ | refine W.skip ?_ | refine W.block ?_ | refine W.ret ?_ | refine W.exit ?_ | refine W.yes rfl rfl ?_ | refine W.no rfl rfl ?_ | refine W.fork rfl (fun _ => ?_) (fun _ => ?_) | refine WS.guardT rfl ?_ | refine WS.guardF rfl rfl rfl ?_ | refine WS.guardK rfl (fun _ => ?_) (fun _ => ?_) | refine WS.near rfl o_mov rfl ?_ | refine WS.near rfl o_pickT rfl ?_ | refine WS.near rfl o_pickF rfl ?_ | refine WS.near rfl o_notT rfl ?_ | refine WS.near rfl o_lss rfl ?_ | refine WS.near rfl o_leq rfl ?_ | refine WS.near rfl o_gtr rfl ?_ | refine WS.near rfl o_geq rfl ?_ | refine WS.near rfl o_eql rfl ?_ | refine WS.near rfl o_neq rfl ?_ | refine WS.near rfl o_lenN rfl ?_ | refine WS.near rfl o_lenE rfl ?_ | refine WS.near rfl o_lenS rfl ?_ | refine WS.near rfl o_lenB rfl ?_ | refine WS.near rfl o_lenF rfl ?_ | refine WS.near rfl o_faddr rfl ?_
      | refine WS.near rfl o_lenB rfl ?_ | refine WS.near rfl o_loadF rfl ?_ | refine WS.near rfl (o_extract rfl) rfl ?_ | refine WS.near rfl (o_add (by omega) (by omega)) rfl ?_ | refine WS.near rfl (o_sub (by omega) (by omega)) rfl ?_ | refine WS.near rfl (o_faddrF (Nat.le_of_ble_eq_true rfl)) rfl ?_)
  have t1 := tokens_pu .esl s hs (by omega)
  rcases toks_places s (s.length + 1) 0 [] (by omega) (by omega) ⟨(fun t ht => by cases ht), List.Pairwise.nil⟩ with ⟨p, e, hlt⟩ | ⟨us, e, ht⟩
  · omega
  · have hg := good_of ht
    generalize us ++ [endT s] = ts at *
    obtain ⟨a, p', e', ht', hsl⟩ := toks_parts s (by omega) (s.length + 1) 0 0 [] (by omega) (by omega) (by omega) ⟨rfl, fun e he => by cases he⟩
    have hbound : ts.length < 2 ^ 60 := by
      have h2 := ht'.symm.trans e
      cases h2
      rcases hsl with h3 | ⟨es, h3, _, h4⟩
      · cases h3
      · cases h3
        simpa using h4
    rw [show toksGo (s.length + 1) s 0 0 [] = _ from e] at t1
    refine WS.puC hf (Pre := fun g => Bytes g .esl s) (by subst hz; exact bytes_esl) rfl rfl t1 ?_
    repeat' (first
        | refine W.seq ?_ | refine W.region ?_ | refine WS.nil ?_ | refine W.skip ?_ | refine W.block ?_ | refine W.ret ?_ | refine W.exit ?_ | refine W.yes rfl rfl ?_ | refine W.no rfl rfl ?_ | refine W.fork rfl (fun _ => ?_) (fun _ => ?_) | refine WS.guardT rfl ?_ | refine WS.guardF rfl rfl rfl ?_ | refine WS.guardK rfl (fun _ => ?_) (fun _ => ?_) | refine WS.near rfl o_mov rfl ?_ | refine WS.near rfl o_pickT rfl ?_ | refine WS.near rfl o_pickF rfl ?_ | refine WS.near rfl o_notT rfl ?_ | refine WS.near rfl o_lss rfl ?_ | refine WS.near rfl o_leq rfl ?_ | refine WS.near rfl o_gtr rfl ?_ | refine WS.near rfl o_geq rfl ?_ | refine WS.near rfl o_eql rfl ?_ | refine WS.near rfl o_neq rfl ?_ | refine WS.near rfl o_lenN rfl ?_ | refine WS.near rfl o_lenE rfl ?_ | refine WS.near rfl o_lenS rfl ?_ | refine WS.near rfl o_lenB rfl ?_ | refine WS.near rfl o_lenF rfl ?_ | refine WS.near rfl o_faddr rfl ?_
        | refine WS.near rfl o_lenB rfl ?_ | refine WS.near rfl o_loadF rfl ?_ | refine WS.near rfl (o_extract rfl) rfl ?_ | refine WS.near rfl (o_add (by omega) (by omega)) rfl ?_ | refine WS.near rfl (o_sub (by omega) (by omega)) rfl ?_ | refine WS.near rfl (o_faddrF (Nat.le_of_ble_eq_true rfl)) rfl ?_)
    refine WS.puF hf rfl rfl (num_pu _) ?_
    repeat' (first
        | refine W.seq ?_ | refine W.region ?_ | refine WS.nil ?_ | refine W.skip ?_ | refine W.block ?_ | refine W.ret ?_ | refine W.exit ?_ | refine W.yes rfl rfl ?_ | refine W.no rfl rfl ?_ | refine W.fork rfl (fun _ => ?_) (fun _ => ?_) | refine WS.guardT rfl ?_ | refine WS.guardF rfl rfl rfl ?_ | refine WS.guardK rfl (fun _ => ?_) (fun _ => ?_) | refine WS.near rfl o_mov rfl ?_ | refine WS.near rfl o_pickT rfl ?_ | refine WS.near rfl o_pickF rfl ?_ | refine WS.near rfl o_notT rfl ?_ | refine WS.near rfl o_lss rfl ?_ | refine WS.near rfl o_leq rfl ?_ | refine WS.near rfl o_gtr rfl ?_ | refine WS.near rfl o_geq rfl ?_ | refine WS.near rfl o_eql rfl ?_ | refine WS.near rfl o_neq rfl ?_ | refine WS.near rfl o_lenN rfl ?_ | refine WS.near rfl o_lenE rfl ?_ | refine WS.near rfl o_lenS rfl ?_ | refine WS.near rfl o_lenB rfl ?_ | refine WS.near rfl o_lenF rfl ?_ | refine WS.near rfl o_faddr rfl ?_
        | refine WS.near rfl o_lenB rfl ?_ | refine WS.near rfl o_loadF rfl ?_ | refine WS.near rfl (o_extract rfl) rfl ?_ | refine WS.near rfl (o_add (by omega) (by omega)) rfl ?_ | refine WS.near rfl (o_sub (by omega) (by omega)) rfl ?_ | refine WS.near rfl (o_faddrF (Nat.le_of_ble_eq_true rfl)) rfl ?_)
    have hlen : (ts.map T4.v).length = ts.length := List.length_map ..
    refine W.loop (fun a : Nat × List (Option (List V)) => [(0, .esl), (3, .fsl (ts.map T4.v) none), (4, .int .i64 (s.length : Nat)), (6, .int .i64 (wasAt ts a.1)), (7, .int .i64 a.1)]) (fun a => hp h a.2) (fun a => a.1 ≤ ts.length) (fun a => ts.length - a.1) (0, []) (by show 0 ≤ ts.length; omega) ⟨rfl, rfl, rfl, rfl, rfl, trivial⟩ rfl ?_
    rintro ⟨i, bs⟩ hi
    simp only at hi ⊢
    repeat' (first
        | refine W.seq ?_ | refine W.region ?_ | refine WS.nil ?_ | refine W.skip ?_ | refine W.block ?_ | refine W.ret ?_ | refine W.exit ?_ | refine W.yes rfl rfl ?_ | refine W.no rfl rfl ?_ | refine W.fork rfl (fun _ => ?_) (fun _ => ?_) | refine WS.guardT rfl ?_ | refine WS.guardF rfl rfl rfl ?_ | refine WS.guardK rfl (fun _ => ?_) (fun _ => ?_) | refine WS.near rfl o_mov rfl ?_ | refine WS.near rfl o_pickT rfl ?_ | refine WS.near rfl o_pickF rfl ?_ | refine WS.near rfl o_notT rfl ?_ | refine WS.near rfl o_lss rfl ?_ | refine WS.near rfl o_leq rfl ?_ | refine WS.near rfl o_gtr rfl ?_ | refine WS.near rfl o_geq rfl ?_ | refine WS.near rfl o_eql rfl ?_ | refine WS.near rfl o_neq rfl ?_ | refine WS.near rfl o_lenN rfl ?_ | refine WS.near rfl o_lenE rfl ?_ | refine WS.near rfl o_lenS rfl ?_ | refine WS.near rfl o_lenB rfl ?_ | refine WS.near rfl o_lenF rfl ?_ | refine WS.near rfl o_faddr rfl ?_
        | refine WS.near rfl o_lenB rfl ?_ | refine WS.near rfl o_loadF rfl ?_ | refine WS.near rfl (o_extract rfl) rfl ?_ | refine WS.near rfl (o_add (by omega) (by omega)) rfl ?_ | refine WS.near rfl (o_sub (by omega) (by omega)) rfl ?_ | refine WS.near rfl (o_faddrF (Nat.le_of_ble_eq_true rfl)) rfl ?_)
    · rename_i hlt
      rw [hlen] at hlt
      have hi' : i < ts.length := by omega
      have ht1 : ts[i]? = some ts[i] := List.getElem?_eq_getElem hi'
      have hw := wasAt_lt hg.rising ht1
      have hst := hg.stands ts[i] (List.getElem_mem hi')
      have hla := hg.last i ts[i] ht1
      have hnext : wasAt ts (i + 1) = (ts[i].at0 : Nat) := by show (((ts[i]?).map T4.at0).getD 0 : Nat) = (ts[i].at0 : Int); rw [ht1]; rfl
      have hget : (ts.map T4.v)[i]? = some ts[i].v := by rw [List.getElem?_map, ht1]; rfl
      generalize ts[i] = t at *
      obtain ⟨tk, tn, ta, tx⟩ := t
      obtain ⟨s1, s2, s3⟩ := hst
      simp only at s1 s2 s3 hw hla hnext
      obtain rfl : tx = [] := List.length_eq_zero_iff.1 (by omega)
      have hb : ((decide (tk = 0) == decide ((i : Int) = (((ts.map T4.v).length : Nat) : Int) - 1)) != true) = false := by
        have : (tk = 0) ↔ ((i : Int) = (((ts.map T4.v).length : Nat) : Int) - 1) := by rw [hlen, hla]; omega
        simp [this]
      refine WS.near rfl (o_iaddrT (a := tk) (b := tn) (c := ta) (x := []) i rfl hget) rfl ?_
      refine WS.near rfl o_load4 rfl ?_
      refine WS.near rfl o_allocS rfl ?_
      refine WS.near rfl (o_storeH hf bget_badd rfl) rfl ?_
      have g1 := bget_bput (off := 0) (n := 4) (cs := [.int .i64 tk, .int .i64 tn, .int .i64 ta, .str []]) (bget_badd (bs := bs) (c := zeroTok))
      repeat' (first
          | refine WS.near rfl (o_loadH (hload_of g1 rfl)) rfl ?_ | refine WS.near rfl (o_sliceE (by omega) (by omega)) rfl ?_ | refine WS.near rfl o_b2sE rfl ?_ | refine WS.near rfl o_sneqR rfl ?_ | refine WS.near rfl (o_binBX hb) rfl ?_ | refine W.seq ?_ | refine W.region ?_ | refine WS.nil ?_ | refine W.skip ?_ | refine W.block ?_ | refine W.ret ?_ | refine W.exit ?_ | refine W.yes rfl rfl ?_ | refine W.no rfl rfl ?_ | refine W.fork rfl (fun _ => ?_) (fun _ => ?_) | refine WS.guardT rfl ?_ | refine WS.guardF rfl rfl rfl ?_ | refine WS.guardK rfl (fun _ => ?_) (fun _ => ?_) | refine WS.near rfl o_mov rfl ?_ | refine WS.near rfl o_pickT rfl ?_ | refine WS.near rfl o_pickF rfl ?_ | refine WS.near rfl o_notT rfl ?_ | refine WS.near rfl o_lss rfl ?_ | refine WS.near rfl o_leq rfl ?_ | refine WS.near rfl o_gtr rfl ?_ | refine WS.near rfl o_geq rfl ?_ | refine WS.near rfl o_eql rfl ?_
          | refine WS.near rfl o_neq rfl ?_ | refine WS.near rfl o_lenN rfl ?_ | refine WS.near rfl o_lenE rfl ?_ | refine WS.near rfl o_lenS rfl ?_ | refine WS.near rfl o_lenB rfl ?_ | refine WS.near rfl o_lenF rfl ?_ | refine WS.near rfl o_faddr rfl ?_ | refine WS.near rfl o_lenB rfl ?_ | refine WS.near rfl o_loadF rfl ?_ | refine WS.near rfl (o_extract rfl) rfl ?_ | refine WS.near rfl (o_add (by omega) (by omega)) rfl ?_ | refine WS.near rfl (o_sub (by omega) (by omega)) rfl ?_ | refine WS.near rfl (o_faddrF (Nat.le_of_ble_eq_true rfl)) rfl ?_)
      all_goals first
        | (exfalso; omega)
        | exact ⟨(i + 1, _), (by show i + 1 ≤ ts.length; omega), (by show ts.length - (i + 1) < ts.length - i; omega), ⟨rfl, rfl, rfl, congrArg (fun z => some (V.int .i64 z)) hnext.symm, rfl, trivial⟩, rfl⟩
    · have hpos := hg.pos
      have hlast : ts[ts.length - 1]? = some ts[ts.length - 1] := List.getElem?_eq_getElem (by omega)
      have hend := hg.endAt _ hlast
      have hget : (ts.map T4.v)[ts.length - 1]? = some ts[ts.length - 1].v := by rw [List.getElem?_map, hlast]; rfl
      generalize ts[ts.length - 1] = t at *
      obtain ⟨tk, tn, ta, tx⟩ := t
      simp only at hend
      refine WS.near rfl (o_iaddrT (a := tk) (b := tn) (c := ta) (x := tx) (ts.length - 1) (by rw [hlen]; omega) hget) rfl ?_
      repeat' (first
          | refine W.seq ?_ | refine W.region ?_ | refine WS.nil ?_ | refine W.skip ?_ | refine W.block ?_ | refine W.ret ?_ | refine W.exit ?_ | refine W.yes rfl rfl ?_ | refine W.no rfl rfl ?_ | refine W.fork rfl (fun _ => ?_) (fun _ => ?_) | refine WS.guardT rfl ?_ | refine WS.guardF rfl rfl rfl ?_ | refine WS.guardK rfl (fun _ => ?_) (fun _ => ?_) | refine WS.near rfl o_mov rfl ?_ | refine WS.near rfl o_pickT rfl ?_ | refine WS.near rfl o_pickF rfl ?_ | refine WS.near rfl o_notT rfl ?_ | refine WS.near rfl o_lss rfl ?_ | refine WS.near rfl o_leq rfl ?_ | refine WS.near rfl o_gtr rfl ?_ | refine WS.near rfl o_geq rfl ?_ | refine WS.near rfl o_eql rfl ?_ | refine WS.near rfl o_neq rfl ?_ | refine WS.near rfl o_lenN rfl ?_ | refine WS.near rfl o_lenE rfl ?_ | refine WS.near rfl o_lenS rfl ?_ | refine WS.near rfl o_lenB rfl ?_ | refine WS.near rfl o_lenF rfl ?_ | refine WS.near rfl o_faddr rfl ?_
          | refine WS.near rfl o_lenB rfl ?_ | refine WS.near rfl o_loadF rfl ?_ | refine WS.near rfl (o_extract rfl) rfl ?_ | refine WS.near rfl (o_add (by omega) (by omega)) rfl ?_ | refine WS.near rfl (o_sub (by omega) (by omega)) rfl ?_ | refine WS.near rfl (o_faddrF (Nat.le_of_ble_eq_true rfl)) rfl ?_)
      exact ⟨_, rfl, fin_bool (yes_dec (by omega))⟩
    · rename_i hbad; rw [hlen] at hbad; have := hg.pos; exact absurd this (by omega)
    · rename_i hbad; exact absurd (by omega) hbad

theorem lplaces_all (u : V) (s : List Nat) (hu : (u = .nilsl ∧ s = []) ∨ (u = .esl ∧ s = []) ∨ u = .fsl (s.map fun (b : Nat) => V.int .u8 (b : Int)) none) (hs : ∀ b ∈ s, b < 256) : PuF D1 7 [u] (.bool true) := by
  rcases hu with ⟨rfl, rfl⟩ | ⟨rfl, rfl⟩ | rfl
  · exact lplaces_nil [] rfl
  · exact lplaces_esl [] rfl
  · exact lplaces_pu s hs
end Go.Proofs.YthclejjieggdkaaDoor.CodesL
