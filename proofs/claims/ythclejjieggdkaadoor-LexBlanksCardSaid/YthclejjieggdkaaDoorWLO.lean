/- The lexer: one token. -/
import Derived.Test.YthclejjieggdkaaDoorWLZ
namespace Go.Proofs.YthclejjieggdkaaDoor.CodesL
open Go Go.Ab
set_option maxHeartbeats 800000
set_option maxRecDepth 20000

/-- a token: its cells but for the place, how many bytes it has, is it one -/
structure Tok where
  kind : Int
  n : Int
  text : List Nat
  len : Nat
  ok : Bool
def Tok.cells (t : Tok) (at0 : Int) : List V := [.int .i64 t.kind, .int .i64 t.n, .int .i64 at0, .str t.text]
open Classical in
/-- the token that a text begins with -/
noncomputable def oneF (s : List Nat) : Tok :=
  if isLetter (at' s 0) then
    if s.take (runLen s) ∈ wordList then ⟨2, 0, s.take (runLen s), runLen s, true⟩ else ⟨1, 0, s.take (runLen s), runLen s, decide ((runLen s : Int) ≤ 24)⟩
  else if isDigit (at' s 0) then ⟨3, ((numF (s.take (runLen s))).getD 0 : Nat), [], runLen s, (numF (s.take (runLen s))).isSome⟩
  else ⟨4, 0, signOf s, (signOf s).length, decide ((signOf s).length ≠ 0)⟩
def Tok.ans (t : Tok) : V := .tup [.agg (t.cells 0), .int .i64 t.len, .bool t.ok]

theorem signOf_le (s : List Nat) : (signOf s).length ≤ s.length := by
  unfold signOf
  cases h : signList.find? fun x => decide (s.take x.length = x) with
  | none => simp
  | some x =>
    have := List.find?_some h
    simp only [decide_eq_true_eq] at this
    have h2 := congrArg List.length this
    simp only [List.length_take] at h2
    simp only [Option.getD_some]; omega

set_option maxHeartbeats 1000000 in
theorem one_pu (s : List Nat) (hl : s.length < 2 ^ 60) (h0 : 0 < s.length) : PuF D1 33 [.str s] (oneF s).ans := by
  have hrl := runLen_le s
  have htl : (s.take (runLen s)).length = runLen s := by rw [List.length_take]; omega
  refine PuF.tidy rfl rfl rfl rfl rfl fun h hf => ?_
  repeat' (first
      | refine W.seq ?_ | refine W.region ?_ | refine WS.nil ?_ | refine W.skip ?_ | refine W.block ?_ | refine W.ret ?_ | refine W.no rfl rfl ?_ | refine W.fork rfl (fun _ => ?_) (fun _ => ?_) | refine WS.guardT rfl ?_ | refine WS.guardF rfl rfl rfl ?_ | refine WS.guardK rfl (fun _ => ?_) (fun _ => ?_) | refine WS.near rfl o_mov rfl ?_ | refine WS.near rfl o_pickT rfl ?_ | refine WS.near rfl o_pickF rfl ?_ | refine WS.near rfl o_leq rfl ?_ | refine WS.near rfl o_sneq0 rfl ?_ | refine WS.near rfl o_lenS rfl ?_ | refine WS.near rfl (o_extract rfl) rfl ?_ | refine WS.near rfl (o_build rfl) rfl ?_ | refine WS.near rfl (o_storeH (by assumption) rfl rfl) rfl ?_ | refine WS.near rfl (o_allocH 0 rfl) rfl ?_ | refine WS.near rfl (o_index _ rfl (by omega)) rfl ?_ | refine WS.near rfl (o_sliceT _ rfl (by omega)) rfl ?_)
  refine WS.puF hf rfl rfl (run_pu s hl) ?_
  repeat' (first
      | refine W.seq ?_ | refine W.region ?_ | refine WS.nil ?_ | refine W.skip ?_ | refine W.block ?_ | refine W.ret ?_ | refine W.no rfl rfl ?_ | refine W.fork rfl (fun _ => ?_) (fun _ => ?_) | refine WS.guardT rfl ?_ | refine WS.guardF rfl rfl rfl ?_ | refine WS.guardK rfl (fun _ => ?_) (fun _ => ?_) | refine WS.near rfl o_mov rfl ?_ | refine WS.near rfl o_pickT rfl ?_ | refine WS.near rfl o_pickF rfl ?_ | refine WS.near rfl o_leq rfl ?_ | refine WS.near rfl o_sneq0 rfl ?_ | refine WS.near rfl o_lenS rfl ?_ | refine WS.near rfl (o_extract rfl) rfl ?_ | refine WS.near rfl (o_build rfl) rfl ?_ | refine WS.near rfl (o_storeH (by assumption) rfl rfl) rfl ?_ | refine WS.near rfl (o_allocH 0 rfl) rfl ?_ | refine WS.near rfl (o_index _ rfl (by omega)) rfl ?_ | refine WS.near rfl (o_sliceT _ rfl (by omega)) rfl ?_)
  refine WS.puF hf rfl rfl (letter_pu _) ?_
  repeat' (first
      | refine W.seq ?_ | refine W.region ?_ | refine WS.nil ?_ | refine W.skip ?_ | refine W.block ?_ | refine W.ret ?_ | refine W.no rfl rfl ?_ | refine W.fork rfl (fun _ => ?_) (fun _ => ?_) | refine WS.guardT rfl ?_ | refine WS.guardF rfl rfl rfl ?_ | refine WS.guardK rfl (fun _ => ?_) (fun _ => ?_) | refine WS.near rfl o_mov rfl ?_ | refine WS.near rfl o_pickT rfl ?_ | refine WS.near rfl o_pickF rfl ?_ | refine WS.near rfl o_leq rfl ?_ | refine WS.near rfl o_sneq0 rfl ?_ | refine WS.near rfl o_lenS rfl ?_ | refine WS.near rfl (o_extract rfl) rfl ?_ | refine WS.near rfl (o_build rfl) rfl ?_ | refine WS.near rfl (o_storeH (by assumption) rfl rfl) rfl ?_ | refine WS.near rfl (o_allocH 0 rfl) rfl ?_ | refine WS.near rfl (o_index _ rfl (by omega)) rfl ?_ | refine WS.near rfl (o_sliceT _ rfl (by omega)) rfl ?_)
  · rename_i hlet
    refine WS.puF hf rfl rfl (word_pu _) ?_
    repeat' (first
        | refine W.seq ?_ | refine W.region ?_ | refine WS.nil ?_ | refine W.skip ?_ | refine W.block ?_ | refine W.ret ?_ | refine W.no rfl rfl ?_ | refine W.fork rfl (fun _ => ?_) (fun _ => ?_) | refine WS.guardT rfl ?_ | refine WS.guardF rfl rfl rfl ?_ | refine WS.guardK rfl (fun _ => ?_) (fun _ => ?_) | refine WS.near rfl o_mov rfl ?_ | refine WS.near rfl o_pickT rfl ?_ | refine WS.near rfl o_pickF rfl ?_ | refine WS.near rfl o_leq rfl ?_ | refine WS.near rfl o_sneq0 rfl ?_ | refine WS.near rfl o_lenS rfl ?_ | refine WS.near rfl (o_extract rfl) rfl ?_ | refine WS.near rfl (o_build rfl) rfl ?_ | refine WS.near rfl (o_storeH (by assumption) rfl rfl) rfl ?_ | refine WS.near rfl (o_allocH 0 rfl) rfl ?_ | refine WS.near rfl (o_index _ rfl (by omega)) rfl ?_ | refine WS.near rfl (o_sliceT _ rfl (by omega)) rfl ?_)
    · rename_i hw
      have e : oneF s = ⟨2, 0, s.take (runLen s), runLen s, true⟩ := by unfold oneF; rw [if_pos hlet, if_pos hw]
      rw [e]
      exact ⟨_, resK_cell rfl rfl rfl rfl, _, rfl, rfl⟩
    · rename_i hw
      have e : oneF s = ⟨1, 0, s.take (runLen s), runLen s, decide ((runLen s : Int) ≤ 24)⟩ := by unfold oneF; rw [if_pos hlet, if_neg hw]
      refine WS.puF hf rfl rfl (letter_pu _) ?_
      repeat' (first
          | refine W.seq ?_ | refine W.region ?_ | refine WS.nil ?_ | refine W.skip ?_ | refine W.block ?_ | refine W.ret ?_ | refine W.no rfl rfl ?_ | refine W.fork rfl (fun _ => ?_) (fun _ => ?_) | refine WS.guardT rfl ?_ | refine WS.guardF rfl rfl rfl ?_ | refine WS.guardK rfl (fun _ => ?_) (fun _ => ?_) | refine WS.near rfl o_mov rfl ?_ | refine WS.near rfl o_pickT rfl ?_ | refine WS.near rfl o_pickF rfl ?_ | refine WS.near rfl o_leq rfl ?_ | refine WS.near rfl o_sneq0 rfl ?_ | refine WS.near rfl o_lenS rfl ?_ | refine WS.near rfl (o_extract rfl) rfl ?_ | refine WS.near rfl (o_build rfl) rfl ?_ | refine WS.near rfl (o_storeH (by assumption) rfl rfl) rfl ?_ | refine WS.near rfl (o_allocH 0 rfl) rfl ?_ | refine WS.near rfl (o_index _ rfl (by omega)) rfl ?_ | refine WS.near rfl (o_sliceT _ rfl (by omega)) rfl ?_)
      · rw [e]
        exact ⟨_, resK_cell rfl rfl rfl rfl, _, rfl, rfl⟩
      · rename_i hbad; exact absurd hlet hbad
  · rename_i hlet
    refine WS.puF hf rfl rfl (letter_pu _) ?_
    repeat' (first
        | refine W.seq ?_ | refine W.region ?_ | refine WS.nil ?_ | refine W.skip ?_ | refine W.block ?_ | refine W.ret ?_ | refine W.no rfl rfl ?_ | refine W.fork rfl (fun _ => ?_) (fun _ => ?_) | refine WS.guardT rfl ?_ | refine WS.guardF rfl rfl rfl ?_ | refine WS.guardK rfl (fun _ => ?_) (fun _ => ?_) | refine WS.near rfl o_mov rfl ?_ | refine WS.near rfl o_pickT rfl ?_ | refine WS.near rfl o_pickF rfl ?_ | refine WS.near rfl o_leq rfl ?_ | refine WS.near rfl o_sneq0 rfl ?_ | refine WS.near rfl o_lenS rfl ?_ | refine WS.near rfl (o_extract rfl) rfl ?_ | refine WS.near rfl (o_build rfl) rfl ?_ | refine WS.near rfl (o_storeH (by assumption) rfl rfl) rfl ?_ | refine WS.near rfl (o_allocH 0 rfl) rfl ?_ | refine WS.near rfl (o_index _ rfl (by omega)) rfl ?_ | refine WS.near rfl (o_sliceT _ rfl (by omega)) rfl ?_)
    · rename_i hbad; exact absurd hbad hlet
    · refine WS.puF hf rfl rfl (digit_pu _) ?_
      repeat' (first
          | refine W.seq ?_ | refine W.region ?_ | refine WS.nil ?_ | refine W.skip ?_ | refine W.block ?_ | refine W.ret ?_ | refine W.no rfl rfl ?_ | refine W.fork rfl (fun _ => ?_) (fun _ => ?_) | refine WS.guardT rfl ?_ | refine WS.guardF rfl rfl rfl ?_ | refine WS.guardK rfl (fun _ => ?_) (fun _ => ?_) | refine WS.near rfl o_mov rfl ?_ | refine WS.near rfl o_pickT rfl ?_ | refine WS.near rfl o_pickF rfl ?_ | refine WS.near rfl o_leq rfl ?_ | refine WS.near rfl o_sneq0 rfl ?_ | refine WS.near rfl o_lenS rfl ?_ | refine WS.near rfl (o_extract rfl) rfl ?_ | refine WS.near rfl (o_build rfl) rfl ?_ | refine WS.near rfl (o_storeH (by assumption) rfl rfl) rfl ?_ | refine WS.near rfl (o_allocH 0 rfl) rfl ?_ | refine WS.near rfl (o_index _ rfl (by omega)) rfl ?_ | refine WS.near rfl (o_sliceT _ rfl (by omega)) rfl ?_)
      · rename_i hd
        have e : oneF s = ⟨3, ((numF (s.take (runLen s))).getD 0 : Nat), [], runLen s, (numF (s.take (runLen s))).isSome⟩ := by unfold oneF; rw [if_neg hlet, if_pos hd]
        refine WS.puF hf rfl rfl (number_pu _ (by omega)) ?_
        rw [e]
        cases hn : numF (s.take (runLen s)) with
        | none =>
          repeat' (first
              | refine W.seq ?_ | refine W.region ?_ | refine WS.nil ?_ | refine W.skip ?_ | refine W.block ?_ | refine W.ret ?_ | refine W.no rfl rfl ?_ | refine W.fork rfl (fun _ => ?_) (fun _ => ?_) | refine WS.guardT rfl ?_ | refine WS.guardF rfl rfl rfl ?_ | refine WS.guardK rfl (fun _ => ?_) (fun _ => ?_) | refine WS.near rfl o_mov rfl ?_ | refine WS.near rfl o_pickT rfl ?_ | refine WS.near rfl o_pickF rfl ?_ | refine WS.near rfl o_leq rfl ?_ | refine WS.near rfl o_sneq0 rfl ?_ | refine WS.near rfl o_lenS rfl ?_ | refine WS.near rfl (o_extract rfl) rfl ?_ | refine WS.near rfl (o_build rfl) rfl ?_ | refine WS.near rfl (o_storeH (by assumption) rfl rfl) rfl ?_ | refine WS.near rfl (o_allocH 0 rfl) rfl ?_ | refine WS.near rfl (o_index _ rfl (by omega)) rfl ?_ | refine WS.near rfl (o_sliceT _ rfl (by omega)) rfl ?_)
          exact ⟨_, resK_cell rfl rfl rfl rfl, _, rfl, rfl⟩
        | some n =>
          repeat' (first
              | refine W.seq ?_ | refine W.region ?_ | refine WS.nil ?_ | refine W.skip ?_ | refine W.block ?_ | refine W.ret ?_ | refine W.no rfl rfl ?_ | refine W.fork rfl (fun _ => ?_) (fun _ => ?_) | refine WS.guardT rfl ?_ | refine WS.guardF rfl rfl rfl ?_ | refine WS.guardK rfl (fun _ => ?_) (fun _ => ?_) | refine WS.near rfl o_mov rfl ?_ | refine WS.near rfl o_pickT rfl ?_ | refine WS.near rfl o_pickF rfl ?_ | refine WS.near rfl o_leq rfl ?_ | refine WS.near rfl o_sneq0 rfl ?_ | refine WS.near rfl o_lenS rfl ?_ | refine WS.near rfl (o_extract rfl) rfl ?_ | refine WS.near rfl (o_build rfl) rfl ?_ | refine WS.near rfl (o_storeH (by assumption) rfl rfl) rfl ?_ | refine WS.near rfl (o_allocH 0 rfl) rfl ?_ | refine WS.near rfl (o_index _ rfl (by omega)) rfl ?_ | refine WS.near rfl (o_sliceT _ rfl (by omega)) rfl ?_)
          exact ⟨_, resK_cell rfl rfl rfl rfl, _, rfl, rfl⟩
      · rename_i hd
        have e : oneF s = ⟨4, 0, signOf s, (signOf s).length, decide ((signOf s).length ≠ 0)⟩ := by unfold oneF; rw [if_neg hlet, if_neg hd]
        refine WS.puF hf rfl rfl (sign_pu s) ?_
        repeat' (first
            | refine W.seq ?_ | refine W.region ?_ | refine WS.nil ?_ | refine W.skip ?_ | refine W.block ?_ | refine W.ret ?_ | refine W.no rfl rfl ?_ | refine W.fork rfl (fun _ => ?_) (fun _ => ?_) | refine WS.guardT rfl ?_ | refine WS.guardF rfl rfl rfl ?_ | refine WS.guardK rfl (fun _ => ?_) (fun _ => ?_) | refine WS.near rfl o_mov rfl ?_ | refine WS.near rfl o_pickT rfl ?_ | refine WS.near rfl o_pickF rfl ?_ | refine WS.near rfl o_leq rfl ?_ | refine WS.near rfl o_sneq0 rfl ?_ | refine WS.near rfl o_lenS rfl ?_ | refine WS.near rfl (o_extract rfl) rfl ?_ | refine WS.near rfl (o_build rfl) rfl ?_ | refine WS.near rfl (o_storeH (by assumption) rfl rfl) rfl ?_ | refine WS.near rfl (o_allocH 0 rfl) rfl ?_ | refine WS.near rfl (o_index _ rfl (by omega)) rfl ?_ | refine WS.near rfl (o_sliceT _ rfl (by omega)) rfl ?_)
        rw [e]
        exact ⟨_, resK_cell rfl rfl rfl rfl, _, rfl, rfl⟩
end Go.Proofs.YthclejjieggdkaaDoor.CodesL
