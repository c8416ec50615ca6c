/- The lexer: words, signs, numbers. -/
import Derived.Test.YthclejjieggdkaaDoorWLX
namespace Go.Proofs.YthclejjieggdkaaDoor.CodesL
open Go Go.Ab
set_option maxHeartbeats 800000

/-- where a text stands in a row of texts; below 0: nowhere -/
def ixL (x : List Nat) : Nat → List (List Nat) → Int
  | _, [] => -1
  | i, y :: r => if x = y then (i : Nat) else ixL x (i + 1) r
theorem ixL_at {l : List (List Nat)} {i : Nat} (hi : i < l.length) (x : List Nat) (k : Nat) : ixL x k (l.drop i) = (if x = strAt l i then ((k : Nat) : Int) else ixL x (k + 1) (l.drop (i + 1)) : Int) := by
  have : l.drop i = strAt l i :: l.drop (i + 1) := by rw [List.drop_eq_getElem_cons hi]; simp [strAt, List.getD, hi]
  rw [this, ixL]
theorem ixL_mem (x : List Nat) : ∀ (l : List (List Nat)) (i : Nat), 0 ≤ ixL x i l ↔ x ∈ l
  | [], i => by simp [ixL]
  | y :: r, i => by
    simp only [ixL, List.mem_cons]
    by_cases h : x = y
    · simp [h]
    · simp only [h, if_false, false_or]; exact ixL_mem x r (i + 1)

theorem index_pu (l : List (List Nat)) (c : Option Nat) (x : List Nat) (hl : l.length < 2 ^ 60) : PuF D1 69 [.fsl (l.map V.str) c, .str x] (.int .i64 (ixL x 0 l)) := by
  refine PuF.tidy rfl rfl rfl rfl rfl fun h hf => ?_
  repeat' (first
      | refine W.seq ?_ | refine W.region ?_ | refine WS.nil ?_ | refine W.skip ?_ | refine W.block ?_ | refine W.ret ?_ | refine W.exit ?_ | refine W.no rfl rfl ?_ | refine W.fork rfl (fun _ => ?_) (fun _ => ?_) | refine WS.guardT rfl ?_ | refine WS.guardF rfl rfl rfl ?_ | refine WS.guardK rfl (fun _ => ?_) (fun _ => ?_) | refine WS.near rfl o_mov rfl ?_ | refine WS.near rfl o_pickT rfl ?_ | refine WS.near rfl o_pickF rfl ?_ | refine WS.near rfl o_lss rfl ?_ | refine WS.near rfl o_gtr rfl ?_ | refine WS.near rfl o_geq rfl ?_ | refine WS.near rfl o_eql rfl ?_ | refine WS.near rfl o_seql rfl ?_ | refine WS.near rfl o_not rfl ?_ | refine WS.near rfl o_lenS rfl ?_ | refine WS.near rfl o_lenB rfl ?_ | refine WS.near rfl o_lenL rfl ?_ | refine WS.near rfl o_s2b rfl ?_ | refine WS.near rfl o_lenB rfl ?_ | refine WS.near rfl o_loadF rfl ?_ | refine WS.near rfl o_lenL rfl ?_
      | refine WS.near rfl (o_quo (by omega) (by omega) (by omega)) rfl ?_ | refine WS.near rfl (o_mul (by omega) (by omega)) rfl ?_ | refine WS.near rfl (o_add (by omega) (by omega)) rfl ?_ | refine WS.near rfl (o_sub (by omega) (by omega)) rfl ?_ | refine WS.near rfl (o_sub8 (by omega) (by omega)) rfl ?_ | refine WS.near rfl (o_conv (by omega) (by omega)) rfl ?_ | refine WS.near rfl (o_index 0 rfl (by omega)) rfl ?_ | refine WS.near rfl (o_iaddrB _ rfl (by omega)) rfl ?_ | refine WS.near rfl (o_iaddrL _ rfl (by omega)) rfl ?_ | refine WS.near rfl (o_sliceT _ rfl (by omega)) rfl ?_)
  refine W.loop (fun i : Nat => [(0, .fsl (l.map V.str) c), (1, .str x), (4, .int .i64 l.length), (5, .int .i64 i)]) (fun _ => hp h []) (fun i => i ≤ l.length ∧ ixL x i (l.drop i) = ixL x 0 l) (fun i => l.length - i) 0 ⟨by omega, rfl⟩ ⟨rfl, rfl, rfl, rfl, trivial⟩ rfl ?_
  rintro i ⟨hi, hr⟩
  repeat' (first
      | refine W.seq ?_ | refine W.region ?_ | refine WS.nil ?_ | refine W.skip ?_ | refine W.block ?_ | refine W.ret ?_ | refine W.exit ?_ | refine W.no rfl rfl ?_ | refine W.fork rfl (fun _ => ?_) (fun _ => ?_) | refine WS.guardT rfl ?_ | refine WS.guardF rfl rfl rfl ?_ | refine WS.guardK rfl (fun _ => ?_) (fun _ => ?_) | refine WS.near rfl o_mov rfl ?_ | refine WS.near rfl o_pickT rfl ?_ | refine WS.near rfl o_pickF rfl ?_ | refine WS.near rfl o_lss rfl ?_ | refine WS.near rfl o_gtr rfl ?_ | refine WS.near rfl o_geq rfl ?_ | refine WS.near rfl o_eql rfl ?_ | refine WS.near rfl o_seql rfl ?_ | refine WS.near rfl o_not rfl ?_ | refine WS.near rfl o_lenS rfl ?_ | refine WS.near rfl o_lenB rfl ?_ | refine WS.near rfl o_lenL rfl ?_ | refine WS.near rfl o_s2b rfl ?_ | refine WS.near rfl o_lenB rfl ?_ | refine WS.near rfl o_loadF rfl ?_ | refine WS.near rfl o_lenL rfl ?_
      | refine WS.near rfl (o_quo (by omega) (by omega) (by omega)) rfl ?_ | refine WS.near rfl (o_mul (by omega) (by omega)) rfl ?_ | refine WS.near rfl (o_add (by omega) (by omega)) rfl ?_ | refine WS.near rfl (o_sub (by omega) (by omega)) rfl ?_ | refine WS.near rfl (o_sub8 (by omega) (by omega)) rfl ?_ | refine WS.near rfl (o_conv (by omega) (by omega)) rfl ?_ | refine WS.near rfl (o_index 0 rfl (by omega)) rfl ?_ | refine WS.near rfl (o_iaddrB _ rfl (by omega)) rfl ?_ | refine WS.near rfl (o_iaddrL _ rfl (by omega)) rfl ?_ | refine WS.near rfl (o_sliceT _ rfl (by omega)) rfl ?_)
  · rename_i hlt heq
    rw [ixL_at (by omega), if_pos heq] at hr
    exact ⟨_, rfl, fin_int hr⟩
  · rename_i hlt hne
    rw [ixL_at (by omega), if_neg hne] at hr
    exact ⟨i + 1, ⟨by omega, hr⟩, (by show l.length - (i + 1) < l.length - i; omega), ⟨rfl, rfl, rfl, rfl, trivial⟩, rfl⟩
  · rename_i hge
    rw [List.drop_eq_nil_of_le (by omega)] at hr
    exact ⟨_, rfl, fin_int hr⟩

theorem contains_pu (l : List (List Nat)) (c : Option Nat) (x : List Nat) (hl : l.length < 2 ^ 60) : PuF D1 57 [.fsl (l.map V.str) c, .str x] (.bool (decide (x ∈ l))) := by
  refine PuF.tidy rfl rfl rfl rfl rfl fun h hf => ?_
  repeat' (first
      | refine W.seq ?_ | refine W.region ?_ | refine WS.nil ?_ | refine W.skip ?_ | refine W.block ?_ | refine W.ret ?_ | refine W.exit ?_ | refine W.no rfl rfl ?_ | refine W.fork rfl (fun _ => ?_) (fun _ => ?_) | refine WS.guardT rfl ?_ | refine WS.guardF rfl rfl rfl ?_ | refine WS.guardK rfl (fun _ => ?_) (fun _ => ?_) | refine WS.near rfl o_mov rfl ?_ | refine WS.near rfl o_pickT rfl ?_ | refine WS.near rfl o_pickF rfl ?_ | refine WS.near rfl o_lss rfl ?_ | refine WS.near rfl o_gtr rfl ?_ | refine WS.near rfl o_geq rfl ?_ | refine WS.near rfl o_eql rfl ?_ | refine WS.near rfl o_seql rfl ?_ | refine WS.near rfl o_not rfl ?_ | refine WS.near rfl o_lenS rfl ?_ | refine WS.near rfl o_lenB rfl ?_ | refine WS.near rfl o_lenL rfl ?_ | refine WS.near rfl o_s2b rfl ?_ | refine WS.near rfl o_lenB rfl ?_ | refine WS.near rfl o_loadF rfl ?_ | refine WS.near rfl o_lenL rfl ?_
      | refine WS.near rfl (o_quo (by omega) (by omega) (by omega)) rfl ?_ | refine WS.near rfl (o_mul (by omega) (by omega)) rfl ?_ | refine WS.near rfl (o_add (by omega) (by omega)) rfl ?_ | refine WS.near rfl (o_sub (by omega) (by omega)) rfl ?_ | refine WS.near rfl (o_sub8 (by omega) (by omega)) rfl ?_ | refine WS.near rfl (o_conv (by omega) (by omega)) rfl ?_ | refine WS.near rfl (o_index 0 rfl (by omega)) rfl ?_ | refine WS.near rfl (o_iaddrB _ rfl (by omega)) rfl ?_ | refine WS.near rfl (o_iaddrL _ rfl (by omega)) rfl ?_ | refine WS.near rfl (o_sliceT _ rfl (by omega)) rfl ?_)
  refine WS.puF hf rfl rfl (index_pu l c x hl) ?_
  repeat' (first
      | refine W.seq ?_ | refine W.region ?_ | refine WS.nil ?_ | refine W.skip ?_ | refine W.block ?_ | refine W.ret ?_ | refine W.exit ?_ | refine W.no rfl rfl ?_ | refine W.fork rfl (fun _ => ?_) (fun _ => ?_) | refine WS.guardT rfl ?_ | refine WS.guardF rfl rfl rfl ?_ | refine WS.guardK rfl (fun _ => ?_) (fun _ => ?_) | refine WS.near rfl o_mov rfl ?_ | refine WS.near rfl o_pickT rfl ?_ | refine WS.near rfl o_pickF rfl ?_ | refine WS.near rfl o_lss rfl ?_ | refine WS.near rfl o_gtr rfl ?_ | refine WS.near rfl o_geq rfl ?_ | refine WS.near rfl o_eql rfl ?_ | refine WS.near rfl o_seql rfl ?_ | refine WS.near rfl o_not rfl ?_ | refine WS.near rfl o_lenS rfl ?_ | refine WS.near rfl o_lenB rfl ?_ | refine WS.near rfl o_lenL rfl ?_ | refine WS.near rfl o_s2b rfl ?_ | refine WS.near rfl o_lenB rfl ?_ | refine WS.near rfl o_loadF rfl ?_ | refine WS.near rfl o_lenL rfl ?_
      | refine WS.near rfl (o_quo (by omega) (by omega) (by omega)) rfl ?_ | refine WS.near rfl (o_mul (by omega) (by omega)) rfl ?_ | refine WS.near rfl (o_add (by omega) (by omega)) rfl ?_ | refine WS.near rfl (o_sub (by omega) (by omega)) rfl ?_ | refine WS.near rfl (o_sub8 (by omega) (by omega)) rfl ?_ | refine WS.near rfl (o_conv (by omega) (by omega)) rfl ?_ | refine WS.near rfl (o_index 0 rfl (by omega)) rfl ?_ | refine WS.near rfl (o_iaddrB _ rfl (by omega)) rfl ?_ | refine WS.near rfl (o_iaddrL _ rfl (by omega)) rfl ?_ | refine WS.near rfl (o_sliceT _ rfl (by omega)) rfl ?_)
  exact ⟨_, rfl, fin_bool (bsame (ixL_mem x l 0))⟩

set_option maxRecDepth 20000
theorem words_len : wordList.length < 2 ^ 60 := by decide
theorem signs_len : signList.length < 2 ^ 60 := by decide
theorem word_pu (s : List Nat) : PuF D1 36 [.str s] (.bool (decide (s ∈ wordList))) := by
  refine PuF.tidy rfl rfl rfl rfl rfl fun h hf => ?_
  repeat' (first
      | refine W.seq ?_ | refine W.region ?_ | refine WS.nil ?_ | refine W.skip ?_ | refine W.block ?_ | refine W.ret ?_ | refine W.exit ?_ | refine W.no rfl rfl ?_ | refine W.fork rfl (fun _ => ?_) (fun _ => ?_) | refine WS.guardT rfl ?_ | refine WS.guardF rfl rfl rfl ?_ | refine WS.guardK rfl (fun _ => ?_) (fun _ => ?_) | refine WS.near rfl o_mov rfl ?_ | refine WS.near rfl o_pickT rfl ?_ | refine WS.near rfl o_pickF rfl ?_ | refine WS.near rfl o_lss rfl ?_ | refine WS.near rfl o_gtr rfl ?_ | refine WS.near rfl o_geq rfl ?_ | refine WS.near rfl o_eql rfl ?_ | refine WS.near rfl o_seql rfl ?_ | refine WS.near rfl o_not rfl ?_ | refine WS.near rfl o_lenS rfl ?_ | refine WS.near rfl o_lenB rfl ?_ | refine WS.near rfl o_lenL rfl ?_ | refine WS.near rfl o_s2b rfl ?_ | refine WS.near rfl o_lenB rfl ?_ | refine WS.near rfl o_loadF rfl ?_ | refine WS.near rfl o_lenL rfl ?_
      | refine WS.near rfl (o_quo (by omega) (by omega) (by omega)) rfl ?_ | refine WS.near rfl (o_mul (by omega) (by omega)) rfl ?_ | refine WS.near rfl (o_add (by omega) (by omega)) rfl ?_ | refine WS.near rfl (o_sub (by omega) (by omega)) rfl ?_ | refine WS.near rfl (o_sub8 (by omega) (by omega)) rfl ?_ | refine WS.near rfl (o_conv (by omega) (by omega)) rfl ?_ | refine WS.near rfl (o_index 0 rfl (by omega)) rfl ?_ | refine WS.near rfl (o_iaddrB _ rfl (by omega)) rfl ?_ | refine WS.near rfl (o_iaddrL _ rfl (by omega)) rfl ?_ | refine WS.near rfl (o_sliceT _ rfl (by omega)) rfl ?_)
  refine WS.puF hf rfl rfl fields_words ?_
  repeat' (first
      | refine W.seq ?_ | refine W.region ?_ | refine WS.nil ?_ | refine W.skip ?_ | refine W.block ?_ | refine W.ret ?_ | refine W.exit ?_ | refine W.no rfl rfl ?_ | refine W.fork rfl (fun _ => ?_) (fun _ => ?_) | refine WS.guardT rfl ?_ | refine WS.guardF rfl rfl rfl ?_ | refine WS.guardK rfl (fun _ => ?_) (fun _ => ?_) | refine WS.near rfl o_mov rfl ?_ | refine WS.near rfl o_pickT rfl ?_ | refine WS.near rfl o_pickF rfl ?_ | refine WS.near rfl o_lss rfl ?_ | refine WS.near rfl o_gtr rfl ?_ | refine WS.near rfl o_geq rfl ?_ | refine WS.near rfl o_eql rfl ?_ | refine WS.near rfl o_seql rfl ?_ | refine WS.near rfl o_not rfl ?_ | refine WS.near rfl o_lenS rfl ?_ | refine WS.near rfl o_lenB rfl ?_ | refine WS.near rfl o_lenL rfl ?_ | refine WS.near rfl o_s2b rfl ?_ | refine WS.near rfl o_lenB rfl ?_ | refine WS.near rfl o_loadF rfl ?_ | refine WS.near rfl o_lenL rfl ?_
      | refine WS.near rfl (o_quo (by omega) (by omega) (by omega)) rfl ?_ | refine WS.near rfl (o_mul (by omega) (by omega)) rfl ?_ | refine WS.near rfl (o_add (by omega) (by omega)) rfl ?_ | refine WS.near rfl (o_sub (by omega) (by omega)) rfl ?_ | refine WS.near rfl (o_sub8 (by omega) (by omega)) rfl ?_ | refine WS.near rfl (o_conv (by omega) (by omega)) rfl ?_ | refine WS.near rfl (o_index 0 rfl (by omega)) rfl ?_ | refine WS.near rfl (o_iaddrB _ rfl (by omega)) rfl ?_ | refine WS.near rfl (o_iaddrL _ rfl (by omega)) rfl ?_ | refine WS.near rfl (o_sliceT _ rfl (by omega)) rfl ?_)
  refine WS.puF hf rfl rfl (contains_pu wordList none s words_len) ?_
  repeat' (first
      | refine W.seq ?_ | refine W.region ?_ | refine WS.nil ?_ | refine W.skip ?_ | refine W.block ?_ | refine W.ret ?_ | refine W.exit ?_ | refine W.no rfl rfl ?_ | refine W.fork rfl (fun _ => ?_) (fun _ => ?_) | refine WS.guardT rfl ?_ | refine WS.guardF rfl rfl rfl ?_ | refine WS.guardK rfl (fun _ => ?_) (fun _ => ?_) | refine WS.near rfl o_mov rfl ?_ | refine WS.near rfl o_pickT rfl ?_ | refine WS.near rfl o_pickF rfl ?_ | refine WS.near rfl o_lss rfl ?_ | refine WS.near rfl o_gtr rfl ?_ | refine WS.near rfl o_geq rfl ?_ | refine WS.near rfl o_eql rfl ?_ | refine WS.near rfl o_seql rfl ?_ | refine WS.near rfl o_not rfl ?_ | refine WS.near rfl o_lenS rfl ?_ | refine WS.near rfl o_lenB rfl ?_ | refine WS.near rfl o_lenL rfl ?_ | refine WS.near rfl o_s2b rfl ?_ | refine WS.near rfl o_lenB rfl ?_ | refine WS.near rfl o_loadF rfl ?_ | refine WS.near rfl o_lenL rfl ?_
      | refine WS.near rfl (o_quo (by omega) (by omega) (by omega)) rfl ?_ | refine WS.near rfl (o_mul (by omega) (by omega)) rfl ?_ | refine WS.near rfl (o_add (by omega) (by omega)) rfl ?_ | refine WS.near rfl (o_sub (by omega) (by omega)) rfl ?_ | refine WS.near rfl (o_sub8 (by omega) (by omega)) rfl ?_ | refine WS.near rfl (o_conv (by omega) (by omega)) rfl ?_ | refine WS.near rfl (o_index 0 rfl (by omega)) rfl ?_ | refine WS.near rfl (o_iaddrB _ rfl (by omega)) rfl ?_ | refine WS.near rfl (o_iaddrL _ rfl (by omega)) rfl ?_ | refine WS.near rfl (o_sliceT _ rfl (by omega)) rfl ?_)
  exact ⟨_, rfl, fin_bool rfl⟩

theorem pre1_pu (s p : List Nat) : PuF D1 67 [.str s, .str p] (.bool (decide (s.take p.length = p))) := by
  refine PuF.tidy rfl rfl rfl rfl rfl fun h hf => ?_
  repeat' (first
      | refine W.seq ?_ | refine W.region ?_ | refine WS.nil ?_ | refine W.skip ?_ | refine W.block ?_ | refine W.ret ?_ | refine W.exit ?_ | refine W.no rfl rfl ?_ | refine W.fork rfl (fun _ => ?_) (fun _ => ?_) | refine WS.guardT rfl ?_ | refine WS.guardF rfl rfl rfl ?_ | refine WS.guardK rfl (fun _ => ?_) (fun _ => ?_) | refine WS.near rfl o_mov rfl ?_ | refine WS.near rfl o_pickT rfl ?_ | refine WS.near rfl o_pickF rfl ?_ | refine WS.near rfl o_lss rfl ?_ | refine WS.near rfl o_gtr rfl ?_ | refine WS.near rfl o_geq rfl ?_ | refine WS.near rfl o_eql rfl ?_ | refine WS.near rfl o_seql rfl ?_ | refine WS.near rfl o_not rfl ?_ | refine WS.near rfl o_lenS rfl ?_ | refine WS.near rfl o_lenB rfl ?_ | refine WS.near rfl o_lenL rfl ?_ | refine WS.near rfl o_s2b rfl ?_ | refine WS.near rfl o_lenB rfl ?_ | refine WS.near rfl o_loadF rfl ?_ | refine WS.near rfl o_lenL rfl ?_
      | refine WS.near rfl (o_quo (by omega) (by omega) (by omega)) rfl ?_ | refine WS.near rfl (o_mul (by omega) (by omega)) rfl ?_ | refine WS.near rfl (o_add (by omega) (by omega)) rfl ?_ | refine WS.near rfl (o_sub (by omega) (by omega)) rfl ?_ | refine WS.near rfl (o_sub8 (by omega) (by omega)) rfl ?_ | refine WS.near rfl (o_conv (by omega) (by omega)) rfl ?_ | refine WS.near rfl (o_index 0 rfl (by omega)) rfl ?_ | refine WS.near rfl (o_iaddrB _ rfl (by omega)) rfl ?_ | refine WS.near rfl (o_iaddrL _ rfl (by omega)) rfl ?_ | refine WS.near rfl (o_sliceT _ rfl (by omega)) rfl ?_)
  · exact ⟨_, rfl, fin_bool rfl⟩
  · rename_i hlt
    refine ⟨_, rfl, fin_bool (bfalse fun hh => ?_)⟩
    have := congrArg List.length hh
    simp only [List.length_take] at this
    omega
theorem pre_pu (s p : List Nat) : PuF D1 46 [.str s, .str p] (.bool (decide (s.take p.length = p))) := by
  refine PuF.tidy rfl rfl rfl rfl rfl fun h hf => ?_
  repeat' (first
      | refine W.seq ?_ | refine W.region ?_ | refine WS.nil ?_ | refine W.skip ?_ | refine W.block ?_ | refine W.ret ?_ | refine W.exit ?_ | refine W.no rfl rfl ?_ | refine W.fork rfl (fun _ => ?_) (fun _ => ?_) | refine WS.guardT rfl ?_ | refine WS.guardF rfl rfl rfl ?_ | refine WS.guardK rfl (fun _ => ?_) (fun _ => ?_) | refine WS.near rfl o_mov rfl ?_ | refine WS.near rfl o_pickT rfl ?_ | refine WS.near rfl o_pickF rfl ?_ | refine WS.near rfl o_lss rfl ?_ | refine WS.near rfl o_gtr rfl ?_ | refine WS.near rfl o_geq rfl ?_ | refine WS.near rfl o_eql rfl ?_ | refine WS.near rfl o_seql rfl ?_ | refine WS.near rfl o_not rfl ?_ | refine WS.near rfl o_lenS rfl ?_ | refine WS.near rfl o_lenB rfl ?_ | refine WS.near rfl o_lenL rfl ?_ | refine WS.near rfl o_s2b rfl ?_ | refine WS.near rfl o_lenB rfl ?_ | refine WS.near rfl o_loadF rfl ?_ | refine WS.near rfl o_lenL rfl ?_
      | refine WS.near rfl (o_quo (by omega) (by omega) (by omega)) rfl ?_ | refine WS.near rfl (o_mul (by omega) (by omega)) rfl ?_ | refine WS.near rfl (o_add (by omega) (by omega)) rfl ?_ | refine WS.near rfl (o_sub (by omega) (by omega)) rfl ?_ | refine WS.near rfl (o_sub8 (by omega) (by omega)) rfl ?_ | refine WS.near rfl (o_conv (by omega) (by omega)) rfl ?_ | refine WS.near rfl (o_index 0 rfl (by omega)) rfl ?_ | refine WS.near rfl (o_iaddrB _ rfl (by omega)) rfl ?_ | refine WS.near rfl (o_iaddrL _ rfl (by omega)) rfl ?_ | refine WS.near rfl (o_sliceT _ rfl (by omega)) rfl ?_)
  refine WS.puF hf rfl rfl (pre1_pu s p) ?_
  repeat' (first
      | refine W.seq ?_ | refine W.region ?_ | refine WS.nil ?_ | refine W.skip ?_ | refine W.block ?_ | refine W.ret ?_ | refine W.exit ?_ | refine W.no rfl rfl ?_ | refine W.fork rfl (fun _ => ?_) (fun _ => ?_) | refine WS.guardT rfl ?_ | refine WS.guardF rfl rfl rfl ?_ | refine WS.guardK rfl (fun _ => ?_) (fun _ => ?_) | refine WS.near rfl o_mov rfl ?_ | refine WS.near rfl o_pickT rfl ?_ | refine WS.near rfl o_pickF rfl ?_ | refine WS.near rfl o_lss rfl ?_ | refine WS.near rfl o_gtr rfl ?_ | refine WS.near rfl o_geq rfl ?_ | refine WS.near rfl o_eql rfl ?_ | refine WS.near rfl o_seql rfl ?_ | refine WS.near rfl o_not rfl ?_ | refine WS.near rfl o_lenS rfl ?_ | refine WS.near rfl o_lenB rfl ?_ | refine WS.near rfl o_lenL rfl ?_ | refine WS.near rfl o_s2b rfl ?_ | refine WS.near rfl o_lenB rfl ?_ | refine WS.near rfl o_loadF rfl ?_ | refine WS.near rfl o_lenL rfl ?_
      | refine WS.near rfl (o_quo (by omega) (by omega) (by omega)) rfl ?_ | refine WS.near rfl (o_mul (by omega) (by omega)) rfl ?_ | refine WS.near rfl (o_add (by omega) (by omega)) rfl ?_ | refine WS.near rfl (o_sub (by omega) (by omega)) rfl ?_ | refine WS.near rfl (o_sub8 (by omega) (by omega)) rfl ?_ | refine WS.near rfl (o_conv (by omega) (by omega)) rfl ?_ | refine WS.near rfl (o_index 0 rfl (by omega)) rfl ?_ | refine WS.near rfl (o_iaddrB _ rfl (by omega)) rfl ?_ | refine WS.near rfl (o_iaddrL _ rfl (by omega)) rfl ?_ | refine WS.near rfl (o_sliceT _ rfl (by omega)) rfl ?_)
  exact ⟨_, rfl, fin_bool rfl⟩

/-- the sign that a text begins with -/
def signOf (s : List Nat) : List Nat := (signList.find? fun x => decide (s.take x.length = x)).getD []

theorem find_drop {l : List (List Nat)} {i : Nat} (hi : i < l.length) (p : List Nat → Bool) : (l.drop i).find? p = if p (strAt l i) then some (strAt l i) else (l.drop (i + 1)).find? p := by
  have : l.drop i = strAt l i :: l.drop (i + 1) := by rw [List.drop_eq_getElem_cons hi]; simp [strAt, List.getD, hi]
  rw [this, List.find?_cons]
  cases p (strAt l i) <;> rfl

theorem sign_pu (s : List Nat) : PuF D1 52 [.str s] (.str (signOf s)) := by
  have hL := signs_len
  refine PuF.tidy rfl rfl rfl rfl rfl fun h hf => ?_
  repeat' (first
      | refine W.seq ?_ | refine W.region ?_ | refine WS.nil ?_ | refine W.skip ?_ | refine W.block ?_ | refine W.ret ?_ | refine W.exit ?_ | refine W.no rfl rfl ?_ | refine W.fork rfl (fun _ => ?_) (fun _ => ?_) | refine WS.guardT rfl ?_ | refine WS.guardF rfl rfl rfl ?_ | refine WS.guardK rfl (fun _ => ?_) (fun _ => ?_) | refine WS.near rfl o_mov rfl ?_ | refine WS.near rfl o_pickT rfl ?_ | refine WS.near rfl o_pickF rfl ?_ | refine WS.near rfl o_lss rfl ?_ | refine WS.near rfl o_gtr rfl ?_ | refine WS.near rfl o_geq rfl ?_ | refine WS.near rfl o_eql rfl ?_ | refine WS.near rfl o_seql rfl ?_ | refine WS.near rfl o_not rfl ?_ | refine WS.near rfl o_lenS rfl ?_ | refine WS.near rfl o_lenB rfl ?_ | refine WS.near rfl o_lenL rfl ?_ | refine WS.near rfl o_s2b rfl ?_ | refine WS.near rfl o_lenB rfl ?_ | refine WS.near rfl o_loadF rfl ?_ | refine WS.near rfl o_lenL rfl ?_
      | refine WS.near rfl (o_quo (by omega) (by omega) (by omega)) rfl ?_ | refine WS.near rfl (o_mul (by omega) (by omega)) rfl ?_ | refine WS.near rfl (o_add (by omega) (by omega)) rfl ?_ | refine WS.near rfl (o_sub (by omega) (by omega)) rfl ?_ | refine WS.near rfl (o_sub8 (by omega) (by omega)) rfl ?_ | refine WS.near rfl (o_conv (by omega) (by omega)) rfl ?_ | refine WS.near rfl (o_index 0 rfl (by omega)) rfl ?_ | refine WS.near rfl (o_iaddrB _ rfl (by omega)) rfl ?_ | refine WS.near rfl (o_iaddrL _ rfl (by omega)) rfl ?_ | refine WS.near rfl (o_sliceT _ rfl (by omega)) rfl ?_)
  refine WS.puF hf rfl rfl fields_signs ?_
  repeat' (first
      | refine W.seq ?_ | refine W.region ?_ | refine WS.nil ?_ | refine W.skip ?_ | refine W.block ?_ | refine W.ret ?_ | refine W.exit ?_ | refine W.no rfl rfl ?_ | refine W.fork rfl (fun _ => ?_) (fun _ => ?_) | refine WS.guardT rfl ?_ | refine WS.guardF rfl rfl rfl ?_ | refine WS.guardK rfl (fun _ => ?_) (fun _ => ?_) | refine WS.near rfl o_mov rfl ?_ | refine WS.near rfl o_pickT rfl ?_ | refine WS.near rfl o_pickF rfl ?_ | refine WS.near rfl o_lss rfl ?_ | refine WS.near rfl o_gtr rfl ?_ | refine WS.near rfl o_geq rfl ?_ | refine WS.near rfl o_eql rfl ?_ | refine WS.near rfl o_seql rfl ?_ | refine WS.near rfl o_not rfl ?_ | refine WS.near rfl o_lenS rfl ?_ | refine WS.near rfl o_lenB rfl ?_ | refine WS.near rfl o_lenL rfl ?_ | refine WS.near rfl o_s2b rfl ?_ | refine WS.near rfl o_lenB rfl ?_ | refine WS.near rfl o_loadF rfl ?_ | refine WS.near rfl o_lenL rfl ?_
      | refine WS.near rfl (o_quo (by omega) (by omega) (by omega)) rfl ?_ | refine WS.near rfl (o_mul (by omega) (by omega)) rfl ?_ | refine WS.near rfl (o_add (by omega) (by omega)) rfl ?_ | refine WS.near rfl (o_sub (by omega) (by omega)) rfl ?_ | refine WS.near rfl (o_sub8 (by omega) (by omega)) rfl ?_ | refine WS.near rfl (o_conv (by omega) (by omega)) rfl ?_ | refine WS.near rfl (o_index 0 rfl (by omega)) rfl ?_ | refine WS.near rfl (o_iaddrB _ rfl (by omega)) rfl ?_ | refine WS.near rfl (o_iaddrL _ rfl (by omega)) rfl ?_ | refine WS.near rfl (o_sliceT _ rfl (by omega)) rfl ?_)
  refine W.loop (fun i : Nat => [(0, .str s), (3, .fsl (signList.map V.str) none), (4, .int .i64 signList.length), (5, .int .i64 i)]) (fun _ => hp h []) (fun i => i ≤ signList.length ∧ ((signList.drop i).find? fun x => decide (s.take x.length = x)).getD [] = signOf s)
    (fun i => signList.length - i) 0 ⟨by omega, rfl⟩ ⟨rfl, rfl, rfl, rfl, trivial⟩ rfl ?_
  rintro i ⟨hi, hr⟩
  repeat' (first
      | refine W.seq ?_ | refine W.region ?_ | refine WS.nil ?_ | refine W.skip ?_ | refine W.block ?_ | refine W.ret ?_ | refine W.exit ?_ | refine W.no rfl rfl ?_ | refine W.fork rfl (fun _ => ?_) (fun _ => ?_) | refine WS.guardT rfl ?_ | refine WS.guardF rfl rfl rfl ?_ | refine WS.guardK rfl (fun _ => ?_) (fun _ => ?_) | refine WS.near rfl o_mov rfl ?_ | refine WS.near rfl o_pickT rfl ?_ | refine WS.near rfl o_pickF rfl ?_ | refine WS.near rfl o_lss rfl ?_ | refine WS.near rfl o_gtr rfl ?_ | refine WS.near rfl o_geq rfl ?_ | refine WS.near rfl o_eql rfl ?_ | refine WS.near rfl o_seql rfl ?_ | refine WS.near rfl o_not rfl ?_ | refine WS.near rfl o_lenS rfl ?_ | refine WS.near rfl o_lenB rfl ?_ | refine WS.near rfl o_lenL rfl ?_ | refine WS.near rfl o_s2b rfl ?_ | refine WS.near rfl o_lenB rfl ?_ | refine WS.near rfl o_loadF rfl ?_ | refine WS.near rfl o_lenL rfl ?_
      | refine WS.near rfl (o_quo (by omega) (by omega) (by omega)) rfl ?_ | refine WS.near rfl (o_mul (by omega) (by omega)) rfl ?_ | refine WS.near rfl (o_add (by omega) (by omega)) rfl ?_ | refine WS.near rfl (o_sub (by omega) (by omega)) rfl ?_ | refine WS.near rfl (o_sub8 (by omega) (by omega)) rfl ?_ | refine WS.near rfl (o_conv (by omega) (by omega)) rfl ?_ | refine WS.near rfl (o_index 0 rfl (by omega)) rfl ?_ | refine WS.near rfl (o_iaddrB _ rfl (by omega)) rfl ?_ | refine WS.near rfl (o_iaddrL _ rfl (by omega)) rfl ?_ | refine WS.near rfl (o_sliceT _ rfl (by omega)) rfl ?_)
  · rename_i hlt
    rw [find_drop (by omega)] at hr
    refine WS.puF hf rfl rfl (pre_pu _ _) ?_
    repeat' (first
        | refine W.seq ?_ | refine W.region ?_ | refine WS.nil ?_ | refine W.skip ?_ | refine W.block ?_ | refine W.ret ?_ | refine W.exit ?_ | refine W.no rfl rfl ?_ | refine W.fork rfl (fun _ => ?_) (fun _ => ?_) | refine WS.guardT rfl ?_ | refine WS.guardF rfl rfl rfl ?_ | refine WS.guardK rfl (fun _ => ?_) (fun _ => ?_) | refine WS.near rfl o_mov rfl ?_ | refine WS.near rfl o_pickT rfl ?_ | refine WS.near rfl o_pickF rfl ?_ | refine WS.near rfl o_lss rfl ?_ | refine WS.near rfl o_gtr rfl ?_ | refine WS.near rfl o_geq rfl ?_ | refine WS.near rfl o_eql rfl ?_ | refine WS.near rfl o_seql rfl ?_ | refine WS.near rfl o_not rfl ?_ | refine WS.near rfl o_lenS rfl ?_ | refine WS.near rfl o_lenB rfl ?_ | refine WS.near rfl o_lenL rfl ?_ | refine WS.near rfl o_s2b rfl ?_ | refine WS.near rfl o_lenB rfl ?_ | refine WS.near rfl o_loadF rfl ?_ | refine WS.near rfl o_lenL rfl ?_
        | refine WS.near rfl (o_quo (by omega) (by omega) (by omega)) rfl ?_ | refine WS.near rfl (o_mul (by omega) (by omega)) rfl ?_ | refine WS.near rfl (o_add (by omega) (by omega)) rfl ?_ | refine WS.near rfl (o_sub (by omega) (by omega)) rfl ?_ | refine WS.near rfl (o_sub8 (by omega) (by omega)) rfl ?_ | refine WS.near rfl (o_conv (by omega) (by omega)) rfl ?_ | refine WS.near rfl (o_index 0 rfl (by omega)) rfl ?_ | refine WS.near rfl (o_iaddrB _ rfl (by omega)) rfl ?_ | refine WS.near rfl (o_iaddrL _ rfl (by omega)) rfl ?_ | refine WS.near rfl (o_sliceT _ rfl (by omega)) rfl ?_)
    · rename_i hp1
      rw [if_pos (by simpa using hp1)] at hr
      exact ⟨_, rfl, fin_str hr⟩
    · rename_i hp1
      rw [if_neg (by simpa using hp1)] at hr
      exact ⟨i + 1, ⟨by omega, hr⟩, (by show signList.length - (i + 1) < signList.length - i; omega), ⟨rfl, rfl, rfl, rfl, trivial⟩, rfl⟩
  · rename_i hge
    rw [List.drop_eq_nil_of_le (by omega)] at hr
    exact ⟨_, rfl, fin_str hr⟩

/-- a number's digits, one more -/
def numStep (n c : Nat) : Option Nat := if isDigit c ∧ n ≤ (9223372036854775807 - (c - 48)) / 10 then some (10 * n + (c - 48)) else none
def numGo : Nat → List Nat → Option Nat
  | n, [] => some n
  | n, c :: r => (numStep n c).bind fun m => numGo m r
def numF (s : List Nat) : Option Nat := if 1 < s.length ∧ at' s 0 = 48 then none else numGo 0 s
def numV (o : Option Nat) : V := match o with
  | some n => .tup [.int .i64 n, .bool true]
  | none => .tup [.int .i64 0, .bool false]

theorem numGo_at {s : List Nat} {i n : Nat} (hi : i < s.length) : numGo n (s.drop i) = (numStep n (at' s i)).bind fun m => numGo m (s.drop (i + 1)) := by
  have : s.drop i = at' s i :: s.drop (i + 1) := by rw [List.drop_eq_getElem_cons hi]; simp [at', List.getD, hi]
  rw [this, numGo]

theorem fin_num {h1 : Heap} {bs : List (Option (List V))} {o : Option Nat} {n : Int} {b : Bool} (e : numV o = .tup [.int .i64 n, .bool b]) : fin h1 (numV o) (.tup [.int .i64 n, .bool b]) (hp h1 bs) := ⟨bs, rfl, by rw [e]; rfl⟩

theorem number_pu (s : List Nat) (hs : s.length < 2 ^ 60) : PuF D1 51 [.str s] (numV (numF s)) := by
  refine PuF.tidy rfl rfl rfl rfl rfl fun h hf => ?_
  repeat' (first
      | refine W.seq ?_ | refine W.region ?_ | refine WS.nil ?_ | refine W.skip ?_ | refine W.block ?_ | refine W.ret ?_ | refine W.exit ?_ | refine W.no rfl rfl ?_ | refine W.fork rfl (fun _ => ?_) (fun _ => ?_) | refine WS.guardT rfl ?_ | refine WS.guardF rfl rfl rfl ?_ | refine WS.guardK rfl (fun _ => ?_) (fun _ => ?_) | refine WS.near rfl o_mov rfl ?_ | refine WS.near rfl o_pickT rfl ?_ | refine WS.near rfl o_pickF rfl ?_ | refine WS.near rfl o_lss rfl ?_ | refine WS.near rfl o_gtr rfl ?_ | refine WS.near rfl o_geq rfl ?_ | refine WS.near rfl o_eql rfl ?_ | refine WS.near rfl o_seql rfl ?_ | refine WS.near rfl o_not rfl ?_ | refine WS.near rfl o_lenS rfl ?_ | refine WS.near rfl o_lenB rfl ?_ | refine WS.near rfl o_lenL rfl ?_ | refine WS.near rfl o_s2b rfl ?_ | refine WS.near rfl o_lenB rfl ?_ | refine WS.near rfl o_loadF rfl ?_ | refine WS.near rfl o_lenL rfl ?_
      | refine WS.near rfl (o_quo (by omega) (by omega) (by omega)) rfl ?_ | refine WS.near rfl (o_mul (by omega) (by omega)) rfl ?_ | refine WS.near rfl (o_add (by omega) (by omega)) rfl ?_ | refine WS.near rfl (o_sub (by omega) (by omega)) rfl ?_ | refine WS.near rfl (o_sub8 (by omega) (by omega)) rfl ?_ | refine WS.near rfl (o_conv (by omega) (by omega)) rfl ?_ | refine WS.near rfl (o_index 0 rfl (by omega)) rfl ?_ | refine WS.near rfl (o_iaddrB _ rfl (by omega)) rfl ?_ | refine WS.near rfl (o_iaddrL _ rfl (by omega)) rfl ?_ | refine WS.near rfl (o_sliceT _ rfl (by omega)) rfl ?_)
  · rename_i h1 h2
    have : numF s = none := by unfold numF; rw [if_pos ⟨by omega, by omega⟩]
    rw [this]
    exact ⟨_, rfl, fin_num rfl⟩
  all_goals
    have h0 : numF s = numGo 0 s := by unfold numF; rw [if_neg (by omega)]
    rw [h0]
    refine W.loop (fun a : Nat × Nat => [(0, .str s), (3, .int .i64 a.2), (11, .fsl (s.map fun (b : Nat) => V.int .u8 (b : Int)) none), (12, .int .i64 s.length), (13, .int .i64 a.1)]) (fun _ => hp h [])
      (fun a => a.1 ≤ s.length ∧ a.2 < 9223372036854775808 ∧ numGo a.2 (s.drop a.1) = numGo 0 s) (fun a => s.length - a.1) (0, 0) ⟨by show 0 ≤ s.length; omega, by decide, rfl⟩ ⟨rfl, rfl, rfl, rfl, rfl, trivial⟩ rfl ?_
    rintro ⟨i, n⟩ ⟨hi, hn, hr⟩
    simp only at hi hn hr ⊢
    repeat' (first
        | refine W.seq ?_ | refine W.region ?_ | refine WS.nil ?_ | refine W.skip ?_ | refine W.block ?_ | refine W.ret ?_ | refine W.exit ?_ | refine W.no rfl rfl ?_ | refine W.fork rfl (fun _ => ?_) (fun _ => ?_) | refine WS.guardT rfl ?_ | refine WS.guardF rfl rfl rfl ?_ | refine WS.guardK rfl (fun _ => ?_) (fun _ => ?_) | refine WS.near rfl o_mov rfl ?_ | refine WS.near rfl o_pickT rfl ?_ | refine WS.near rfl o_pickF rfl ?_ | refine WS.near rfl o_lss rfl ?_ | refine WS.near rfl o_gtr rfl ?_ | refine WS.near rfl o_geq rfl ?_ | refine WS.near rfl o_eql rfl ?_ | refine WS.near rfl o_seql rfl ?_ | refine WS.near rfl o_not rfl ?_ | refine WS.near rfl o_lenS rfl ?_ | refine WS.near rfl o_lenB rfl ?_ | refine WS.near rfl o_lenL rfl ?_ | refine WS.near rfl o_s2b rfl ?_ | refine WS.near rfl o_lenB rfl ?_ | refine WS.near rfl o_loadF rfl ?_ | refine WS.near rfl o_lenL rfl ?_
        | refine WS.near rfl (o_quo (by omega) (by omega) (by omega)) rfl ?_ | refine WS.near rfl (o_mul (by omega) (by omega)) rfl ?_ | refine WS.near rfl (o_add (by omega) (by omega)) rfl ?_ | refine WS.near rfl (o_sub (by omega) (by omega)) rfl ?_ | refine WS.near rfl (o_sub8 (by omega) (by omega)) rfl ?_ | refine WS.near rfl (o_conv (by omega) (by omega)) rfl ?_ | refine WS.near rfl (o_index 0 rfl (by omega)) rfl ?_ | refine WS.near rfl (o_iaddrB _ rfl (by omega)) rfl ?_ | refine WS.near rfl (o_iaddrL _ rfl (by omega)) rfl ?_ | refine WS.near rfl (o_sliceT _ rfl (by omega)) rfl ?_)
    · rename_i hlt
      rw [numGo_at (by omega)] at hr
      refine WS.puF hf rfl rfl (digit_pu _) ?_
      repeat' (first
          | refine W.seq ?_ | refine W.region ?_ | refine WS.nil ?_ | refine W.skip ?_ | refine W.block ?_ | refine W.ret ?_ | refine W.exit ?_ | refine W.no rfl rfl ?_ | refine W.fork rfl (fun _ => ?_) (fun _ => ?_) | refine WS.guardT rfl ?_ | refine WS.guardF rfl rfl rfl ?_ | refine WS.guardK rfl (fun _ => ?_) (fun _ => ?_) | refine WS.near rfl o_mov rfl ?_ | refine WS.near rfl o_pickT rfl ?_ | refine WS.near rfl o_pickF rfl ?_ | refine WS.near rfl o_lss rfl ?_ | refine WS.near rfl o_gtr rfl ?_ | refine WS.near rfl o_geq rfl ?_ | refine WS.near rfl o_eql rfl ?_ | refine WS.near rfl o_seql rfl ?_ | refine WS.near rfl o_not rfl ?_ | refine WS.near rfl o_lenS rfl ?_ | refine WS.near rfl o_lenB rfl ?_ | refine WS.near rfl o_lenL rfl ?_ | refine WS.near rfl o_s2b rfl ?_ | refine WS.near rfl o_lenB rfl ?_ | refine WS.near rfl o_loadF rfl ?_ | refine WS.near rfl o_lenL rfl ?_
          | refine WS.near rfl (o_quo (by omega) (by omega) (by omega)) rfl ?_ | refine WS.near rfl (o_mul (by omega) (by omega)) rfl ?_ | refine WS.near rfl (o_add (by omega) (by omega)) rfl ?_ | refine WS.near rfl (o_sub (by omega) (by omega)) rfl ?_ | refine WS.near rfl (o_sub8 (by omega) (by omega)) rfl ?_ | refine WS.near rfl (o_conv (by omega) (by omega)) rfl ?_ | refine WS.near rfl (o_index 0 rfl (by omega)) rfl ?_ | refine WS.near rfl (o_iaddrB _ rfl (by omega)) rfl ?_ | refine WS.near rfl (o_iaddrL _ rfl (by omega)) rfl ?_ | refine WS.near rfl (o_sliceT _ rfl (by omega)) rfl ?_)
      · rename_i hnd
        rw [← hr, show numStep n (at' s i) = none from if_neg fun hh => hnd hh.1]
        exact ⟨_, rfl, fin_num rfl⟩
      · rename_i hd
        have hd1 : isDigit (at' s i) := Decidable.not_not.1 hd
        obtain ⟨d1, d2⟩ := hd1
        repeat' (first
            | refine W.seq ?_ | refine W.region ?_ | refine WS.nil ?_ | refine W.skip ?_ | refine W.block ?_ | refine W.ret ?_ | refine W.exit ?_ | refine W.no rfl rfl ?_ | refine W.fork rfl (fun _ => ?_) (fun _ => ?_) | refine WS.guardT rfl ?_ | refine WS.guardF rfl rfl rfl ?_ | refine WS.guardK rfl (fun _ => ?_) (fun _ => ?_) | refine WS.near rfl o_mov rfl ?_ | refine WS.near rfl o_pickT rfl ?_ | refine WS.near rfl o_pickF rfl ?_ | refine WS.near rfl o_lss rfl ?_ | refine WS.near rfl o_gtr rfl ?_ | refine WS.near rfl o_geq rfl ?_ | refine WS.near rfl o_eql rfl ?_ | refine WS.near rfl o_seql rfl ?_ | refine WS.near rfl o_not rfl ?_ | refine WS.near rfl o_lenS rfl ?_ | refine WS.near rfl o_lenB rfl ?_ | refine WS.near rfl o_lenL rfl ?_ | refine WS.near rfl o_s2b rfl ?_ | refine WS.near rfl o_lenB rfl ?_ | refine WS.near rfl o_loadF rfl ?_ | refine WS.near rfl o_lenL rfl ?_
            | refine WS.near rfl (o_quo (by omega) (by omega) (by omega)) rfl ?_ | refine WS.near rfl (o_mul (by omega) (by omega)) rfl ?_ | refine WS.near rfl (o_add (by omega) (by omega)) rfl ?_ | refine WS.near rfl (o_sub (by omega) (by omega)) rfl ?_ | refine WS.near rfl (o_sub8 (by omega) (by omega)) rfl ?_ | refine WS.near rfl (o_conv (by omega) (by omega)) rfl ?_ | refine WS.near rfl (o_index 0 rfl (by omega)) rfl ?_ | refine WS.near rfl (o_iaddrB _ rfl (by omega)) rfl ?_ | refine WS.near rfl (o_iaddrL _ rfl (by omega)) rfl ?_ | refine WS.near rfl (o_sliceT _ rfl (by omega)) rfl ?_)
        · rename_i hbig
          rw [← hr, show numStep n (at' s i) = none from if_neg fun hh => by have := hh.2; omega]
          exact ⟨_, rfl, fin_num rfl⟩
        · rename_i hbig
          have hs1 : numStep n (at' s i) = some (10 * n + (at' s i - 48)) := if_pos ⟨⟨d1, d2⟩, by omega⟩
          rw [hs1] at hr
          refine ⟨(i + 1, 10 * n + (at' s i - 48)), ⟨by show i + 1 ≤ s.length; omega, by show 10 * n + (at' s i - 48) < _; omega, hr⟩, (by show s.length - (i + 1) < s.length - i; omega), ⟨rfl, ?_, rfl, rfl, rfl, trivial⟩, rfl⟩
          have e1 : (10 * (n : Int) + ((at' s i : Nat) - 48 : Int)) = ((10 * n + (at' s i - 48) : Nat) : Int) := by omega
          exact congrArg (fun z => some (V.int .i64 z)) e1
    · rename_i hge
      rw [List.drop_eq_nil_of_le (by omega)] at hr
      rw [← hr]
      exact ⟨_, rfl, fin_num rfl⟩
end Go.Proofs.YthclejjieggdkaaDoor.CodesL
