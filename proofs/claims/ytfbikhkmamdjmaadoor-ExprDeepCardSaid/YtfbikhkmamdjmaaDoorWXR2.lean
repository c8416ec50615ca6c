/- The lexer, part 2. -/
import Derived.Test.YtfbikhkmamdjmaaDoorWXR1
namespace Go.Proofs.YtfbikhkmamdjmaaDoor.CodesX
open Go Go.Ab
set_option maxHeartbeats 800000
set_option maxRecDepth 20000
set_option maxHeartbeats 800000
set_option maxRecDepth 20000
def bV (s : List Nat) : V := .fsl (s.map fun (b : Nat) => V.int .u8 (b : Int)) none
theorem rdigit_pu (c : Nat) : PuF D1 102 [.int .u8 c] (.bool (decide (isDigit c))) := by
  refine PuF.tidy rfl rfl rfl rfl rfl fun h hf => ?_
  repeat' (first
      | refine W.seq ?_ | refine W.region ?_ | refine WS.nil ?_ | refine W.ret ?_ | refine WS.guardT rfl ?_ | refine WS.guardF rfl rfl rfl ?_ | refine WS.guardK rfl (fun _ => ?_) (fun _ => ?_) | refine WS.near rfl o_mov rfl ?_ | refine WS.near rfl o_pickT rfl ?_ | refine WS.near rfl o_pickF rfl ?_ | refine WS.near rfl o_leq rfl ?_ | refine WS.near rfl o_geq rfl ?_ | fail)
  all_goals
    refine ⟨_, rfl, fin_bool ?_⟩
    first
      | exact btrue (by unfold isDigit; omega)
      | exact bfalse (by unfold isDigit; omega)
      | exact bsame (by unfold isDigit; omega)
theorem rletter_pu (c : Nat) : PuF D1 101 [.int .u8 c] (.bool (decide (goes c))) := by
  refine PuF.tidy rfl rfl rfl rfl rfl fun h hf => ?_
  repeat' (first
      | refine W.seq ?_ | refine W.region ?_ | refine WS.nil ?_ | refine W.ret ?_ | refine WS.guardT rfl ?_ | refine WS.guardF rfl rfl rfl ?_ | refine WS.guardV rfl rfl ?_ | refine WS.guardK rfl (fun _ => ?_) (fun _ => ?_) | refine WS.near rfl o_mov rfl ?_ | refine WS.near rfl o_pickT rfl ?_ | refine WS.near rfl o_pickF rfl ?_ | refine WS.near rfl o_leq rfl ?_ | refine WS.near rfl o_geq rfl ?_ | fail)
  all_goals first
    | (refine ⟨_, rfl, fin_bool ?_⟩
       first
      | exact btrue (by unfold goes isDigit isLetter at *; omega)
      | exact bfalse (by unfold goes isDigit isLetter at *; omega)
      | exact bsame (by unfold goes isDigit isLetter at *; omega))
    | skip
  all_goals
    refine WS.puF hf rfl rfl (rdigit_pu _) ?_
    repeat' (first
        | refine WS.nil ?_ | refine W.ret ?_ | refine WS.guardT rfl ?_ | refine WS.guardF rfl rfl rfl ?_ | refine WS.guardK rfl (fun _ => ?_) (fun _ => ?_) | refine WS.near rfl o_pickT rfl ?_ | refine WS.near rfl o_pickF rfl ?_ | refine WS.near rfl o_eql rfl ?_ | fail)
    all_goals
      refine ⟨_, rfl, fin_bool ?_⟩
      first
      | exact btrue (by unfold goes isDigit isLetter at *; omega)
      | exact bfalse (by unfold goes isDigit isLetter at *; omega)
      | exact bsame (by unfold goes isDigit isLetter at *; omega)
theorem take_drop_at {s x : List Nat} {i : Nat} (_ : i + x.length ≤ s.length) : (s.take (i + x.length)).drop i = (s.drop i).take x.length := by
  rw [List.drop_take]; congr 1; omega
theorem begins_pu (s x : List Nat) (i : Nat) (hs : Small s) (hl : s.length < 2 ^ 60) (hx : x.length < 2 ^ 60) (hi : i ≤ s.length) : PuF D1 100 [bV s, .int .i64 i, .str x] (.bool (decide ((s.drop i).take x.length = x))) := by
  refine PuF.tidy rfl rfl rfl rfl rfl fun h hf => ?_
  have hdl : (s.drop i).length = s.length - i := List.length_drop
  unfold bV
  repeat' (first
      | refine W.seq ?_ | refine W.region ?_ | refine WS.nil ?_ | refine W.ret ?_ | refine WS.guardT rfl ?_ | refine WS.guardF rfl rfl rfl ?_ | refine WS.guardK rfl (fun _ => ?_) (fun _ => ?_) | refine WS.near rfl o_mov rfl ?_ | refine WS.near rfl o_pickF rfl ?_ | refine WS.near rfl o_geq rfl ?_ | refine WS.near rfl o_lenS rfl ?_ | refine WS.near rfl o_lenB rfl ?_ | refine WS.near rfl o_lenB rfl ?_ | refine WS.near rfl (o_add (by omega) (by omega)) rfl ?_ | refine WS.near rfl (o_sub (by omega) (by omega)) rfl ?_ | fail)
  · rename_i hge
    refine WS.near rfl (o_sliceB i (i + x.length) rfl rfl (by omega) (by omega)) rfl ?_
    repeat' (first
        | refine WS.guardT rfl ?_ | fail)
    refine WS.near rfl (o_b2sB (fun b hb => hs b (List.mem_of_mem_take (List.mem_of_mem_drop hb)))) rfl ?_
    repeat' (first
        | refine WS.nil ?_ | refine W.ret ?_ | refine WS.guardT rfl ?_ | refine WS.near rfl o_pickT rfl ?_ | refine WS.near rfl o_seql rfl ?_ | fail)
    rw [take_drop_at (by omega)]
    exact ⟨_, rfl, fin_bool rfl⟩
  · rename_i hlt
    refine ⟨_, rfl, fin_bool (bfalse fun hh => ?_)⟩
    have := congrArg List.length hh
    simp only [List.length_take] at this
    omega
theorem drop_at {s : List Nat} {i : Nat} (hi : i < s.length) : s.drop i = at' s i :: s.drop (i + 1) := by rw [List.drop_eq_getElem_cons hi]; simp [at', List.getD, hi]
theorem skip_at {s : List Nat} {i : Nat} (hi : i < s.length) (hb : isBlank (at' s i)) : skipF (s.drop i) = skipF (s.drop (i + 1)) + 1 := by
  rw [drop_at hi]; simp [skipF, skipB, hb]
theorem skip_here {s : List Nat} {i : Nat} (hi : i < s.length) (hb : ¬ isBlank (at' s i)) (hc : ¬ (s.drop i).take 2 = [47, 47]) : skipF (s.drop i) = 0 := by
  have e : trimL (s.drop i) = s.drop i := by rw [drop_at hi]; exact trimL_no hb
  have := skip_stop (s := s.drop i) (by rw [e]; exact hc)
  rw [e] at this
  exact this
theorem skip_in {s : List Nat} {i : Nat} (hi : i < s.length) (hc : (s.drop i).take 2 = [47, 47]) : skipF (s.drop i) = skipB true (s.drop i) ∧ at' s i = 47 := by
  rw [drop_at hi] at hc ⊢
  cases hd : s.drop (i + 1) with
  | nil => rw [hd] at hc; simp at hc
  | cons b r =>
    rw [hd] at hc
    simp only [List.take_succ_cons, List.take_zero, List.cons.injEq, and_true] at hc
    obtain ⟨h1, h2⟩ := hc
    have hb : ¬ isBlank 47 := by unfold isBlank; omega
    rw [h1, h2]
    exact ⟨by simp [skipF, skipB, hb], rfl⟩
theorem line_at {s : List Nat} {i : Nat} (hi : i < s.length) : skipB true (s.drop i) = if at' s i = 10 then skipF (s.drop i) else skipB true (s.drop (i + 1)) + 1 := by
  rw [drop_at hi]
  by_cases h : at' s i = 10
  · rw [if_pos h, h]; simp [skipF, skipB, blank10]
  · rw [if_neg h]; simp [skipB, h]
theorem skip_end {s : List Nat} {i : Nat} (hi : s.length ≤ i) (b : Bool) : skipB b (s.drop i) = 0 := by
  rw [List.drop_eq_nil_of_le hi]; cases b <;> rfl
theorem rskip_pu (s : List Nat) (at0 : Nat) (hs : Small s) (hl : s.length < 2 ^ 60) (ha : at0 ≤ s.length) : PuF D1 60 [bV s, .int .i64 at0] (.int .i64 ((at0 + skipF (s.drop at0) : Nat) : Int)) := by
  refine PuF.tidy rfl rfl rfl rfl rfl fun h hf => ?_
  repeat' (first
      | refine W.seq ?_ | refine W.region ?_ | refine WS.nil ?_ | refine W.block ?_ | refine WS.near rfl o_mov rfl ?_ | fail)
  refine W.loop (fun i : Nat => [(0, bV s), (1, .int .i64 i)]) (fun _ => hp h []) (fun i => i ≤ s.length ∧ i + skipF (s.drop i) = at0 + skipF (s.drop at0)) (fun i => s.length - i) at0 ⟨ha, rfl⟩ ⟨rfl, rfl, trivial⟩ rfl ?_
  rintro i ⟨hi, hr⟩
  unfold bV
  repeat' (first
      | refine W.seq ?_ | refine W.region ?_ | refine WS.nil ?_ | refine W.skip ?_ | refine W.block ?_ | refine W.ret ?_ | refine W.exit ?_ | refine W.yes rfl rfl ?_ | refine W.fork rfl (fun _ => ?_) (fun _ => ?_) | refine WS.guardT rfl ?_ | refine WS.guardF rfl rfl rfl ?_ | refine WS.guardK rfl (fun _ => ?_) (fun _ => ?_) | refine WS.near rfl o_mov rfl ?_ | refine WS.near rfl o_pickT rfl ?_ | refine WS.near rfl o_pickF rfl ?_ | refine WS.near rfl o_lss rfl ?_ | refine WS.near rfl o_eql rfl ?_ | refine WS.near rfl o_lenB rfl ?_ | refine WS.near rfl o_lenB rfl ?_ | refine WS.near rfl o_loadF rfl ?_ | refine WS.near rfl (o_add (by omega) (by omega)) rfl ?_ | refine WS.near rfl (o_iaddrB _ rfl (by omega)) rfl ?_ | fail)
  · have e := skip_at (s := s) (i := i) (by omega) (by unfold isBlank; omega)
    exact ⟨i + 1, ⟨by omega, by omega⟩, (by show s.length - (i + 1) < s.length - i; omega), ⟨rfl, rfl, trivial⟩, rfl⟩
  · have e := skip_at (s := s) (i := i) (by omega) (by unfold isBlank; omega)
    exact ⟨i + 1, ⟨by omega, by omega⟩, (by show s.length - (i + 1) < s.length - i; omega), ⟨rfl, rfl, trivial⟩, rfl⟩
  · have e := skip_at (s := s) (i := i) (by omega) (by unfold isBlank; omega)
    exact ⟨i + 1, ⟨by omega, by omega⟩, (by show s.length - (i + 1) < s.length - i; omega), ⟨rfl, rfl, trivial⟩, rfl⟩
  · have e := skip_at (s := s) (i := i) (by omega) (by unfold isBlank; omega)
    exact ⟨i + 1, ⟨by omega, by omega⟩, (by show s.length - (i + 1) < s.length - i; omega), ⟨rfl, rfl, trivial⟩, rfl⟩
  · rename_i n1 n2 n3 n4
    have hnb : ¬ isBlank (at' s i) := by unfold isBlank; omega
    refine WS.puF hf rfl rfl (begins_pu s [47, 47] i hs hl (by decide) (by omega)) ?_
    repeat' (first
        | refine W.seq ?_ | refine W.region ?_ | refine WS.nil ?_ | refine W.block ?_ | refine W.ret ?_ | refine W.fork rfl (fun _ => ?_) (fun _ => ?_) | refine WS.near rfl o_mov rfl ?_ | fail)
    · rename_i hc
      have hc' : (s.drop i).take 2 = [47, 47] := hc
      obtain ⟨e1, e2⟩ := skip_in (by omega) hc'
      refine W.loop (fun j : Nat => [(0, bV s), (1, .int .i64 j)]) (fun _ => hp h []) (fun j => i ≤ j ∧ j ≤ s.length ∧ j + skipB true (s.drop j) = i + skipF (s.drop i)) (fun j => s.length - j) i ⟨Nat.le_refl _, hi, by rw [e1]⟩ ⟨rfl, rfl, trivial⟩ rfl ?_
      rintro j ⟨hij, hj, hrj⟩
      unfold bV
      repeat' (first
          | refine W.seq ?_ | refine W.region ?_ | refine WS.nil ?_ | refine W.skip ?_ | refine W.block ?_ | refine W.exit ?_ | refine W.no rfl rfl ?_ | refine W.fork rfl (fun _ => ?_) (fun _ => ?_) | refine WS.guardT rfl ?_ | refine WS.guardF rfl rfl rfl ?_ | refine WS.guardK rfl (fun _ => ?_) (fun _ => ?_) | refine WS.near rfl o_pickT rfl ?_ | refine WS.near rfl o_pickF rfl ?_ | refine WS.near rfl o_lss rfl ?_ | refine WS.near rfl o_neq rfl ?_ | refine WS.near rfl o_lenB rfl ?_ | refine WS.near rfl o_lenB rfl ?_ | refine WS.near rfl o_loadF rfl ?_ | refine WS.near rfl (o_add (by omega) (by omega)) rfl ?_ | refine WS.near rfl (o_iaddrB _ rfl (by omega)) rfl ?_ | fail)
      · rename_i hlt hne
        rw [line_at (by omega), if_neg (by omega)] at hrj
        exact ⟨j + 1, ⟨by omega, by omega, by omega⟩, (by show s.length - (j + 1) < s.length - j; omega), ⟨rfl, rfl, trivial⟩, rfl⟩
      · rename_i hlt heq
        rw [line_at (by omega), if_pos (by omega)] at hrj
        have hne : j ≠ i := fun hji => by subst hji; omega
        exact ⟨j, ⟨by omega, by omega⟩, (by show s.length - j < s.length - i; omega), ⟨rfl, rfl, trivial⟩, rfl⟩
      · rename_i hge
        rw [skip_end (by omega)] at hrj
        have e3 : skipF (s.drop j) = 0 := skip_end (by omega) false
        exact ⟨j, ⟨by omega, by omega⟩, (by show s.length - j < s.length - i; omega), ⟨rfl, rfl, trivial⟩, rfl⟩
    · rename_i hc
      have e := skip_here (s := s) (i := i) (by omega) hnb hc
      exact ⟨_, rfl, fin_int (by omega)⟩
  · have e : skipF (s.drop i) = 0 := skip_end (by omega) false
    exact ⟨_, rfl, fin_int (by omega)⟩
end Go.Proofs.YtfbikhkmamdjmaaDoor.CodesX
