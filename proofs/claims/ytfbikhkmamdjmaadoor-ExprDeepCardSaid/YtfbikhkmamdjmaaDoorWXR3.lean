/- The lexer, part 3. -/
import Derived.Test.YtfbikhkmamdjmaaDoorWXR2
namespace Go.Proofs.YtfbikhkmamdjmaaDoor.CodesX
open Go Go.Ab
set_option maxHeartbeats 800000
set_option maxRecDepth 20000
set_option maxHeartbeats 800000
set_option maxRecDepth 20000
theorem at_drop (s : List Nat) (p : Nat) : at' (s.drop p) 0 = at' s p := by
  unfold at'
  simp [List.getD, List.getElem?_drop]
open Classical in
/-- the document's answer -/
noncomputable def rtokV (s : List Nat) (p : Nat) : V :=
  if (oneF (s.drop p)).ok then .tup [.agg ((oneF (s.drop p)).cells p), .int .i64 ((p + (oneF (s.drop p)).len : Nat) : Int), .int .i64 0]
  else .tup [.agg (if isLetter (at' s p) then (oneF (s.drop p)).cells p else endTok p), .int .i64 p, .int .i64 2]
theorem signs_ne0 : ∀ x ∈ signList, x.length ≠ 0 := by decide
theorem signs_lt : ∀ x ∈ signList, x.length < 2 ^ 60 := by decide
theorem at_take {s : List Nat} {p r k : Nat} (hk : k < r) : at' ((s.drop p).take r) k = at' s (p + k) := by
  unfold at'
  simp [List.getD, hk, List.getElem?_drop]
theorem numF_no {d : List Nat} (h : numGo 0 d = none) : numF d = none := by unfold numF; split <;> simp [h]
theorem rtok_pu (s : List Nat) (p : Nat) (hs : Small s) (hl : s.length < 2 ^ 60) (hp0 : p < s.length) : PuF D1 61 [bV s, .int .i64 p] (rtokV s p) := by
  have hdl : (s.drop p).length = s.length - p := List.length_drop
  have hrl := runLen_le (s.drop p)
  refine PuF.tidy rfl rfl rfl rfl rfl fun h hf => ?_
  unfold bV
  refine W.seq ?_
  repeat' (first
      | refine W.region ?_ | refine WS.nil ?_ | refine WS.near rfl o_mov rfl ?_ | refine WS.near rfl (o_allocH 0 rfl) rfl ?_ | fail)
  refine W.seq ?_
  repeat' (first
      | refine W.region ?_ | refine WS.nil ?_ | refine WS.near rfl o_loadF rfl ?_ | refine WS.near rfl (o_iaddrB _ rfl (by omega)) rfl ?_ | fail)
  refine W.seq ?_
  repeat' (first
      | refine W.region ?_ | refine WS.nil ?_ | refine WS.near rfl o_mov rfl ?_ | fail)
  refine W.meet (fun _ : Unit => [(0, bV s), (1, .int .i64 p), (2, .mptr (h.next + 0) 0), (5, .int .u8 (at' s p : Nat)), (6, .int .i64 ((p + runLen (s.drop p) : Nat) : Int))]) (fun _ => hp h (badd [] zeroTok)) (fun _ => True) ?_ ?_
  · refine W.block ?_
    refine W.loopC (fun j : Nat => [(0, bV s), (1, .int .i64 p), (2, .mptr (h.next + 0) 0), (5, .int .u8 (at' s p : Nat)), (6, .int .i64 j)]) (fun j => p ≤ j ∧ j ≤ s.length ∧ j + runLen (s.drop j) = p + runLen (s.drop p)) (fun j => s.length - j) p ⟨Nat.le_refl _, by omega, rfl⟩ ⟨rfl, rfl, rfl, rfl, rfl, trivial⟩ ?_
    rintro j ⟨hpj, hj, hr⟩
    unfold bV
    repeat' (first
        | refine W.seq ?_ | refine W.region ?_ | refine WS.nil ?_ | refine W.exit ?_ | refine W.no rfl rfl ?_ | refine WS.guardT rfl ?_ | refine WS.guardF rfl rfl rfl ?_ | refine WS.guardK rfl (fun _ => ?_) (fun _ => ?_) | refine WS.near rfl o_pickF rfl ?_ | refine WS.near rfl o_lss rfl ?_ | refine WS.near rfl o_lenB rfl ?_ | refine WS.near rfl o_lenB rfl ?_ | refine WS.near rfl o_loadF rfl ?_ | refine WS.near rfl (o_iaddrB _ rfl (by omega)) rfl ?_ | fail)
    · rename_i hlt
      rw [runLen_at (by omega)] at hr
      refine WS.puF hf rfl rfl (rletter_pu _) ?_
      repeat' (first
          | refine W.region ?_ | refine WS.nil ?_ | refine W.skip ?_ | refine W.block ?_ | refine W.exit ?_ | refine W.fork rfl (fun _ => ?_) (fun _ => ?_) | refine WS.near rfl o_pickT rfl ?_ | refine WS.near rfl (o_add (by omega) (by omega)) rfl ?_ | fail)
      · rename_i hg
        rw [if_pos hg] at hr
        exact ⟨j + 1, ⟨by omega, by omega, by omega⟩, (by show s.length - (j + 1) < s.length - j; omega), ⟨rfl, rfl, rfl, rfl, rfl, trivial⟩, rfl⟩
      · rename_i hg
        rw [if_neg hg] at hr
        exact ⟨rfl, (), trivial, ⟨rfl, rfl, rfl, rfl, congrArg (fun z : Nat => some (V.int .i64 z)) hr, trivial⟩, rfl⟩
    · rename_i hge
      rw [runLen_end (by omega)] at hr
      exact ⟨rfl, (), trivial, ⟨rfl, rfl, rfl, rfl, congrArg (fun z : Nat => some (V.int .i64 z)) hr, trivial⟩, rfl⟩
  rintro ⟨⟩ _
  unfold bV
  refine W.seq ?_
  repeat' (first
      | refine W.region ?_ | refine WS.nil ?_ | refine WS.near rfl (o_build rfl) rfl ?_ | refine WS.near rfl (o_storeH (by assumption) rfl rfl) rfl ?_ | refine WS.near rfl (o_allocH 1 rfl) rfl ?_ | fail)
  refine W.seq ?_
  refine W.block ?_
  repeat' (first
      | refine W.seq ?_ | refine W.region ?_ | fail)
  refine WS.puF hf rfl rfl (rdigit_pu _) ?_
  repeat' (first
      | refine WS.nil ?_ | refine W.fork rfl (fun _ => ?_) (fun _ => ?_) | fail)
  · rename_i hd
    have hnl : ¬ isLetter (at' s p) := by unfold isDigit at hd; unfold isLetter; omega
    have hlen : ((s.drop p).take (runLen (s.drop p))).length = runLen (s.drop p) := by rw [List.length_take]; omega
    have hrp : 0 < runLen (s.drop p) := runLen_pos (by omega) (.inr (by rw [at_drop]; exact hd))
    have hT : oneF (s.drop p) = ⟨3, ((numF ((s.drop p).take (runLen (s.drop p)))).getD 0 : Nat), [], runLen (s.drop p), (numF ((s.drop p).take (runLen (s.drop p)))).isSome⟩ := by
      unfold oneF; rw [at_drop, if_neg hnl, if_pos hd]
    have bad : numF ((s.drop p).take (runLen (s.drop p))) = none → rtokV s p = .tup [.agg (endTok p), .int .i64 p, .int .i64 2] := fun e => by
      unfold rtokV; rw [hT, e]; simp [hnl]
    have good : ∀ n, numF ((s.drop p).take (runLen (s.drop p))) = some n → rtokV s p = .tup [.agg [.int .i64 3, .int .i64 (n : Nat), .int .i64 p, .str []], .int .i64 ((p + runLen (s.drop p) : Nat) : Int), .int .i64 0] := fun n e => by
      unfold rtokV; rw [hT, e]; rfl
    generalize hD : (s.drop p).take (runLen (s.drop p)) = d at *
    have hat : ∀ k, k < runLen (s.drop p) → at' d k = at' s (p + k) := fun k hk => by rw [← hD]; exact at_take hk
    clear hT
    refine W.seq ?_
    repeat' (first
        | refine W.region ?_ | refine WS.nil ?_ | refine WS.near rfl o_mov rfl ?_ | fail)
    refine W.seq ?_
    refine W.seq ?_
    repeat' (first
        | refine W.region ?_ | refine WS.nil ?_ | refine W.block ?_ | refine WS.near rfl o_mov rfl ?_ | fail)
    refine W.loopC (fun a : Nat × Nat => [(0, bV s), (1, .int .i64 p), (2, .mptr (h.next + 0) 0), (5, .int .u8 (at' s p : Nat)), (6, .int .i64 ((p + runLen (s.drop p) : Nat) : Int)), (7, .mptr (h.next + 1) 0), (8, .int .i64 a.2), (9, .int .i64 a.1)])
      (fun a => p ≤ a.1 ∧ a.1 ≤ p + runLen (s.drop p) ∧ a.2 < 9223372036854775808 ∧ numGo a.2 (d.drop (a.1 - p)) = numGo 0 d) (fun a => p + runLen (s.drop p) - a.1) (p, 0) ⟨Nat.le_refl _, by show p ≤ _; omega, (by show 0 < 9223372036854775808; decide), by simp⟩ ⟨rfl, rfl, rfl, rfl, rfl, rfl, rfl, rfl, trivial⟩ ?_
    rintro ⟨i, n⟩ ⟨hpi, hi, hn, hr⟩
    simp only at hpi hi hn hr ⊢
    unfold bV
    refine W.seq ?_
    refine W.seq ?_
    repeat' (first
        | refine W.region ?_ | refine WS.nil ?_ | refine W.skip ?_ | refine W.exit ?_ | refine W.fork rfl (fun _ => ?_) (fun _ => ?_) | refine WS.near rfl o_lss rfl ?_ | fail)
    · rename_i hlt
      have hk := hat (i - p) (by omega)
      have e0 : p + (i - p) = i := by omega
      rw [e0] at hk
      rw [numGo_at (by omega), hk] at hr
      have e1 : i - p + 1 = i + 1 - p := by omega
      rw [e1] at hr
      repeat' (first
          | refine W.seq ?_ | refine W.region ?_ | refine W.block ?_ | refine WS.near rfl o_loadF rfl ?_ | refine WS.near rfl (o_iaddrB _ rfl (by omega)) rfl ?_ | fail)
      refine WS.puF hf rfl rfl (rdigit_pu _) ?_
      repeat' (first
          | refine W.seq ?_ | refine W.region ?_ | refine WS.nil ?_ | refine W.ret ?_ | refine W.yes rfl rfl ?_ | refine WS.guardT rfl ?_ | refine WS.guardF rfl rfl rfl ?_ | refine WS.guardK rfl (fun _ => ?_) (fun _ => ?_) | refine WS.near rfl o_mov rfl ?_ | refine WS.near rfl o_pickT rfl ?_ | refine WS.near rfl o_not rfl ?_ | refine WS.near rfl o_loadF rfl ?_ | refine WS.near rfl (o_loadHN rfl rfl) rfl ?_ | refine WS.near rfl (o_storeH (by assumption) rfl rfl) rfl ?_ | refine WS.near rfl (o_iaddrB _ rfl (by omega)) rfl ?_ | fail)
      · rename_i hnd
        refine ⟨_, resK_cell rfl rfl rfl rfl, _, rfl, ?_⟩
        rw [bad (numF_no (by rw [← hr, show numStep n (at' s i) = none from if_neg fun hh => hnd hh.1]; rfl))]
        rfl
      · rename_i hdd
        have hd1 : isDigit (at' s i) := Decidable.not_not.1 hdd
        obtain ⟨d1, d2⟩ := hd1
        repeat' (first
            | refine W.seq ?_ | refine W.region ?_ | refine WS.nil ?_ | refine W.skip ?_ | refine W.ret ?_ | refine W.fork rfl (fun _ => ?_) (fun _ => ?_) | refine WS.guardT rfl ?_ | refine WS.near rfl o_mov rfl ?_ | refine WS.near rfl o_pickF rfl ?_ | refine WS.near rfl o_gtr rfl ?_ | refine WS.near rfl o_loadF rfl ?_ | refine WS.near rfl (o_loadHN rfl rfl) rfl ?_ | refine WS.near rfl (o_storeH (by assumption) rfl rfl) rfl ?_ | refine WS.near rfl (o_quo (by omega) (by omega) (by omega)) rfl ?_ | refine WS.near rfl (o_mul (by omega) (by omega)) rfl ?_ | refine WS.near rfl (o_add (by omega) (by omega)) rfl ?_ | refine WS.near rfl (o_sub (by omega) (by omega)) rfl ?_ | refine WS.near rfl (o_sub8 (by omega) (by omega)) rfl ?_ | refine WS.near rfl (o_conv (by omega) (by omega)) rfl ?_ | refine WS.near rfl (o_iaddrB _ rfl (by omega)) rfl ?_ | fail)
        · rename_i hbig
          refine ⟨_, resK_cell rfl rfl rfl rfl, _, rfl, ?_⟩
          rw [bad (numF_no (by rw [← hr, show numStep n (at' s i) = none from if_neg fun hh => by have := hh.2; omega]; rfl))]
          rfl
        · rename_i hbig
          have hs1 : numStep n (at' s i) = some (10 * n + (at' s i - 48)) := if_pos ⟨⟨d1, d2⟩, by omega⟩
          rw [hs1] at hr
          have e2 : (10 * (n : Int) + ((at' s i : Nat) - 48 : Int)) = ((10 * n + (at' s i - 48) : Nat) : Int) := by omega
          exact ⟨(i + 1, 10 * n + (at' s i - 48)), ⟨by show p ≤ i + 1; omega, by show i + 1 ≤ _; omega, by show 10 * n + (at' s i - 48) < _; omega, hr⟩, (by show p + runLen (s.drop p) - (i + 1) < p + runLen (s.drop p) - i; omega),
            ⟨rfl, rfl, rfl, rfl, rfl, rfl, congrArg (fun z => some (V.int .i64 z)) e2, rfl, trivial⟩, rfl⟩
    · rename_i hge
      rw [List.drop_eq_nil_of_le (by omega)] at hr
      have hr' : numGo 0 d = some n := hr.symm
      have h00 : at' d 0 = at' s p := hat 0 hrp
      repeat' (first
          | refine W.seq ?_ | refine W.region ?_ | refine WS.nil ?_ | refine W.skip ?_ | refine W.ret ?_ | refine W.no rfl rfl ?_ | refine W.fork rfl (fun _ => ?_) (fun _ => ?_) | refine WS.guardT rfl ?_ | refine WS.guardF rfl rfl rfl ?_ | refine WS.guardK rfl (fun _ => ?_) (fun _ => ?_) | refine WS.near rfl o_mov rfl ?_ | refine WS.near rfl o_pickT rfl ?_ | refine WS.near rfl o_pickF rfl ?_ | refine WS.near rfl o_gtr rfl ?_ | refine WS.near rfl o_eql rfl ?_ | refine WS.near rfl o_faddr rfl ?_ | refine WS.near rfl (o_loadHN rfl rfl) rfl ?_ | refine WS.near rfl (o_storeH (by assumption) rfl rfl) rfl ?_ | refine WS.near rfl (o_sub (by omega) (by omega)) rfl ?_ | fail)
      · refine ⟨_, resK_cell rfl rfl rfl rfl, _, rfl, ?_⟩
        rw [bad (by unfold numF; rw [if_pos ⟨by omega, by omega⟩])]
        rfl
      all_goals
        refine ⟨_, resK_cell rfl rfl rfl rfl, _, rfl, ?_⟩
        rw [good n (by unfold numF; rw [if_neg (by omega), hr'])]
        rfl
  · rename_i hd
    have hsl : (s.take (p + runLen (s.drop p))).drop p = (s.drop p).take (runLen (s.drop p)) := by rw [List.drop_take]; congr 1; omega
    have hlen : ((s.drop p).take (runLen (s.drop p))).length = runLen (s.drop p) := by rw [List.length_take]; omega
    refine W.seq ?_
    refine W.region ?_
    refine WS.puF hf rfl rfl (rletter_pu _) ?_
    repeat' (first
        | refine WS.nil ?_ | refine W.skip ?_ | refine W.no rfl rfl ?_ | refine W.fork rfl (fun _ => ?_) (fun _ => ?_) | refine WS.guardT rfl ?_ | refine WS.guardF rfl rfl rfl ?_ | refine WS.guardK rfl (fun _ => ?_) (fun _ => ?_) | refine WS.near rfl o_pickT rfl ?_ | refine WS.near rfl o_pickF rfl ?_ | refine WS.near rfl o_neq rfl ?_ | fail)
    · rename_i hg h95
      have hL : isLetter (at' s p) := by
        rcases hg with h | h | h
        · exact h
        · exact absurd h hd
        · omega
      have hTw : (s.drop p).take (runLen (s.drop p)) ∈ wordList → rtokV s p = .tup [.agg [.int .i64 2, .int .i64 0, .int .i64 p, .str ((s.drop p).take (runLen (s.drop p)))], .int .i64 ((p + runLen (s.drop p) : Nat) : Int), .int .i64 0] := fun hw => by
        have e : oneF (s.drop p) = ⟨2, 0, (s.drop p).take (runLen (s.drop p)), runLen (s.drop p), true⟩ := by unfold oneF; rw [at_drop, if_pos hL, if_pos hw]
        unfold rtokV; rw [e]; rfl
      have hTn : ¬ (s.drop p).take (runLen (s.drop p)) ∈ wordList → oneF (s.drop p) = ⟨1, 0, (s.drop p).take (runLen (s.drop p)), runLen (s.drop p), decide ((runLen (s.drop p) : Int) ≤ 24)⟩ := fun hw => by
        unfold oneF; rw [at_drop, if_pos hL, if_neg hw]
      refine W.seq ?_
      refine W.region ?_
      refine WS.near rfl (o_sliceB p (p + runLen (s.drop p)) rfl rfl (by omega) (by omega)) rfl ?_
      rw [hsl]
      refine WS.near rfl (o_b2sB (fun b hb => hs b (List.mem_of_mem_drop (List.mem_of_mem_take hb)))) rfl ?_
      generalize hx : (s.drop p).take (runLen (s.drop p)) = x at *
      repeat' (first
          | refine W.seq ?_ | refine W.region ?_ | refine WS.nil ?_ | refine WS.near rfl o_faddr rfl ?_ | refine WS.near rfl (o_loadH rfl) rfl ?_ | refine WS.near rfl (o_storeH (by assumption) rfl rfl) rfl ?_ | fail)
      refine WS.puF hf rfl rfl (refWord_pu x) ?_
      repeat' (first
          | refine W.seq ?_ | refine W.region ?_ | refine WS.nil ?_ | refine W.skip ?_ | refine W.ret ?_ | refine W.fork rfl (fun _ => ?_) (fun _ => ?_) | refine WS.near rfl o_mov rfl ?_ | refine WS.near rfl o_gtr rfl ?_ | refine WS.near rfl o_lenS rfl ?_ | refine WS.near rfl o_faddr rfl ?_ | refine WS.near rfl (o_loadH rfl) rfl ?_ | refine WS.near rfl (o_loadHN rfl rfl) rfl ?_ | refine WS.near rfl (o_storeH (by assumption) rfl rfl) rfl ?_ | fail)
      · rename_i hw
        refine ⟨_, resK_cell rfl rfl rfl rfl, _, rfl, ?_⟩
        rw [hTw hw]
        rfl
      · rename_i hw hlong
        have e : rtokV s p = .tup [.agg [.int .i64 1, .int .i64 0, .int .i64 p, .str x], .int .i64 p, .int .i64 2] := by
          unfold rtokV
          rw [hTn hw, not_dec (show ¬ ((runLen (s.drop p) : Nat) : Int) ≤ 24 by omega)]
          simp only [Bool.false_eq_true, if_false, if_pos hL]
          rfl
        refine ⟨_, resK_cell rfl rfl rfl rfl, _, rfl, ?_⟩
        rw [e]
        rfl
      · rename_i hw hshort
        have e : rtokV s p = .tup [.agg [.int .i64 1, .int .i64 0, .int .i64 p, .str x], .int .i64 ((p + runLen (s.drop p) : Nat) : Int), .int .i64 0] := by
          unfold rtokV
          rw [hTn hw, yes_dec (show ((runLen (s.drop p) : Nat) : Int) ≤ 24 by omega)]
          rfl
        refine ⟨_, resK_cell rfl rfl rfl rfl, _, rfl, ?_⟩
        rw [e]
        rfl
    all_goals
      have hnl : ¬ isLetter (at' s p) := fun hL => by
        first
          | (have h1 : ¬ goes (at' s p) := by assumption
             exact h1 (.inl hL))
          | (unfold isLetter at hL; omega)
      have hT : oneF (s.drop p) = ⟨4, 0, signOf (s.drop p), (signOf (s.drop p)).length, decide ((signOf (s.drop p)).length ≠ 0)⟩ := by
        unfold oneF; rw [at_drop, if_neg hnl, if_neg hd]
      have hL := signs_len
      refine W.seq ?_
      refine W.region ?_
      refine WS.puF hf rfl rfl refSigns_pu ?_
      repeat' (first
          | refine WS.nil ?_ | fail)
      refine W.seq ?_
      refine W.seq ?_
      repeat' (first
          | refine W.region ?_ | refine WS.nil ?_ | refine W.block ?_ | refine WS.near rfl o_mov rfl ?_ | fail)
      refine W.loopC (fun i : Nat => [(0, bV s), (1, .int .i64 p), (2, .mptr (h.next + 0) 0), (7, .mptr (h.next + 1) 0), (10, .fsl (signList.map V.str) none), (11, .int .i64 i)])
        (fun i => i ≤ signList.length ∧ ((signList.drop i).find? fun x => decide ((s.drop p).take x.length = x)).getD [] = signOf (s.drop p)) (fun i => signList.length - i) 0 ⟨by omega, rfl⟩ ⟨rfl, rfl, rfl, rfl, rfl, rfl, trivial⟩ ?_
      rintro i ⟨hi, hr⟩
      refine W.seq ?_
      refine W.seq ?_
      repeat' (first
          | refine W.region ?_ | refine WS.nil ?_ | refine W.skip ?_ | refine W.exit ?_ | refine W.fork rfl (fun _ => ?_) (fun _ => ?_) | refine WS.near rfl o_lss rfl ?_ | refine WS.near rfl o_lenL rfl ?_ | refine WS.near rfl o_lenL rfl ?_ | fail)
      · rename_i hlt
        rw [find_drop (by omega)] at hr
        have hmem : strAt signList i ∈ signList := List.mem_of_getElem? (strAt_get (by omega))
        have hx0 := signs_ne0 _ hmem
        have hx1 := signs_lt _ hmem
        repeat' (first
            | refine W.seq ?_ | refine W.region ?_ | refine W.block ?_ | refine WS.near rfl o_loadF rfl ?_ | refine WS.near rfl (o_iaddrL _ rfl (by omega)) rfl ?_ | fail)
        refine WS.puF hf rfl rfl (begins_pu s (strAt signList i) p hs hl hx1 (by omega)) ?_
        repeat' (first
            | refine W.seq ?_ | refine W.region ?_ | refine WS.nil ?_ | refine W.skip ?_ | refine W.fork rfl (fun _ => ?_) (fun _ => ?_) | refine WS.near rfl o_faddr rfl ?_ | refine WS.near rfl o_loadF rfl ?_ | refine WS.near rfl (o_add (by omega) (by omega)) rfl ?_ | refine WS.near rfl (o_iaddrL _ rfl (by omega)) rfl ?_ | fail)
        · rename_i hfound
          rw [if_pos (by simpa using hfound)] at hr
          have hr' : strAt signList i = signOf (s.drop p) := hr
          have hfl := congrArg List.length hfound
          simp only [List.length_take] at hfl
          have e : rtokV s p = .tup [.agg [.int .i64 4, .int .i64 0, .int .i64 p, .str (strAt signList i)], .int .i64 ((p + (strAt signList i).length : Nat) : Int), .int .i64 0] := by
            unfold rtokV
            rw [hT, ← hr', yes_dec hx0]
            rfl
          refine WS.nearC rfl (o_storeH hf rfl rfl) rfl ⟨⟨_, _, _, rfl, o_loadF, rfl⟩, trivial⟩ ?_
          repeat' (first
              | refine W.seq ?_ | refine W.region ?_ | refine WS.nil ?_ | refine WS.near rfl o_lenS rfl ?_ | refine WS.near rfl o_faddr rfl ?_ | refine WS.near rfl o_loadF rfl ?_ | refine WS.near rfl (o_loadHN rfl rfl) rfl ?_ | refine WS.near rfl (o_storeH (by assumption) rfl rfl) rfl ?_ | refine WS.near rfl (o_add (by omega) (by omega)) rfl ?_ | refine WS.near rfl (o_iaddrL _ rfl (by omega)) rfl ?_ | fail)
          refine WS.nearC rfl (o_storeH hf rfl rfl) rfl ⟨⟨_, _, _, rfl, o_lenS, rfl⟩, ⟨_, _, _, rfl, o_loadF, rfl⟩, trivial⟩ ?_
          repeat' (first
              | refine WS.nil ?_ | refine W.ret ?_ | refine WS.near rfl o_mov rfl ?_ | fail)
          refine ⟨_, resK_cell rfl rfl rfl rfl, _, rfl, ?_⟩
          rw [e]
          rfl
        · rename_i hnot
          rw [if_neg (by simpa using hnot)] at hr
          exact ⟨i + 1, ⟨by omega, hr⟩, (by show signList.length - (i + 1) < signList.length - i; omega), ⟨rfl, rfl, rfl, rfl, rfl, rfl, trivial⟩, rfl⟩
      · rename_i hge
        have hz : signList.drop i = [] := List.drop_eq_nil_of_le (by omega)
        rw [hz] at hr
        have hr' : [] = signOf (s.drop p) := hr
        have e : rtokV s p = .tup [.agg (endTok p), .int .i64 p, .int .i64 2] := by
          unfold rtokV
          rw [hT, ← hr']
          simp [hnl]
        repeat' (first
            | refine W.seq ?_ | refine W.region ?_ | refine WS.nil ?_ | refine W.ret ?_ | refine WS.near rfl o_mov rfl ?_ | refine WS.near rfl (o_loadHN rfl rfl) rfl ?_ | refine WS.near rfl (o_storeH (by assumption) rfl rfl) rfl ?_ | fail)
        refine ⟨_, resK_cell rfl rfl rfl rfl, _, rfl, ?_⟩
        rw [e]
        rfl
end Go.Proofs.YtfbikhkmamdjmaaDoor.CodesX
