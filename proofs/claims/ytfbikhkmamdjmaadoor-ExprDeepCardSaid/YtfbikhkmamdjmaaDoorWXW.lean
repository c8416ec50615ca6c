/- ExprDeep: the law, walked over the checks. -/
import Derived.Test.YtfbikhkmamdjmaaDoorWXL
namespace Go.Proofs.YtfbikhkmamdjmaaDoor.CodesX
open Go Go.Ab
set_option maxHeartbeats 1600000
set_option maxRecDepth 20000
theorem num_pu (e : Int) : PuF D1 35 [i64 e] (i64 e) := by
  refine PuF.tidy rfl rfl rfl rfl rfl fun h hf => ?_
  repeat' (first
      | refine W.seq ?_ | refine W.region ?_ | refine WS.nil ?_ | refine W.ret ?_ | refine WS.near rfl o_mov rfl ?_ | fail)
  exact ⟨_, rfl, fin_int rfl⟩
theorem small_hd (w : Nat) : Small (hdT w) := by unfold hdT Small; split <;> simp
theorem small_tl (w : Nat) : Small (tlT w) := by unfold tlT Small; split <;> simp
theorem small_text (w n : Nat) : Small (textT w n) := fun b hb => by
  rcases List.mem_append.1 hb with hb | hb
  · rcases List.mem_append.1 hb with hb | hb
    · exact rep_small (small_hd w) n b hb
    · simp only [List.mem_cons, List.not_mem_nil, or_false] at hb; omega
  · exact rep_small (small_tl w) n b hb
theorem hd_len (w : Nat) : (hdT w).length ≤ 5 := by unfold hdT; split <;> simp
theorem tl_len (w : Nat) : (tlT w).length ≤ 5 := by unfold tlT; split <;> simp
theorem text_len (w n : Nat) (hn : n ≤ 120) : (textT w n).length ≤ 1300 := by
  have h1 := hd_len w
  have h2 := tl_len w
  have h3 : n * (hdT w).length ≤ 120 * 5 := Nat.mul_le_mul hn h1
  have h4 : n * (tlT w).length ≤ 120 * 5 := Nat.mul_le_mul hn h2
  simp only [textT, List.length_append, rep_len, List.length_cons, List.length_nil]
  omega
/-- what the check tells -/
theorem check_spec {w n : Nat} (hn : n ≤ 120) (h : checkT w n = true) : ∃ (ts : List Tk) (q : Nat) (x : V) (to : Int), PuF D1 33 [bV (textT w n)] (.tup [Lv ts, i64 (q : Nat), i64 0]) ∧ PuF D1 34 [Lv ts, i64 0] (.tup [x, i64 to, i64 (if 39 < n then 4 else 0)]) ∧ ∃ a b c d, x = .agg [a, b, c, d] := by
  unfold checkT at h
  rw [heldL_eq] at h
  cases hl : lexT ((textT w n).length + 1) (textT w n) 0 with
  | none => rw [hl] at h; cases h
  | some ts =>
    rw [hl] at h
    simp only at h
    obtain ⟨q, hq⟩ := lex_pu (small_text w n) (by have := text_len w n hn; omega) hl
    unfold okT at h
    cases ts with
    | nil => cases h
    | cons t r =>
      simp only [Bool.and_eq_true, List.all_eq_true] at h
      obtain ⟨h1, h2, h3⟩ := h
      have hlen : (t :: r).length < 2 ^ 60 := by
        have : r.length < 1000000 := by simpa [Nat.blt_eq] using h1
        simp only [List.length_cons]; omega
      have hN : ∀ u ∈ t :: r, u.n < 2 ^ 63 := fun u hu => by
        have := h2 u hu
        have : u.n < 9223372036854775808 := by simpa [Nat.blt_eq] using this
        omega
      cases hR : runR 10000 (.level 0 0) (t :: r) with
      | out => rw [hR] at h3; cases h3
      | bad e l =>
        rw [hR] at h3
        simp only [Bool.and_eq_true] at h3
        have h4 := Nat.eq_of_beq_eq_true h3.1
        have h5 : 39 < n := by simpa [Nat.blt_eq] using h3.2
        subst h4
        have hp := parse_pu hlen hN (by simp) hR (fun h => by cases h)
        refine ⟨t :: r, q, zeroE, (po (t :: r) l : Nat), hq, ?_, _, _, _, _, rfl⟩
        rw [if_pos h5]
        exact hp
      | ok x l =>
        rw [hR] at h3
        have h5 : ¬ 39 < n := by have := Nat.le_of_ble_eq_true h3; omega
        have hp := parse_pu hlen hN (by simp) hR (fun h => by cases h)
        refine ⟨t :: r, q, x.x.v, (po (t :: r) l : Nat), hq, ?_, _, _, _, _, rfl⟩
        rw [if_neg h5]
        exact hp
section
variable (n : Nat)
theorem deep_w (hn : n ≤ 120) (w : Nat) (hw : w ≤ 3) (hc : checkT w n = true) : PuF D1 9 [i64 (n : Nat), i64 (w : Nat)] (.bool true) := by
  obtain ⟨ts, q, x, to, h1, h2, xa, xb, xc, xd, rfl⟩ := check_spec hn hc
  have hl1 : ∀ i, i ≤ n → (rep (hdT w) i).length ≤ 600 := fun i hi => by
    rw [rep_len]
    have := Nat.mul_le_mul (Nat.le_trans hi hn) (hd_len w)
    omega
  have hl2 : ∀ i, i ≤ n → (rep (tlT w) i).length ≤ 600 := fun i hi => by
    rw [rep_len]
    have := Nat.mul_le_mul (Nat.le_trans hi hn) (tl_len w)
    omega
  refine PuF.tidy rfl rfl rfl rfl rfl fun h hf => ?_
  repeat' (first
      | refine W.seq ?_ | refine W.region ?_ | refine WS.nil ?_ | refine WS.near rfl o_mov rfl ?_ | fail)
  refine WS.puF hf rfl rfl alive_pu ?_
  repeat' (first
      | refine W.seq ?_ | refine W.region ?_ | refine WS.nil ?_ | refine W.skip ?_ | refine W.block ?_ | refine W.ret ?_ | refine W.yes rfl rfl ?_ | refine W.fork rfl (fun _ => ?_) (fun _ => ?_) | refine WS.guardT rfl ?_ | refine WS.guardF rfl rfl rfl ?_ | refine WS.guardK rfl (fun _ => ?_) (fun _ => ?_) | refine WS.near rfl o_mov rfl ?_ | refine WS.near rfl o_pickT rfl ?_ | refine WS.near rfl o_pickF rfl ?_ | refine WS.near rfl o_notT rfl ?_ | refine WS.near rfl o_lss rfl ?_ | refine WS.near rfl o_gtr rfl ?_ | fail)
  all_goals first | (exfalso; omega) | skip
  refine W.loop (fun i : Nat => [(0, i64 (n : Nat)), (1, i64 (w : Nat)), (4, .str (rep (hdT w) i)), (5, .str (rep (tlT w) i)), (6, i64 (i : Nat))]) (fun _ => hp h [])
    (fun i => i ≤ n) (fun i => n - i) 0 (Nat.zero_le _) ⟨rfl, rfl, rfl, rfl, rfl, trivial⟩ rfl ?_
  intro i hi
  have e1 : (i : Int) + 1 = ((i + 1 : Nat) : Int) := by omega
  have b1 := hl1 i hi
  have b2 := hl2 i hi
  by_cases hlt : i < n
  · skip
    have hw4 : w = 0 ∨ w = 1 ∨ w = 2 ∨ w = 3 := by omega
    rcases hw4 with rfl | rfl | rfl | rfl
    all_goals
      simp only [hdT, tlT] at b1 b2 ⊢
    · skip
      repeat' (first
          | refine WS.near rfl (o_sadd (by simp only [List.length_cons, List.length_nil]; omega)) rfl ?_ | refine W.seq ?_ | refine W.region ?_ | refine WS.nil ?_ | refine W.skip ?_ | refine W.block ?_ | refine W.exit ?_ | refine W.yes rfl rfl ?_ | refine W.fork rfl (fun _ => ?_) (fun _ => ?_) | refine WS.near rfl o_mov rfl ?_ | refine WS.near rfl o_lss rfl ?_ | refine WS.near rfl o_eql rfl ?_ | refine WS.near rfl (o_add (by omega) (by omega)) rfl ?_ | fail)
      all_goals first | (exfalso; omega) | skip
      exact ⟨i + 1, (show i + 1 ≤ n by omega), (show n - (i + 1) < n - i by omega), ⟨rfl, rfl, rfl, rfl, congrArg (fun z => some (V.int .i64 z)) e1, trivial⟩, rfl⟩
    · skip
      repeat' (first
          | refine WS.near rfl (o_sadd (by simp only [List.length_cons, List.length_nil]; omega)) rfl ?_ | refine W.seq ?_ | refine W.region ?_ | refine WS.nil ?_ | refine W.skip ?_ | refine W.block ?_ | refine W.exit ?_ | refine W.yes rfl rfl ?_ | refine W.no rfl rfl ?_ | refine W.fork rfl (fun _ => ?_) (fun _ => ?_) | refine WS.near rfl o_mov rfl ?_ | refine WS.near rfl o_lss rfl ?_ | refine WS.near rfl o_eql rfl ?_ | refine WS.near rfl (o_add (by omega) (by omega)) rfl ?_ | fail)
      all_goals first | (exfalso; omega) | skip
      exact ⟨i + 1, (show i + 1 ≤ n by omega), (show n - (i + 1) < n - i by omega), ⟨rfl, rfl, rfl, congrArg (fun z => some (V.str z)) (show rep [] i = rep [] (i + 1) by rw [rep_nil, rep_nil]), congrArg (fun z => some (V.int .i64 z)) e1, trivial⟩, rfl⟩
    · skip
      repeat' (first
          | refine WS.near rfl (o_sadd (by simp only [List.length_cons, List.length_nil]; omega)) rfl ?_ | refine W.seq ?_ | refine W.region ?_ | refine WS.nil ?_ | refine W.skip ?_ | refine W.block ?_ | refine W.exit ?_ | refine W.yes rfl rfl ?_ | refine W.no rfl rfl ?_ | refine W.fork rfl (fun _ => ?_) (fun _ => ?_) | refine WS.near rfl o_mov rfl ?_ | refine WS.near rfl o_lss rfl ?_ | refine WS.near rfl o_eql rfl ?_ | refine WS.near rfl (o_add (by omega) (by omega)) rfl ?_ | fail)
      all_goals first | (exfalso; omega) | skip
      exact ⟨i + 1, (show i + 1 ≤ n by omega), (show n - (i + 1) < n - i by omega), ⟨rfl, rfl, congrArg (fun z => some (V.str z)) (show rep [] i = rep [] (i + 1) by rw [rep_nil, rep_nil]), rfl, congrArg (fun z => some (V.int .i64 z)) e1, trivial⟩, rfl⟩
    · skip
      repeat' (first
          | refine WS.near rfl (o_sadd (by simp only [List.length_cons, List.length_nil]; omega)) rfl ?_ | refine W.seq ?_ | refine W.region ?_ | refine WS.nil ?_ | refine W.skip ?_ | refine W.block ?_ | refine W.exit ?_ | refine W.no rfl rfl ?_ | refine W.fork rfl (fun _ => ?_) (fun _ => ?_) | refine WS.near rfl o_mov rfl ?_ | refine WS.near rfl o_lss rfl ?_ | refine WS.near rfl o_eql rfl ?_ | refine WS.near rfl (o_add (by omega) (by omega)) rfl ?_ | fail)
      all_goals first | (exfalso; omega) | skip
      exact ⟨i + 1, (show i + 1 ≤ n by omega), (show n - (i + 1) < n - i by omega), ⟨rfl, rfl, rfl, rfl, congrArg (fun z => some (V.int .i64 z)) e1, trivial⟩, rfl⟩
  · obtain rfl : i = n := by omega
    have h3 := num_pu (if 39 < i then 4 else 0)
    have h1 : PuF D1 33 [.fsl ((textT w i).map fun (b : Nat) => V.int .u8 (b : Int)) none] (.tup [Lv ts, i64 (q : Nat), i64 0]) := h1
    unfold textT at h1
    by_cases h39 : 39 < i
    · rw [if_pos h39] at h2 h3
      repeat' (first
          | refine WS.near rfl (o_sadd (by simp only [List.length_append, List.length_cons, List.length_nil]; omega)) rfl ?_ | refine WS.puF hf rfl rfl h1 ?_ | refine WS.puF hf rfl rfl h2 ?_ | refine WS.puF hf rfl rfl h3 ?_ | refine W.seq ?_ | refine W.region ?_ | refine WS.nil ?_ | refine W.skip ?_ | refine W.block ?_ | refine W.ret ?_ | refine W.exit ?_ | refine W.fork rfl (fun _ => ?_) (fun _ => ?_) | refine WS.guardT rfl ?_ | refine WS.near rfl o_mov rfl ?_ | refine WS.near rfl o_pickT rfl ?_ | refine WS.near rfl o_lss rfl ?_ | refine WS.near rfl o_gtr rfl ?_ | refine WS.near rfl o_eql rfl ?_ | refine WS.near rfl o_s2b rfl ?_ | refine WS.near rfl (o_extract rfl) rfl ?_ | refine WS.near rfl (o_storeH (by assumption) rfl rfl) rfl ?_ | refine WS.near rfl (o_allocH 0 rfl) rfl ?_ | refine WS.near rfl (o_add (by omega) (by omega)) rfl ?_ | fail)
      all_goals first | (exfalso; omega) | skip
      all_goals exact ⟨_, rfl, fin_bool rfl⟩
    · rw [if_neg h39] at h2 h3
      repeat' (first
          | refine WS.near rfl (o_sadd (by simp only [List.length_append, List.length_cons, List.length_nil]; omega)) rfl ?_ | refine WS.puF hf rfl rfl h1 ?_ | refine WS.puF hf rfl rfl h2 ?_ | refine WS.puF hf rfl rfl h3 ?_ | refine W.seq ?_ | refine W.region ?_ | refine WS.nil ?_ | refine W.skip ?_ | refine W.block ?_ | refine W.ret ?_ | refine W.exit ?_ | refine W.fork rfl (fun _ => ?_) (fun _ => ?_) | refine WS.guardT rfl ?_ | refine WS.near rfl o_mov rfl ?_ | refine WS.near rfl o_pickT rfl ?_ | refine WS.near rfl o_lss rfl ?_ | refine WS.near rfl o_gtr rfl ?_ | refine WS.near rfl o_eql rfl ?_ | refine WS.near rfl o_s2b rfl ?_ | refine WS.near rfl (o_extract rfl) rfl ?_ | refine WS.near rfl (o_storeH (by assumption) rfl rfl) rfl ?_ | refine WS.near rfl (o_allocH 0 rfl) rfl ?_ | refine WS.near rfl (o_add (by omega) (by omega)) rfl ?_ | fail)
      all_goals first | (exfalso; omega) | skip
      all_goals exact ⟨_, rfl, fin_bool rfl⟩
end
/-- every input -/
theorem law_pu (hall : ∀ w, w ≤ 3 → ∀ n, n ≤ 120 → checkT w n = true) (n w : Int) : PuF D1 9 [i64 n, i64 w] (.bool true) := by
  by_cases hin : 0 ≤ n ∧ n ≤ 120 ∧ 0 ≤ w ∧ w ≤ 3
  · obtain ⟨a, rfl⟩ := Int.eq_ofNat_of_zero_le hin.1
    obtain ⟨b, rfl⟩ := Int.eq_ofNat_of_zero_le hin.2.2.1
    exact deep_w a (by omega) b (by omega) (hall b (by omega) a (by omega))
  · refine PuF.tidy rfl rfl rfl rfl rfl fun h hf => ?_
    repeat' (first
        | refine W.seq ?_ | refine W.region ?_ | refine WS.nil ?_ | refine WS.near rfl o_mov rfl ?_ | fail)
    refine WS.puF hf rfl rfl alive_pu ?_
    repeat' (first
        | refine W.seq ?_ | refine W.region ?_ | refine WS.nil ?_ | refine W.skip ?_ | refine W.block ?_ | refine W.ret ?_ | refine W.yes rfl rfl ?_ | refine W.fork rfl (fun _ => ?_) (fun _ => ?_) | refine WS.guardT rfl ?_ | refine WS.guardF rfl rfl rfl ?_ | refine WS.guardK rfl (fun _ => ?_) (fun _ => ?_) | refine WS.near rfl o_mov rfl ?_ | refine WS.near rfl o_pickT rfl ?_ | refine WS.near rfl o_pickF rfl ?_ | refine WS.near rfl o_notT rfl ?_ | refine WS.near rfl o_lss rfl ?_ | refine WS.near rfl o_gtr rfl ?_ | fail)
    all_goals first | exact ⟨_, rfl, fin_bool rfl⟩ | (exfalso; omega)
end Go.Proofs.YtfbikhkmamdjmaaDoor.CodesX
