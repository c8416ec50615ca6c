/- The lexer: what stands between tokens does not count: the walk. -/
import Derived.Test.YthclejjieggdkaaDoorWLB
namespace Go.Proofs.YthclejjieggdkaaDoor.CodesL
open Go Go.Ab
set_option maxHeartbeats 800000
set_option maxRecDepth 20000

structure BS where
  i : Nat
  out : V
  acc : List Nat
  bs : List (Option (List V))
def u8s (s : List Nat) : List V := s.map fun (b : Nat) => V.int .u8 (b : Int)

theorem isl_bytes {h0 : Heap} {bs : List (Option (List V))} {v : V} {s : List Nat} (hs : IsSl h0 bs 1 v s.length (u8s s)) (hb : Small s) : Bytes (hp h0 bs) v s := by
  obtain ⟨h1, ⟨rfl, h2⟩ | ⟨k, l, rfl, e2, e3, e4⟩⟩ := hs
  · have : s = [] := List.length_eq_zero_iff.1 h2
    subst this
    exact bytes_nil
  · refine ⟨?_, rfl, hb, .inr (.inr (.inr ⟨_, _, _, _, _, rfl⟩))⟩
    rw [row_msl e2 (by omega), e4]
    rfl
theorem T4.v_inj (t u : T4) (h : t.v = u.v) : t = u := by
  obtain ⟨a, b, c, d⟩ := t
  obtain ⟨a', b', c', d'⟩ := u
  simp only [T4.v, T4.cs, V.agg.injEq, List.cons.injEq, V.int.injEq, true_and, V.str.injEq, and_true, Int.natCast_inj] at h
  obtain ⟨rfl, rfl, rfl, rfl⟩ := h
  rfl
theorem fromAt_end {s : List Nat} {ts : List T4} (hg : Good s ts) : fromAt ts ts.length ≤ s.length := by
  cases h : ts.length with
  | zero => exact Nat.zero_le _
  | succ m =>
    have h1 : ts[m]? = some (ts[m]'(by omega)) := List.getElem?_eq_getElem _
    have h2 := hg.endAt _ (by rw [h]; exact h1)
    simp only [fromAt, h1, Option.map_some, Option.getD_some]
    omega
/-- a parameter that holds these bytes -/
structure Param (u : V) (s : List Nat) : Prop where
  len : ∀ h, Does (.len 1 (.v u)) h (.int .i64 (s.length : Nat)) h
  cut : ∀ h (n m : Nat) (k k' : IntKind), n ≤ m → m ≤ s.length → ∃ x, Does (.slice 1 (.v u) (some (.v (.int k n))) (some (.v (.int k' m))) none) h x h ∧ Bytes h x ((s.take m).drop n)
  bytes : ∀ h, Bytes h u s
theorem param_of (u : V) (s : List Nat) (hu : (u = .nilsl ∧ s = []) ∨ (u = .esl ∧ s = []) ∨ u = .fsl (s.map fun (b : Nat) => V.int .u8 (b : Int)) none) (hs : ∀ b ∈ s, b < 256) : Param u s := by
  rcases hu with ⟨rfl, rfl⟩ | ⟨rfl, rfl⟩ | rfl
  · refine ⟨fun h => o_lenN, fun h n m k k' h1 h2 => ⟨_, o_sliceN (by simp at h2; omega) (by simp at h2; omega), ?_⟩, fun h => bytes_nil⟩
    simp
    exact bytes_nil
  · refine ⟨fun h => o_lenE, fun h n m k k' h1 h2 => ⟨_, o_sliceE (by simp at h2; omega) (by simp at h2; omega), ?_⟩, fun h => bytes_esl⟩
    simp
    exact bytes_esl
  · exact ⟨fun h => o_lenB, fun h n m k k' h1 h2 => ⟨_, o_sliceB n m rfl rfl h1 h2, bytes_str (fun b hb => hs b (List.mem_of_mem_take (List.mem_of_mem_drop hb)))⟩, fun h => bytes_str hs⟩
theorem insV_nil (w b : List Nat) (n : Nat) : insV w b n [] = [] := rfl

theorem lblanks_pu (u : V) (s : List Nat) (which : Int) (hs : Small s) (hu : Param u s) : PuF D1 6 [u, .int .i64 which] (.bool true) := by
  refine PuF.tidy rfl rfl rfl rfl rfl fun h hf => ?_
  repeat' (first
      | refine W.seq ?_ | refine W.region ?_ | refine WS.nil ?_ | refine W.skip ?_ | refine W.block ?_ | refine W.ret ?_ | refine W.exit ?_ | refine W.yes rfl rfl ?_ | refine W.no rfl rfl ?_ | refine W.fork rfl (fun _ => ?_) (fun _ => ?_) | refine WS.guardT rfl ?_ | refine WS.guardF rfl rfl rfl ?_ | refine WS.guardK rfl (fun _ => ?_) (fun _ => ?_) | refine WS.near rfl o_mov rfl ?_ | refine WS.near rfl o_pickT rfl ?_ | refine WS.near rfl o_pickF rfl ?_ | refine WS.near rfl o_notT rfl ?_ | refine WS.near rfl o_lss rfl ?_ | refine WS.near rfl o_gtr rfl ?_ | refine WS.near rfl o_geq rfl ?_ | refine WS.near rfl o_neq rfl ?_ | refine WS.near rfl o_lenM rfl ?_ | refine WS.near rfl o_lenF rfl ?_ | refine WS.near rfl o_loadF rfl ?_ | refine WS.near rfl (o_extract rfl) rfl ?_ | refine WS.near rfl (o_add (by omega) (by omega)) rfl ?_ | refine WS.near rfl (o_faddrF (Nat.le_of_ble_eq_true rfl)) rfl ?_
      | refine WS.near rfl (o_iaddrM rfl (by omega)) rfl ?_)
  refine WS.puF hf rfl rfl alive_pu ?_
  repeat' (first
      | refine W.seq ?_ | refine W.region ?_ | refine WS.nil ?_ | refine W.skip ?_ | refine W.block ?_ | refine W.ret ?_ | refine W.exit ?_ | refine W.yes rfl rfl ?_ | refine W.no rfl rfl ?_ | refine W.fork rfl (fun _ => ?_) (fun _ => ?_) | refine WS.guardT rfl ?_ | refine WS.guardF rfl rfl rfl ?_ | refine WS.guardK rfl (fun _ => ?_) (fun _ => ?_) | refine WS.near rfl o_mov rfl ?_ | refine WS.near rfl o_pickT rfl ?_ | refine WS.near rfl o_pickF rfl ?_ | refine WS.near rfl o_notT rfl ?_ | refine WS.near rfl o_lss rfl ?_ | refine WS.near rfl o_gtr rfl ?_ | refine WS.near rfl o_geq rfl ?_ | refine WS.near rfl o_neq rfl ?_ | refine WS.near rfl o_lenM rfl ?_ | refine WS.near rfl o_lenF rfl ?_ | refine WS.near rfl o_loadF rfl ?_ | refine WS.near rfl (o_extract rfl) rfl ?_ | refine WS.near rfl (o_add (by omega) (by omega)) rfl ?_ | refine WS.near rfl (o_faddrF (Nat.le_of_ble_eq_true rfl)) rfl ?_
      | refine WS.near rfl (o_iaddrM rfl (by omega)) rfl ?_)
  refine WS.near rfl (o_litH 0 rfl (cs := blanks.map V.str) rfl) rfl ?_
  repeat' (first
      | refine WS.near rfl (hu.len _) rfl ?_ | refine W.seq ?_ | refine W.region ?_ | refine WS.nil ?_ | refine W.skip ?_ | refine W.block ?_ | refine W.ret ?_ | refine W.exit ?_ | refine W.yes rfl rfl ?_ | refine W.no rfl rfl ?_ | refine W.fork rfl (fun _ => ?_) (fun _ => ?_) | refine WS.guardT rfl ?_ | refine WS.guardF rfl rfl rfl ?_ | refine WS.guardK rfl (fun _ => ?_) (fun _ => ?_) | refine WS.near rfl o_mov rfl ?_ | refine WS.near rfl o_pickT rfl ?_ | refine WS.near rfl o_pickF rfl ?_ | refine WS.near rfl o_notT rfl ?_ | refine WS.near rfl o_lss rfl ?_ | refine WS.near rfl o_gtr rfl ?_ | refine WS.near rfl o_geq rfl ?_ | refine WS.near rfl o_neq rfl ?_ | refine WS.near rfl o_lenM rfl ?_ | refine WS.near rfl o_lenF rfl ?_ | refine WS.near rfl o_loadF rfl ?_ | refine WS.near rfl (o_extract rfl) rfl ?_ | refine WS.near rfl (o_add (by omega) (by omega)) rfl ?_
      | refine WS.near rfl (o_faddrF (Nat.le_of_ble_eq_true rfl)) rfl ?_ | refine WS.near rfl (o_iaddrM rfl (by omega)) rfl ?_)
  · exact ⟨_, rfl, fin_bool rfl⟩
  · exact ⟨_, rfl, fin_bool rfl⟩
  · exact ⟨_, rfl, fin_bool rfl⟩
  rename_i hbig h0 h5
  have t1 := tokens_pu u s hs (by omega)
  refine WS.puC hf (Pre := fun g => Bytes g u s) (hu.bytes _) rfl rfl t1 ?_
  rcases toks_places s (s.length + 1) 0 [] (by omega) (by omega) ⟨(fun t ht => by cases ht), List.Pairwise.nil⟩ with ⟨p, e, hlt⟩ | ⟨us, e, ht⟩
  · rw [show toksGo (s.length + 1) s 0 0 [] = _ from e]
    repeat' (first
        | refine W.seq ?_ | refine W.region ?_ | refine WS.nil ?_ | refine W.skip ?_ | refine W.block ?_ | refine W.ret ?_ | refine W.exit ?_ | refine W.yes rfl rfl ?_ | refine W.no rfl rfl ?_ | refine W.fork rfl (fun _ => ?_) (fun _ => ?_) | refine WS.guardT rfl ?_ | refine WS.guardF rfl rfl rfl ?_ | refine WS.guardK rfl (fun _ => ?_) (fun _ => ?_) | refine WS.near rfl o_mov rfl ?_ | refine WS.near rfl o_pickT rfl ?_ | refine WS.near rfl o_pickF rfl ?_ | refine WS.near rfl o_notT rfl ?_ | refine WS.near rfl o_lss rfl ?_ | refine WS.near rfl o_gtr rfl ?_ | refine WS.near rfl o_geq rfl ?_ | refine WS.near rfl o_neq rfl ?_ | refine WS.near rfl o_lenM rfl ?_ | refine WS.near rfl o_lenF rfl ?_ | refine WS.near rfl o_loadF rfl ?_ | refine WS.near rfl (o_extract rfl) rfl ?_ | refine WS.near rfl (o_add (by omega) (by omega)) rfl ?_ | refine WS.near rfl (o_faddrF (Nat.le_of_ble_eq_true rfl)) rfl ?_
        | refine WS.near rfl (o_iaddrM rfl (by omega)) rfl ?_)
    refine WS.puF hf rfl rfl (num_pu _) ?_
    repeat' (first
        | refine W.seq ?_ | refine W.region ?_ | refine WS.nil ?_ | refine W.skip ?_ | refine W.block ?_ | refine W.ret ?_ | refine W.exit ?_ | refine W.yes rfl rfl ?_ | refine W.no rfl rfl ?_ | refine W.fork rfl (fun _ => ?_) (fun _ => ?_) | refine WS.guardT rfl ?_ | refine WS.guardF rfl rfl rfl ?_ | refine WS.guardK rfl (fun _ => ?_) (fun _ => ?_) | refine WS.near rfl o_mov rfl ?_ | refine WS.near rfl o_pickT rfl ?_ | refine WS.near rfl o_pickF rfl ?_ | refine WS.near rfl o_notT rfl ?_ | refine WS.near rfl o_lss rfl ?_ | refine WS.near rfl o_gtr rfl ?_ | refine WS.near rfl o_geq rfl ?_ | refine WS.near rfl o_neq rfl ?_ | refine WS.near rfl o_lenM rfl ?_ | refine WS.near rfl o_lenF rfl ?_ | refine WS.near rfl o_loadF rfl ?_ | refine WS.near rfl (o_extract rfl) rfl ?_ | refine WS.near rfl (o_add (by omega) (by omega)) rfl ?_ | refine WS.near rfl (o_faddrF (Nat.le_of_ble_eq_true rfl)) rfl ?_
        | refine WS.near rfl (o_iaddrM rfl (by omega)) rfl ?_)
    all_goals exact ⟨_, rfl, fin_bool rfl⟩
  · rw [show toksGo (s.length + 1) s 0 0 [] = _ from e]
    repeat' (first
        | refine W.seq ?_ | refine W.region ?_ | refine WS.nil ?_ | refine W.skip ?_ | refine W.block ?_ | refine W.ret ?_ | refine W.exit ?_ | refine W.yes rfl rfl ?_ | refine W.no rfl rfl ?_ | refine W.fork rfl (fun _ => ?_) (fun _ => ?_) | refine WS.guardT rfl ?_ | refine WS.guardF rfl rfl rfl ?_ | refine WS.guardK rfl (fun _ => ?_) (fun _ => ?_) | refine WS.near rfl o_mov rfl ?_ | refine WS.near rfl o_pickT rfl ?_ | refine WS.near rfl o_pickF rfl ?_ | refine WS.near rfl o_notT rfl ?_ | refine WS.near rfl o_lss rfl ?_ | refine WS.near rfl o_gtr rfl ?_ | refine WS.near rfl o_geq rfl ?_ | refine WS.near rfl o_neq rfl ?_ | refine WS.near rfl o_lenM rfl ?_ | refine WS.near rfl o_lenF rfl ?_ | refine WS.near rfl o_loadF rfl ?_ | refine WS.near rfl (o_extract rfl) rfl ?_ | refine WS.near rfl (o_add (by omega) (by omega)) rfl ?_ | refine WS.near rfl (o_faddrF (Nat.le_of_ble_eq_true rfl)) rfl ?_
        | refine WS.near rfl (o_iaddrM rfl (by omega)) rfl ?_)
    refine WS.puF hf rfl rfl (num_pu _) ?_
    repeat' (first
        | refine W.seq ?_ | refine W.region ?_ | refine WS.nil ?_ | refine W.skip ?_ | refine W.block ?_ | refine W.ret ?_ | refine W.exit ?_ | refine W.yes rfl rfl ?_ | refine W.no rfl rfl ?_ | refine W.fork rfl (fun _ => ?_) (fun _ => ?_) | refine WS.guardT rfl ?_ | refine WS.guardF rfl rfl rfl ?_ | refine WS.guardK rfl (fun _ => ?_) (fun _ => ?_) | refine WS.near rfl o_mov rfl ?_ | refine WS.near rfl o_pickT rfl ?_ | refine WS.near rfl o_pickF rfl ?_ | refine WS.near rfl o_notT rfl ?_ | refine WS.near rfl o_lss rfl ?_ | refine WS.near rfl o_gtr rfl ?_ | refine WS.near rfl o_geq rfl ?_ | refine WS.near rfl o_neq rfl ?_ | refine WS.near rfl o_lenM rfl ?_ | refine WS.near rfl o_lenF rfl ?_ | refine WS.near rfl o_loadF rfl ?_ | refine WS.near rfl (o_extract rfl) rfl ?_ | refine WS.near rfl (o_add (by omega) (by omega)) rfl ?_ | refine WS.near rfl (o_faddrF (Nat.le_of_ble_eq_true rfl)) rfl ?_
        | refine WS.near rfl (o_iaddrM rfl (by omega)) rfl ?_)
    have hg := good_of ht
    generalize us ++ [endT s] = ts at *
    have hgl := good_len hg
    obtain ⟨j, rfl⟩ : ∃ j : Nat, which = j := ⟨which.toNat, by omega⟩
    have hj5 : j < blanks.length := by
      show j < 5
      have : ¬ ((5 : Nat) : Int) ≤ (j : Int) := h5
      omega
    have hwm : strAt blanks j ∈ blanks := List.mem_of_getElem? (strAt_get hj5)
    generalize hwd : strAt blanks j = w at *
    have hlen : (ts.map T4.v).length = ts.length := List.length_map ..
    refine W.loop (fun a : BS => [(0, u), (1, .int .i64 j), (4, .msl (h.next + 0) 1 0 5 none), (5, .fsl (ts.map T4.v) none), (7, a.out), (8, .int .i64 (fromAt ts a.i : Nat)), (9, .int .i64 a.i)]) (fun a => hp h a.bs)
      (fun a => a.i ≤ ts.length ∧ IsSl h a.bs 1 a.out a.acc.length (u8s a.acc) ∧ a.acc ++ insV w s (fromAt ts a.i) (ts.drop a.i) = insV w s 0 ts ∧ bget a.bs 0 = some (blanks.map V.str) ∧ (∀ m, a.out ≠ .msl (h.next + 0) 1 0 m none) ∧ Small a.acc ∧ a.acc.length ≤ fromAt ts a.i + 6 * a.i)
      (fun a => ts.length - a.i) ⟨0, .nilsl, [], badd [] (blanks.map V.str)⟩ ⟨by show 0 ≤ ts.length; omega, IsSl.nil, by simp [fromAt], rfl, (fun m h => by cases h), (fun b hb => by cases hb), Nat.zero_le _⟩ ⟨rfl, rfl, rfl, rfl, rfl, rfl, rfl, trivial⟩ rfl ?_
    rintro ⟨i, out, acc, bs⟩ ⟨hi, hsl, hac, hb0, hne, hsm, hal⟩
    simp only at hi hsl hac hb0 hne hsm hal ⊢
    repeat' (first
        | refine W.seq ?_ | refine W.region ?_ | refine WS.nil ?_ | refine W.skip ?_ | refine W.block ?_ | refine W.ret ?_ | refine W.exit ?_ | refine W.yes rfl rfl ?_ | refine W.no rfl rfl ?_ | refine W.fork rfl (fun _ => ?_) (fun _ => ?_) | refine WS.guardT rfl ?_ | refine WS.guardF rfl rfl rfl ?_ | refine WS.guardK rfl (fun _ => ?_) (fun _ => ?_) | refine WS.near rfl o_mov rfl ?_ | refine WS.near rfl o_pickT rfl ?_ | refine WS.near rfl o_pickF rfl ?_ | refine WS.near rfl o_notT rfl ?_ | refine WS.near rfl o_lss rfl ?_ | refine WS.near rfl o_gtr rfl ?_ | refine WS.near rfl o_geq rfl ?_ | refine WS.near rfl o_neq rfl ?_ | refine WS.near rfl o_lenM rfl ?_ | refine WS.near rfl o_lenF rfl ?_ | refine WS.near rfl o_loadF rfl ?_ | refine WS.near rfl (o_extract rfl) rfl ?_ | refine WS.near rfl (o_add (by omega) (by omega)) rfl ?_ | refine WS.near rfl (o_faddrF (Nat.le_of_ble_eq_true rfl)) rfl ?_
        | refine WS.near rfl (o_iaddrM rfl (by omega)) rfl ?_)
    · rename_i hlt
      rw [hlen] at hlt
      have hi' : i < ts.length := by omega
      have ht1 : ts[i]? = some ts[i] := List.getElem?_eq_getElem hi'
      have hfa := fromAt_le hg.rising ht1
      have hst := hg.stands ts[i] (List.getElem_mem hi')
      have hia := insV_at (w := w) (b := s) ht1
      have hnf : fromAt ts (i + 1) = ts[i].at0 := by simp [fromAt, ht1]
      have hget : (ts.map T4.v)[i]? = some ts[i].v := by rw [List.getElem?_map, ht1]; rfl
      generalize ts[i] = t at *
      obtain ⟨tk, tn, ta, tx⟩ := t
      obtain ⟨s1, s2, s3⟩ := hst
      simp only at s1 s2 s3 hfa hia hnf
      obtain ⟨gx, hgx, hgb⟩ := hu.cut (hp h bs) (fromAt ts i) ta .i64 .i64 hfa s1
      repeat' (first
          | refine WS.near rfl (o_iaddrT (a := tk) (b := tn) (c := ta) (x := tx) i rfl hget) rfl ?_ | refine WS.near rfl (hu.len _) rfl ?_ | refine WS.near rfl hgx rfl ?_ | refine W.seq ?_ | refine W.region ?_ | refine WS.nil ?_ | refine W.skip ?_ | refine W.block ?_ | refine W.ret ?_ | refine W.exit ?_ | refine W.yes rfl rfl ?_ | refine W.no rfl rfl ?_ | refine W.fork rfl (fun _ => ?_) (fun _ => ?_) | refine WS.guardT rfl ?_ | refine WS.guardF rfl rfl rfl ?_ | refine WS.guardK rfl (fun _ => ?_) (fun _ => ?_) | refine WS.near rfl o_mov rfl ?_ | refine WS.near rfl o_pickT rfl ?_ | refine WS.near rfl o_pickF rfl ?_ | refine WS.near rfl o_notT rfl ?_ | refine WS.near rfl o_lss rfl ?_ | refine WS.near rfl o_gtr rfl ?_ | refine WS.near rfl o_geq rfl ?_ | refine WS.near rfl o_neq rfl ?_ | refine WS.near rfl o_lenM rfl ?_ | refine WS.near rfl o_lenF rfl ?_ | refine WS.near rfl o_loadF rfl ?_
          | refine WS.near rfl (o_extract rfl) rfl ?_ | refine WS.near rfl (o_add (by omega) (by omega)) rfl ?_ | refine WS.near rfl (o_faddrF (Nat.le_of_ble_eq_true rfl)) rfl ?_ | refine WS.near rfl (o_iaddrM rfl (by omega)) rfl ?_)
      · exfalso; omega
      · exfalso; omega
      have hld : ∀ bs : List (Option (List V)), bget bs 0 = some (blanks.map V.str) → hload bs 0 ((0 + j) * 1) = some (.str w) := fun bs hb => hload_of hb (by
        have h1 : j < (blanks.map V.str).length := by simpa using hj5
        have h2 : (0 + j) * 1 = j := by omega
        rw [h2, List.drop_eq_getElem_cons h1, ← hwd]
        simp [strAt, List.getD, hj5])
      have hpl : ((s.take ta).drop (fromAt ts i)).length = ta - fromAt ts i := by rw [List.length_drop, List.length_take]; omega
      have hps : Small ((s.take ta).drop (fromAt ts i)) := fun b hb => hs b (List.mem_of_mem_take (List.mem_of_mem_drop hb))
      have hwl : w.length ≤ 6 := by
        have : ∀ x ∈ blanks, x.length ≤ 6 := by decide
        exact this w hwm
      have hws : Small w := by
        have : ∀ x ∈ blanks, ∀ b ∈ x, b < 256 := by decide
        exact this w hwm
      refine WS.near rfl (o_loadH (hld bs hb0)) rfl ?_
      obtain ⟨v1, bs1, d1, l1, _, k1⟩ := app_row hf hsl hgb.row hgb.len (by simp) (by show acc.length + _ ≤ 140737488355328; omega)
      obtain ⟨k2, k3⟩ := k1 0 _ hb0 hne
      refine WS.nearC rfl d1 rfl ⟨⟨_, _, _, rfl, o_loadH (hld bs1 k2), rfl⟩, trivial⟩ ?_
      obtain ⟨v2, bs2, d2, l2, _, k4⟩ := app_row (x := .str w) (news := u8s w) (m := w.length) hf l1 rfl rfl (by simp [u8s]) (by show acc.length + _ + _ ≤ 140737488355328; omega)
      obtain ⟨k5, k6⟩ := k4 0 _ k2 k3
      refine WS.near rfl d2 rfl ?_
      repeat' (first
          | refine WS.near rfl (o_iaddrT (a := tk) (b := tn) (c := ta) (x := tx) i rfl hget) rfl ?_ | refine W.seq ?_ | refine W.region ?_ | refine WS.nil ?_ | refine W.skip ?_ | refine W.block ?_ | refine W.ret ?_ | refine W.exit ?_ | refine W.yes rfl rfl ?_ | refine W.no rfl rfl ?_ | refine W.fork rfl (fun _ => ?_) (fun _ => ?_) | refine WS.guardT rfl ?_ | refine WS.guardF rfl rfl rfl ?_ | refine WS.guardK rfl (fun _ => ?_) (fun _ => ?_) | refine WS.near rfl o_mov rfl ?_ | refine WS.near rfl o_pickT rfl ?_ | refine WS.near rfl o_pickF rfl ?_ | refine WS.near rfl o_notT rfl ?_ | refine WS.near rfl o_lss rfl ?_ | refine WS.near rfl o_gtr rfl ?_ | refine WS.near rfl o_geq rfl ?_ | refine WS.near rfl o_neq rfl ?_ | refine WS.near rfl o_lenM rfl ?_ | refine WS.near rfl o_lenF rfl ?_ | refine WS.near rfl o_loadF rfl ?_ | refine WS.near rfl (o_extract rfl) rfl ?_
          | refine WS.near rfl (o_add (by omega) (by omega)) rfl ?_ | refine WS.near rfl (o_faddrF (Nat.le_of_ble_eq_true rfl)) rfl ?_ | refine WS.near rfl (o_iaddrM rfl (by omega)) rfl ?_)
      have hpe : (s.drop (fromAt ts i)).take (ta - fromAt ts i) = (s.take ta).drop (fromAt ts i) := by rw [List.drop_take]
      rw [hpe] at hia
      refine ⟨⟨i + 1, v2, acc ++ ((s.take ta).drop (fromAt ts i) ++ w), bs2⟩, ⟨by show i + 1 ≤ ts.length; omega, ?_, ?_, k5, k6, ?_, ?_⟩, by show ts.length - (i + 1) < ts.length - i; omega, ⟨rfl, rfl, rfl, rfl, rfl, congrArg (fun z : Nat => some (V.int .i64 z)) hnf.symm, rfl, trivial⟩, rfl⟩
      · have e1 : u8s (acc ++ ((s.take ta).drop (fromAt ts i) ++ w)) = u8s acc ++ (((s.take ta).drop (fromAt ts i)).map fun (b : Nat) => V.int .u8 (b : Int)) ++ u8s w := by simp [u8s]
        have e2 : (acc ++ ((s.take ta).drop (fromAt ts i) ++ w)).length = acc.length + ((s.take ta).drop (fromAt ts i)).length + w.length := by simp only [List.length_append]; omega
        show IsSl h bs2 1 v2 (acc ++ ((s.take ta).drop (fromAt ts i) ++ w)).length (u8s (acc ++ ((s.take ta).drop (fromAt ts i) ++ w)))
        rw [e1, e2]
        exact l2
      · show acc ++ ((s.take ta).drop (fromAt ts i) ++ w) ++ insV w s (fromAt ts (i + 1)) (ts.drop (i + 1)) = _
        rw [← hac, hia]
        simp only [List.append_assoc]
      · intro b hb
        rcases List.mem_append.1 hb with hb | hb
        · exact hsm b hb
        · rcases List.mem_append.1 hb with hb | hb
          · exact hps b hb
          · exact hws b hb
      · show (acc ++ ((s.take ta).drop (fromAt ts i) ++ w)).length ≤ fromAt ts (i + 1) + 6 * (i + 1)
        rw [hnf]
        simp only [List.length_append]
        omega
    · rename_i hge
      rw [hlen] at hge
      have hi2 : i = ts.length := by omega
      subst hi2
      rw [List.drop_length, insV_nil, List.append_nil] at hac
      have hfa := fromAt_end hg
      have hlg := good_len hg
      obtain ⟨p, hbad⟩ | ⟨vs, vs', e1, e2, e3, e4, _⟩ := ins_toks w hwm s (insGo w (s.length + 1) s 0) (s.length + 1) 0 ((insGo w (s.length + 1) s 0).length + 1) 0 [] [] (by omega) (by omega) (by omega) (by omega) (by simp)
      · exfalso
        have h1 := hbad.symm.trans e
        have h2 := (List.cons.inj (V.tup.inj h1)).1
        cases h2
      · rw [List.nil_append] at e1 e2
        have h1 := e1.symm.trans e
        have h2 := (V.fsl.inj (List.cons.inj (V.tup.inj h1)).1).1
        have h3 : vs = ts := (List.map_inj_right T4.v_inj).1 h2
        subst h3
        rw [e4, ← hac] at e2
        have hal2 : acc.length ≤ 65536 := by
          have : ¬ (1000 : Int) < ((s.length : Nat) : Int) := hbig
          omega
        have t2 := tokens_pu out acc hsm hal2
        rw [show toksGo (acc.length + 1) acc 0 0 [] = _ from e2] at t2
        refine WS.puC hf (Pre := fun g => Bytes g out acc) (isl_bytes hsl hsm) rfl rfl t2 ?_
        have hl2 : vs'.length = vs.length := by have := congrArg List.length e3; simpa using this.symm
        have hlen2 : (vs'.map T4.v).length = vs.length := by rw [List.length_map, hl2]
        repeat' (first
            | refine W.seq ?_ | refine W.region ?_ | refine WS.nil ?_ | refine W.skip ?_ | refine W.block ?_ | refine W.ret ?_ | refine W.exit ?_ | refine W.yes rfl rfl ?_ | refine W.no rfl rfl ?_ | refine W.fork rfl (fun _ => ?_) (fun _ => ?_) | refine WS.guardT rfl ?_ | refine WS.guardF rfl rfl rfl ?_ | refine WS.guardK rfl (fun _ => ?_) (fun _ => ?_) | refine WS.near rfl o_mov rfl ?_ | refine WS.near rfl o_pickT rfl ?_ | refine WS.near rfl o_pickF rfl ?_ | refine WS.near rfl o_notT rfl ?_ | refine WS.near rfl o_lss rfl ?_ | refine WS.near rfl o_gtr rfl ?_ | refine WS.near rfl o_geq rfl ?_ | refine WS.near rfl o_neq rfl ?_ | refine WS.near rfl o_lenM rfl ?_ | refine WS.near rfl o_lenF rfl ?_ | refine WS.near rfl o_loadF rfl ?_ | refine WS.near rfl (o_extract rfl) rfl ?_ | refine WS.near rfl (o_add (by omega) (by omega)) rfl ?_ | refine WS.near rfl (o_faddrF (Nat.le_of_ble_eq_true rfl)) rfl ?_
            | refine WS.near rfl (o_iaddrM rfl (by omega)) rfl ?_)
        refine WS.puF hf rfl rfl (num_pu _) ?_
        repeat' (first
            | refine W.seq ?_ | refine W.region ?_ | refine WS.nil ?_ | refine W.skip ?_ | refine W.block ?_ | refine W.ret ?_ | refine W.exit ?_ | refine W.yes rfl rfl ?_ | refine W.no rfl rfl ?_ | refine W.fork rfl (fun _ => ?_) (fun _ => ?_) | refine WS.guardT rfl ?_ | refine WS.guardF rfl rfl rfl ?_ | refine WS.guardK rfl (fun _ => ?_) (fun _ => ?_) | refine WS.near rfl o_mov rfl ?_ | refine WS.near rfl o_pickT rfl ?_ | refine WS.near rfl o_pickF rfl ?_ | refine WS.near rfl o_notT rfl ?_ | refine WS.near rfl o_lss rfl ?_ | refine WS.near rfl o_gtr rfl ?_ | refine WS.near rfl o_geq rfl ?_ | refine WS.near rfl o_neq rfl ?_ | refine WS.near rfl o_lenM rfl ?_ | refine WS.near rfl o_lenF rfl ?_ | refine WS.near rfl o_loadF rfl ?_ | refine WS.near rfl (o_extract rfl) rfl ?_ | refine WS.near rfl (o_add (by omega) (by omega)) rfl ?_ | refine WS.near rfl (o_faddrF (Nat.le_of_ble_eq_true rfl)) rfl ?_
            | refine WS.near rfl (o_iaddrM rfl (by omega)) rfl ?_)
        · rename_i hbad; rw [hlen, hlen2] at hbad; exact absurd rfl hbad
        refine W.loop (fun j : Nat => [(5, .fsl (vs.map T4.v) none), (10, .fsl (vs'.map T4.v) none), (12, .int .i64 j)]) (fun _ => hp h bs) (fun j => j ≤ vs.length) (fun j => vs.length - j) 0 (Nat.zero_le _) ⟨rfl, rfl, rfl, trivial⟩ rfl ?_
        intro j hj
        repeat' (first
            | refine W.seq ?_ | refine W.region ?_ | refine WS.nil ?_ | refine W.skip ?_ | refine W.block ?_ | refine W.ret ?_ | refine W.exit ?_ | refine W.yes rfl rfl ?_ | refine W.no rfl rfl ?_ | refine W.fork rfl (fun _ => ?_) (fun _ => ?_) | refine WS.guardT rfl ?_ | refine WS.guardF rfl rfl rfl ?_ | refine WS.guardK rfl (fun _ => ?_) (fun _ => ?_) | refine WS.near rfl o_mov rfl ?_ | refine WS.near rfl o_pickT rfl ?_ | refine WS.near rfl o_pickF rfl ?_ | refine WS.near rfl o_notT rfl ?_ | refine WS.near rfl o_lss rfl ?_ | refine WS.near rfl o_gtr rfl ?_ | refine WS.near rfl o_geq rfl ?_ | refine WS.near rfl o_neq rfl ?_ | refine WS.near rfl o_lenM rfl ?_ | refine WS.near rfl o_lenF rfl ?_ | refine WS.near rfl o_loadF rfl ?_ | refine WS.near rfl (o_extract rfl) rfl ?_ | refine WS.near rfl (o_add (by omega) (by omega)) rfl ?_ | refine WS.near rfl (o_faddrF (Nat.le_of_ble_eq_true rfl)) rfl ?_
            | refine WS.near rfl (o_iaddrM rfl (by omega)) rfl ?_)
        · rename_i hlt
          rw [hlen] at hlt
          have hj' : j < vs.length := by omega
          have g1 : vs[j]? = some vs[j] := List.getElem?_eq_getElem hj'
          have g2 : vs'[j]? = some (vs'[j]'(by omega)) := List.getElem?_eq_getElem _
          have g3 : ((vs[j]).k, (vs[j]).n, (vs[j]).x) = ((vs'[j]'(by omega)).k, (vs'[j]'(by omega)).n, (vs'[j]'(by omega)).x) := by
            have := congrArg (fun l => l[j]?) e3
            simp only [List.getElem?_map, g1, g2, Option.map_some, Option.some.injEq] at this
            exact this
          have q1 : (vs.map T4.v)[j]? = some (vs[j]).v := by rw [List.getElem?_map, g1]; rfl
          have q2 : (vs'.map T4.v)[j]? = some (vs'[j]'(by omega)).v := by rw [List.getElem?_map, g2]; rfl
          generalize vs[j] = t at *
          generalize (vs'[j]'(by omega)) = t' at *
          obtain ⟨tk, tn, ta, tx⟩ := t
          obtain ⟨tk', tn', ta', tx'⟩ := t'
          simp only [Prod.mk.injEq] at g3
          obtain ⟨rfl, rfl, rfl⟩ := g3
          repeat' (first
              | refine WS.near rfl (o_iaddrT (a := tk) (b := tn) (c := ta) (x := tx) j rfl q1) rfl ?_ | refine WS.near rfl (o_iaddrT (a := tk) (b := tn) (c := ta') (x := tx) j rfl q2) rfl ?_ | refine WS.near rfl o_sneqR rfl ?_ | refine W.seq ?_ | refine W.region ?_ | refine WS.nil ?_ | refine W.skip ?_ | refine W.block ?_ | refine W.ret ?_ | refine W.exit ?_ | refine W.yes rfl rfl ?_ | refine W.no rfl rfl ?_ | refine W.fork rfl (fun _ => ?_) (fun _ => ?_) | refine WS.guardT rfl ?_ | refine WS.guardF rfl rfl rfl ?_ | refine WS.guardK rfl (fun _ => ?_) (fun _ => ?_) | refine WS.near rfl o_mov rfl ?_ | refine WS.near rfl o_pickT rfl ?_ | refine WS.near rfl o_pickF rfl ?_ | refine WS.near rfl o_notT rfl ?_ | refine WS.near rfl o_lss rfl ?_ | refine WS.near rfl o_gtr rfl ?_ | refine WS.near rfl o_geq rfl ?_ | refine WS.near rfl o_neq rfl ?_ | refine WS.near rfl o_lenM rfl ?_
              | refine WS.near rfl o_lenF rfl ?_ | refine WS.near rfl o_loadF rfl ?_ | refine WS.near rfl (o_extract rfl) rfl ?_ | refine WS.near rfl (o_add (by omega) (by omega)) rfl ?_ | refine WS.near rfl (o_faddrF (Nat.le_of_ble_eq_true rfl)) rfl ?_ | refine WS.near rfl (o_iaddrM rfl (by omega)) rfl ?_)
          all_goals first
            | (exfalso; omega)
            | exact absurd rfl (by assumption)
            | exact ⟨j + 1, (by show j + 1 ≤ vs.length; omega), (by show vs.length - (j + 1) < vs.length - j; omega), ⟨rfl, rfl, rfl, trivial⟩, rfl⟩
        · exact ⟨_, rfl, fin_bool rfl⟩

theorem lblanks_all (u : V) (s : List Nat) (which : Int) (hu : (u = .nilsl ∧ s = []) ∨ (u = .esl ∧ s = []) ∨ u = .fsl (s.map fun (b : Nat) => V.int .u8 (b : Int)) none) (hs : ∀ b ∈ s, b < 256) : PuF D1 6 [u, .int .i64 which] (.bool true) :=
  lblanks_pu u s which hs (param_of u s hu hs)
end Go.Proofs.YthclejjieggdkaaDoor.CodesL
