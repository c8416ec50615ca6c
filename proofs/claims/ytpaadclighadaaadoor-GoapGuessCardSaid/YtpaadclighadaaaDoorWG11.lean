/- GoapGuess: whatever the domain, the state and the act. -/
import Derived.Test.YtpaadclighadaaaDoorWG10a
namespace Go.Proofs.YtpaadclighadaaaDoor.CodesG
open Go Go.Ab Go.Goap
set_option maxHeartbeats 800000
set_option maxRecDepth 100000

def wideB (v : Var) : Bool := decide (v.high < v.low) || (decide (v.low < -100) || decide (100 < v.high))
def fewVars : List Var → Int → Bool
  | [], _ => true
  | v :: r, n => !wideB v && (!decide (2000 < n * (v.high - v.low + 1)) && fewVars r (n * (v.high - v.low + 1)))
def fewA (r : AR) : Bool := decide (r.a.need.length ≤ 8) && decide (r.a.make.length ≤ 8)
def fewB (d : DR) : Bool := fewVars d.vars 1 && (d.acts.all fewA && (decide (d.vars.length ≤ 3) && (decide (d.acts.length ≤ 8) && decide (d.goal.length ≤ 8))))
theorem fewVars_at : ∀ (l : List Var) (n : Int), fewVars l n = true → ∀ i, i < l.length → -100 ≤ (l.getD i default).low ∧ (l.getD i default).high ≤ 100 ∧ (l.getD i default).low ≤ (l.getD i default).high
  | [], _, _, i, hi => by simp at hi
  | v :: r, n, h, i, hi => by
    unfold fewVars at h
    simp only [Bool.and_eq_true, Bool.not_eq_true', wideB, Bool.or_eq_false_iff, decide_eq_false_iff_not] at h
    obtain ⟨⟨h1, h2, h3⟩, _, h4⟩ := h
    cases i with
    | zero => simp only [List.getD_cons_zero]; omega
    | succ i => simp only [List.getD_cons_succ]; exact fewVars_at r _ h4 i (by simpa using hi)
theorem fewVars_drop {l : List Var} {i : Nat} {n : Int} (hi : i < l.length) : fewVars (l.drop i) n = (!wideB (l.getD i default) && (!decide (2000 < n * ((l.getD i default).high - (l.getD i default).low + 1)) && fewVars (l.drop (i + 1)) (n * ((l.getD i default).high - (l.getD i default).low + 1)))) := by
  rw [List.drop_eq_getElem_cons hi]
  simp only [fewVars, List.getD, List.getElem?_eq_getElem hi, Option.getD_some]

structure FS where
  i : Nat
  n : Int
  bs : List (Option (List V))
theorem few_pu (d : DR) (hv : d.vars.length ≤ 9223372036854775807) (ha : d.acts.length ≤ 9223372036854775807) : PuF D1 15 [d.v] (.bool (fewB d)) := by
  have hvm : (d.vars.map varV).length = d.vars.length := List.length_map ..
  have ham : (d.acts.map AR.v).length = d.acts.length := List.length_map ..
  have hgm : (d.goal.map cdV).length = d.goal.length := List.length_map ..
  refine PuF.tidy rfl rfl rfl rfl rfl fun h hf => ?_
  repeat' (first
      | refine W.seq ?_ | refine W.region ?_ | refine WS.nil ?_ | refine W.skip ?_ | refine W.block ?_ | refine W.ret ?_ | refine W.exit ?_ | refine W.yes rfl rfl ?_ | refine W.fork rfl (fun _ => ?_) (fun _ => ?_) | refine WS.guardT rfl ?_ | refine WS.guardF rfl rfl rfl ?_ | refine WS.guardK rfl (fun _ => ?_) (fun _ => ?_) | refine WS.near rfl o_mov rfl ?_ | refine WS.near rfl o_pickT rfl ?_ | refine WS.near rfl o_pickF rfl ?_ | refine WS.near rfl o_lss rfl ?_ | refine WS.near rfl o_leq rfl ?_ | refine WS.near rfl o_gtr rfl ?_ | refine WS.near rfl o_faddr rfl ?_ | refine WS.near rfl o_loadF rfl ?_ | refine WS.near rfl (o_boxH 0 rfl) rfl ?_ | refine WS.near rfl (o_add (by omega) (by omega)) rfl ?_ | refine WS.near rfl (o_sub (by omega) (by omega)) rfl ?_ | refine WS.near rfl (o_faddrF (Nat.le_of_ble_eq_true rfl)) rfl ?_)
  refine W.loop (fun a : FS => [(1, .mptr (h.next + 0) 0), (3, i64 a.n), (4, .int .i64 (a.i : Nat))]) (fun a => hp h a.bs)
    (fun a => a.i ≤ d.vars.length ∧ bget a.bs 0 = some d.cells ∧ (1 ≤ a.n ∧ a.n ≤ 2000) ∧ fewVars d.vars 1 = fewVars (d.vars.drop a.i) a.n) (fun a => d.vars.length - a.i)
    ⟨0, 1, [some d.cells]⟩ ⟨Nat.zero_le _, rfl, ⟨by show (1 : Int) ≤ 1; omega, by show (1 : Int) ≤ 2000; omega⟩, by rw [List.drop_zero]⟩ ⟨rfl, rfl, rfl, trivial⟩ rfl ?_
  rintro ⟨i, n, bs⟩ ⟨hi, hb0, ⟨n0, n1⟩, hr⟩
  simp only at hi hb0 n0 n1 hr ⊢
  repeat' (first
      | refine WS.near rfl (o_loadH (hload_of hb0 rfl)) rfl ?_ | refine WS.near rfl (o_lenZ d.hvs) rfl ?_ | refine W.seq ?_ | refine W.region ?_ | refine WS.nil ?_ | refine W.skip ?_ | refine W.block ?_ | refine W.ret ?_ | refine W.exit ?_ | refine W.yes rfl rfl ?_ | refine W.fork rfl (fun _ => ?_) (fun _ => ?_) | refine WS.guardT rfl ?_ | refine WS.guardF rfl rfl rfl ?_ | refine WS.guardK rfl (fun _ => ?_) (fun _ => ?_) | refine WS.near rfl o_mov rfl ?_ | refine WS.near rfl o_pickT rfl ?_ | refine WS.near rfl o_pickF rfl ?_ | refine WS.near rfl o_lss rfl ?_ | refine WS.near rfl o_leq rfl ?_ | refine WS.near rfl o_gtr rfl ?_ | refine WS.near rfl o_faddr rfl ?_ | refine WS.near rfl o_loadF rfl ?_ | refine WS.near rfl (o_boxH 0 rfl) rfl ?_ | refine WS.near rfl (o_add (by omega) (by omega)) rfl ?_ | refine WS.near rfl (o_sub (by omega) (by omega)) rfl ?_
      | refine WS.near rfl (o_faddrF (Nat.le_of_ble_eq_true rfl)) rfl ?_)
  · have hlt : i < d.vars.length := by omega
    rw [fewVars_drop hlt] at hr
    refine WS.near rfl (o_iaddrZ i d.hvs rfl (fz_at (d := default) i hlt) rfl) rfl ?_
    generalize d.vars.getD i default = v at hr ⊢
    repeat' (first
        | refine WS.near rfl (o_loadA rfl) rfl ?_ | refine W.seq ?_ | refine W.region ?_ | refine WS.nil ?_ | refine W.skip ?_ | refine W.block ?_ | refine W.ret ?_ | refine W.exit ?_ | refine W.yes rfl rfl ?_ | refine W.fork rfl (fun _ => ?_) (fun _ => ?_) | refine WS.guardT rfl ?_ | refine WS.guardF rfl rfl rfl ?_ | refine WS.guardK rfl (fun _ => ?_) (fun _ => ?_) | refine WS.near rfl o_mov rfl ?_ | refine WS.near rfl o_pickT rfl ?_ | refine WS.near rfl o_pickF rfl ?_ | refine WS.near rfl o_lss rfl ?_ | refine WS.near rfl o_leq rfl ?_ | refine WS.near rfl o_gtr rfl ?_ | refine WS.near rfl o_faddr rfl ?_ | refine WS.near rfl o_loadF rfl ?_ | refine WS.near rfl (o_boxH 0 rfl) rfl ?_ | refine WS.near rfl (o_add (by omega) (by omega)) rfl ?_ | refine WS.near rfl (o_sub (by omega) (by omega)) rfl ?_ | refine WS.near rfl (o_faddrF (Nat.le_of_ble_eq_true rfl)) rfl ?_)
    refine WS.near rfl o_allocS rfl ?_
    refine WS.near rfl (o_storeH hf bget_badd rfl) rfl ?_
    have keep : ∀ q lq, bget bs q = some lq → bget (bput (badd bs [.str [], .int .i64 0, .int .i64 0]) bs.length 0 3 (varC v)) q = some lq := fun q lq e => by
      rw [bget_bput_ne (by have := bget_lt e; omega)]
      exact bget_badd_lt e
    have g1 : bget (bput (badd bs [.str [], .int .i64 0, .int .i64 0]) bs.length 0 3 (varC v)) bs.length = some (varC v) := bget_bput (off := 0) (n := 3) (cs := varC v) bget_badd
    change WS D1 (capOfD c15.dep) [] _ (hp h (bput (badd bs [.str [], .int .i64 0, .int .i64 0]) bs.length 0 3 (varC v))) _
    replace hb0 := keep _ _ hb0
    clear keep
    generalize bs.length = K at g1 hb0 ⊢
    generalize bput (badd bs [.str [], .int .i64 0, .int .i64 0]) K 0 3 (varC v) = bs2 at g1 hb0 ⊢
    have e1 : (i : Int) + 1 = ((i + 1 : Nat) : Int) := by omega
    repeat' (first
        | refine WS.near rfl (o_loadH (hload_of g1 rfl)) rfl ?_ | refine W.seq ?_ | refine W.region ?_ | refine WS.nil ?_ | refine W.skip ?_ | refine W.block ?_ | refine W.ret ?_ | refine W.exit ?_ | refine W.yes rfl rfl ?_ | refine W.fork rfl (fun _ => ?_) (fun _ => ?_) | refine WS.guardT rfl ?_ | refine WS.guardF rfl rfl rfl ?_ | refine WS.guardK rfl (fun _ => ?_) (fun _ => ?_) | refine WS.near rfl o_mov rfl ?_ | refine WS.near rfl o_pickT rfl ?_ | refine WS.near rfl o_pickF rfl ?_ | refine WS.near rfl o_lss rfl ?_ | refine WS.near rfl o_leq rfl ?_ | refine WS.near rfl o_gtr rfl ?_ | refine WS.near rfl o_faddr rfl ?_ | refine WS.near rfl o_loadF rfl ?_ | refine WS.near rfl (o_boxH 0 rfl) rfl ?_ | refine WS.near rfl (o_add (by omega) (by omega)) rfl ?_ | refine WS.near rfl (o_sub (by omega) (by omega)) rfl ?_ | refine WS.near rfl (o_faddrF (Nat.le_of_ble_eq_true rfl)) rfl ?_)
    · rename_i h1
      exact ⟨_, rfl, fin_bool (by unfold fewB; rw [hr]; simp [wideB, h1])⟩
    · rename_i h1 h2
      exact ⟨_, rfl, fin_bool (by unfold fewB; rw [hr]; simp [wideB, h2])⟩
    · rename_i h1 h2 h3
      exact ⟨_, rfl, fin_bool (by unfold fewB; rw [hr]; simp [wideB, h3])⟩
    · rename_i h1 h2 h3
      have hw : wideB v = false := by simp [wideB, h1, h2, h3]
      rw [hw] at hr
      simp only [Bool.not_false, Bool.true_and] at hr
      obtain ⟨k, hk⟩ : ∃ k, k = v.high - v.low + 1 := ⟨_, rfl⟩
      have hk2 : v.high - v.low = k - 1 := by omega
      have p0 : 1 * 1 ≤ n * k := Int.mul_le_mul n0 (by omega) (by omega) (by omega)
      have p1 : n * k ≤ 2000 * 201 := Int.mul_le_mul n1 (by omega) (by omega) (by omega)
      rw [← hk] at hr
      refine WS.near' (u := i64 (n * k)) rfl (o_mul (by rw [← hk]; omega) (by rw [← hk]; omega)) rfl (by rw [hk]; rfl) ?_
      repeat' (first
          | refine W.seq ?_ | refine W.region ?_ | refine WS.nil ?_ | refine W.skip ?_ | refine W.block ?_ | refine W.ret ?_ | refine W.exit ?_ | refine W.yes rfl rfl ?_ | refine W.fork rfl (fun _ => ?_) (fun _ => ?_) | refine WS.guardT rfl ?_ | refine WS.guardF rfl rfl rfl ?_ | refine WS.guardK rfl (fun _ => ?_) (fun _ => ?_) | refine WS.near rfl o_mov rfl ?_ | refine WS.near rfl o_pickT rfl ?_ | refine WS.near rfl o_pickF rfl ?_ | refine WS.near rfl o_lss rfl ?_ | refine WS.near rfl o_leq rfl ?_ | refine WS.near rfl o_gtr rfl ?_ | refine WS.near rfl o_faddr rfl ?_ | refine WS.near rfl o_loadF rfl ?_ | refine WS.near rfl (o_boxH 0 rfl) rfl ?_ | refine WS.near rfl (o_add (by omega) (by omega)) rfl ?_ | refine WS.near rfl (o_sub (by omega) (by omega)) rfl ?_ | refine WS.near rfl (o_faddrF (Nat.le_of_ble_eq_true rfl)) rfl ?_)
      · rename_i h4
        exact ⟨_, rfl, fin_bool (by unfold fewB; rw [hr, decide_eq_true h4]; rfl)⟩
      · rename_i h4
        rw [decide_eq_false h4] at hr
        simp only [Bool.not_false, Bool.true_and] at hr
        exact ⟨⟨i + 1, n * k, bs2⟩, ⟨by show i + 1 ≤ d.vars.length; omega, hb0, ⟨by show 1 ≤ n * k; omega, by show n * k ≤ 2000; omega⟩, hr⟩, by show d.vars.length - (i + 1) < d.vars.length - i; omega, ⟨rfl, rfl, congrArg (fun z => some (V.int .i64 z)) e1, trivial⟩, rfl⟩
  · have hge : d.vars.drop i = [] := List.drop_eq_nil_of_le (by omega)
    rw [hge] at hr
    have hr1 : fewVars d.vars 1 = true := hr
    refine W.loop (fun i : Nat => [(1, .mptr (h.next + 0) 0), (6, .int .i64 (i : Nat))]) (fun _ => hp h bs)
      (fun i => i ≤ d.acts.length ∧ d.acts.all fewA = (d.acts.drop i).all fewA) (fun i => d.acts.length - i)
      0 ⟨Nat.zero_le _, by rw [List.drop_zero]⟩ ⟨rfl, rfl, trivial⟩ rfl ?_
    rintro i ⟨hi, hs⟩
    repeat' (first
        | refine WS.near rfl (o_loadH (hload_of hb0 rfl)) rfl ?_ | refine WS.near rfl (o_lenZ d.has) rfl ?_ | refine WS.near rfl (o_lenZ d.hvs) rfl ?_ | refine WS.near rfl (o_lenZ d.hgl) rfl ?_ | refine W.seq ?_ | refine W.region ?_ | refine WS.nil ?_ | refine W.skip ?_ | refine W.block ?_ | refine W.ret ?_ | refine W.exit ?_ | refine W.yes rfl rfl ?_ | refine W.fork rfl (fun _ => ?_) (fun _ => ?_) | refine WS.guardT rfl ?_ | refine WS.guardF rfl rfl rfl ?_ | refine WS.guardK rfl (fun _ => ?_) (fun _ => ?_) | refine WS.near rfl o_mov rfl ?_ | refine WS.near rfl o_pickT rfl ?_ | refine WS.near rfl o_pickF rfl ?_ | refine WS.near rfl o_lss rfl ?_ | refine WS.near rfl o_leq rfl ?_ | refine WS.near rfl o_gtr rfl ?_ | refine WS.near rfl o_faddr rfl ?_ | refine WS.near rfl o_loadF rfl ?_ | refine WS.near rfl (o_boxH 0 rfl) rfl ?_ | refine WS.near rfl (o_add (by omega) (by omega)) rfl ?_
        | refine WS.near rfl (o_sub (by omega) (by omega)) rfl ?_ | refine WS.near rfl (o_faddrF (Nat.le_of_ble_eq_true rfl)) rfl ?_)
    · have hlt : i < d.acts.length := by omega
      have hstep : (d.acts.drop i).all fewA = (fewA (d.acts.getD i default) && (d.acts.drop (i + 1)).all fewA) := by
        rw [List.drop_eq_getElem_cons hlt]
        simp only [List.all_cons, List.getD, List.getElem?_eq_getElem hlt, Option.getD_some]
      rw [hstep] at hs
      have hat : ∀ {H : Heap}, Does (.iaddr 4 (.v d.acs) (.v (.int .i64 (i : Nat)))) H (.fptr (arC (d.acts.getD i default))) H := o_iaddrZ i d.has rfl (fz_at (d := default) i hlt) rfl
      generalize d.acts.getD i default = r at hs hat
      have hnm : (r.a.need.map cdV).length = r.a.need.length := List.length_map ..
      have hmm : (r.a.make.map mkV).length = r.a.make.length := List.length_map ..
      have e1 : (i : Int) + 1 = ((i + 1 : Nat) : Int) := by omega
      repeat' (first
          | refine WS.near rfl hat rfl ?_ | refine WS.near rfl (o_loadH (hload_of hb0 rfl)) rfl ?_ | refine WS.near rfl (o_lenZ r.hnd) rfl ?_ | refine WS.near rfl (o_lenZ r.hmk) rfl ?_ | refine W.seq ?_ | refine W.region ?_ | refine WS.nil ?_ | refine W.skip ?_ | refine W.block ?_ | refine W.ret ?_ | refine W.exit ?_ | refine W.yes rfl rfl ?_ | refine W.fork rfl (fun _ => ?_) (fun _ => ?_) | refine WS.guardT rfl ?_ | refine WS.guardF rfl rfl rfl ?_ | refine WS.guardK rfl (fun _ => ?_) (fun _ => ?_) | refine WS.near rfl o_mov rfl ?_ | refine WS.near rfl o_pickT rfl ?_ | refine WS.near rfl o_pickF rfl ?_ | refine WS.near rfl o_lss rfl ?_ | refine WS.near rfl o_leq rfl ?_ | refine WS.near rfl o_gtr rfl ?_ | refine WS.near rfl o_faddr rfl ?_ | refine WS.near rfl o_loadF rfl ?_ | refine WS.near rfl (o_boxH 0 rfl) rfl ?_ | refine WS.near rfl (o_add (by omega) (by omega)) rfl ?_
          | refine WS.near rfl (o_sub (by omega) (by omega)) rfl ?_ | refine WS.near rfl (o_faddrF (Nat.le_of_ble_eq_true rfl)) rfl ?_)
      · rename_i h5
        have : fewA r = false := by simp [fewA]; omega
        exact ⟨_, rfl, fin_bool (by unfold fewB; rw [hr1, hs, this]; rfl)⟩
      · rename_i h5 h6
        have : fewA r = false := by simp [fewA]; omega
        exact ⟨_, rfl, fin_bool (by unfold fewB; rw [hr1, hs, this]; rfl)⟩
      · rename_i h5 h6
        have : fewA r = true := by simp [fewA]; omega
        rw [this, Bool.true_and] at hs
        exact ⟨i + 1, ⟨by omega, hs⟩, by show d.acts.length - (i + 1) < d.acts.length - i; omega, ⟨rfl, congrArg (fun z => some (V.int .i64 z)) e1, trivial⟩, rfl⟩
    all_goals
      have hge : d.acts.drop i = [] := List.drop_eq_nil_of_le (by omega)
      rw [hge] at hs
      have hs1 : d.acts.all fewA = true := hs
      refine ⟨_, rfl, fin_bool ?_⟩
      unfold fewB
      rw [hr1, hs1]
      rw [hvm, ham, hgm] at *
      first
        | (simp; omega)
        | (have q1 : d.vars.length ≤ 3 := by omega
           have q2 : d.acts.length ≤ 8 := by omega
           rw [decide_eq_true q1, decide_eq_true q2]
           exact decide_eq_decide.2 (by omega))
/-- what the law's look lets in -/
theorem few_spec {d : DR} (h : fewB d = true) : Few d.vars ∧ (∀ r ∈ d.acts, r.a.need.length ≤ 8 ∧ r.a.make.length ≤ 8) ∧ d.vars.length ≤ 3 ∧ d.acts.length ≤ 8 ∧ d.goal.length ≤ 8 := by
  unfold fewB at h
  simp only [Bool.and_eq_true, decide_eq_true_eq, List.all_eq_true, fewA] at h
  obtain ⟨h1, h2, h3, h4, h5⟩ := h
  exact ⟨fewVars_at _ _ h1, h2, h3, h4, h5⟩
end Go.Proofs.YtpaadclighadaaaDoor.CodesG
