/- Expressions: whether one may be, by the document. -/
import Derived.Test.YtfbikhkmamdjmaaDoorWK3
import Derived.Test.YtfbikhkmamdjmaaDoorWV1
namespace Go.Proofs.YtfbikhkmamdjmaaDoor.CodesK
open Go Go.Ab
set_option maxHeartbeats 4000000
set_option maxRecDepth 100000

theorem arity_eq (k : Int) : arity k = if (6 ≤ k ∧ k ≤ 13) ∨ k = 15 ∨ k = 19 then 2 else if k = 14 ∨ (16 ≤ k ∧ k ≤ 18) then 1 else 0 := by
  unfold arity
  by_cases h : 0 ≤ k ∧ k < 20
  · obtain ⟨n, rfl⟩ : ∃ n : Nat, k = n := ⟨k.toNat, by omega⟩
    have hn : n < 20 := by omega
    have key : ∀ n : Nat, n < 20 → kidsL.getD (Int.toNat (n : Int)) 0 = if (6 ≤ (n : Int) ∧ (n : Int) ≤ 13) ∨ (n : Int) = 15 ∨ (n : Int) = 19 then 2 else if (n : Int) = 14 ∨ (16 ≤ (n : Int) ∧ (n : Int) ≤ 18) then 1 else 0 := by decide
    exact key n hn
  · rw [if_neg (by omega), if_neg (by omega)]
    by_cases h1 : k < 0
    · have : k.toNat = 0 := by omega
      rw [this]; rfl
    · have h2 : kidsL.length ≤ k.toNat := by show 20 ≤ k.toNat; omega
      simp [List.getD, List.getElem?_eq_none h2]
theorem rkids_pu (k : Int) : PuF D1 123 [i64 k] (i64 (arity k)) := by
  have e := arity_eq k
  refine PuF.tidy rfl rfl rfl rfl rfl fun h hf => ?_
  repeat' (first
      | refine W.seq ?_ | refine W.region ?_ | refine WS.nil ?_ | refine W.skip ?_ | refine W.block ?_ | refine W.ret ?_ | refine W.yes rfl rfl ?_ | refine W.no rfl rfl ?_ | refine W.fork rfl (fun _ => ?_) (fun _ => ?_) | refine WS.guardT rfl ?_ | refine WS.guardF rfl rfl rfl ?_ | refine WS.guardV rfl rfl ?_ | refine WS.guardK rfl (fun _ => ?_) (fun _ => ?_) | refine WS.near rfl o_mov rfl ?_ | refine WS.near rfl o_pickT rfl ?_ | refine WS.near rfl o_pickF rfl ?_ | refine WS.near rfl o_leq rfl ?_ | refine WS.near rfl o_geq rfl ?_ | refine WS.near rfl o_eql rfl ?_ | fail)
  all_goals
    refine ⟨_, rfl, fin_int ?_⟩
    rw [e]
    first
    | (exfalso; omega)
    | rw [if_pos (by omega)]
    | (rw [if_neg (by omega)]
       first
       | rw [if_pos (by omega)]
       | rw [if_neg (by omega)])
    | fail
theorem not_ne {α : Type} {a b : α} (h : ¬ a ≠ b) : a = b := Classical.not_not.1 h
theorem o_xorT {q : Prop} [Decidable q] {h : Heap} : Does (.binB true (.v (.bool true)) (.v (.bool (decide q)))) h (.bool (decide (¬ q))) h := by
  refine ⟨?_⟩; rw [op1v]; by_cases hq : q <;> simp [op1, ev, hq]
theorem o_xor {p q : Prop} [Decidable p] [Decidable q] {h : Heap} : Does (.binB true (.v (.bool (decide p))) (.v (.bool (decide q)))) h (.bool (decide (¬ (p ↔ q)))) h := by
  refine ⟨?_⟩; rw [op1v]; by_cases hp : p <;> by_cases hq : q <;> simp [op1, ev, hp, hq]
open Classical in
theorem rright_pu : ∀ (m : Nat) (x : EX), m ≤ 40 → x.Ok → x.Sm → PuF D1 80 [x.v, i64 (41 - (m : Nat))] (.bool (rightF m x))
  | 0, x, _, hx, _ => by
    refine PuF.tidy rfl rfl rfl rfl rfl fun h hf => ?_
    repeat' (first
        | refine WS.passC rfl rfl rfl ⟨.inl rfl, .inl rfl, trivial⟩ ?_ | refine W.seq ?_ | refine W.region ?_ | refine WS.nil ?_ | refine W.ret ?_ | refine W.yes rfl rfl ?_ | refine WS.guardF rfl rfl rfl ?_ | refine WS.near rfl o_mov rfl ?_ | refine WS.near rfl o_pickT rfl ?_ | refine WS.near rfl o_gtr rfl ?_ | refine WS.near rfl (o_boxH 0 rfl) rfl ?_ | fail)
    all_goals first | exact ⟨_, rfl, fin_bool rfl⟩ | (exfalso; omega)
  | m + 1, x, hm, hx, hbig => by
    have hkm : (x.kids.map EX.v).length = x.kids.length := List.length_map ..
    have hin := hx.kn.2
    unfold In64 at hin
    have hb3 : ∀ i, i < x.kids.length → (x.kids.getD i default).Sm := fun i hi => hbig.kid hi
    have hnl : x.name.length < 2 ^ 60 := hbig.name
    refine PuF.tidy rfl rfl rfl rfl rfl fun h hf => ?_
    repeat' (first
        | refine WS.near rfl o_xorT rfl ?_ | refine WS.near rfl o_xor rfl ?_ | refine WS.near rfl (o_lenZ hx.fz) rfl ?_ | refine WS.puF hf rfl rfl (refName_pu _ hnl) ?_ | refine WS.passC rfl rfl rfl ⟨.inl rfl, .inl rfl, trivial⟩ ?_ | refine WS.guardC rfl ?_ | refine WS.puG hf rfl rfl (rkids_pu _) ⟨.inr ⟨rfl, _, _, _, rfl, o_lenZ hx.fz, rfl⟩, .inr ⟨rfl, _, _, _, rfl, o_loadH rfl, rfl⟩, trivial⟩ ?_ | refine W.seq ?_ | refine W.region ?_ | refine WS.nil ?_ | refine W.skip ?_ | refine W.block ?_ | refine W.ret ?_ | refine W.yes rfl rfl ?_ | refine W.no rfl rfl ?_ | refine W.fork rfl (fun _ => ?_) (fun _ => ?_) | refine WS.guardF rfl rfl rfl ?_ | refine WS.guardV rfl rfl ?_ | refine WS.guardK rfl (fun _ => ?_) (fun _ => ?_) | refine WS.near rfl o_mov rfl ?_ | refine WS.near rfl o_pickT rfl ?_ | refine WS.near rfl o_pickF rfl ?_ | refine WS.near rfl o_lss rfl ?_ | refine WS.near rfl o_gtr rfl ?_
        | refine WS.near rfl o_eql rfl ?_ | refine WS.near rfl o_neq rfl ?_ | refine WS.near rfl o_sneq0 rfl ?_ | refine WS.near rfl o_not rfl ?_ | refine WS.near rfl o_faddr rfl ?_ | refine WS.near rfl (o_loadH rfl) rfl ?_ | refine WS.near rfl (o_boxH 0 rfl) rfl ?_ | fail)
    all_goals
      first
      | (refine ⟨_, rfl, fin_bool (right_no fun ho => ?_)⟩
         obtain ⟨a1, a2, a3, a4, a5, a6, a7, a8⟩ := ho
         clear hb3
         first
           | omega
           | (have a9 := a4 (by omega); contradiction)
           | (have a9 := a5 (by omega) (by omega); have a10 := congrArg List.length a9; simp only [List.length_nil] at a10; omega)
           | (have a9 := (a4 (by omega)).1.1; omega)
           | contradiction
           | (by_cases h3 : x.k = 3
              · have a9 := (a4 (by omega)).1.1
                omega
              · have a9 := a5 (by omega) (by omega)
                have a10 := congrArg List.length a9
                simp only [List.length_nil] at a10
                omega)
           | fail)
      | (exfalso; clear hb3; omega)
      | (have hok : okN x := by
          clear hb3
          refine ⟨by omega, by omega, by omega, fun h1 => ?_, fun h1 h2 => ?_, fun h1 => by omega, fun h1 => by omega, fun h1 => by omega⟩
          · first | (exfalso; omega) | exact Classical.not_not.1 (by assumption) | fail
          · exact List.length_eq_zero_iff.1 (by omega)
         have e2 := right_yes (m := m) hok
         have har := hok.ar
         have har2 := arity_le x.k
         have hsm : x.kids.length ≤ 2 := by omega
         clear har har2
         refine W.loop (fun i : Nat => [(1, i64 (41 - ((m + 1 : Nat) : Int))), (2, .mptr (h.next + 0) 0), (5, i64 i)]) (fun _ => hp h [some x.cells])
           (fun i => i ≤ x.kids.length ∧ rightF (m + 1) x = (x.kids.drop i).all (rightF m)) (fun i => x.kids.length - i)
           0 ⟨Nat.zero_le _, by rw [List.drop_zero]; exact e2⟩ (by exact ⟨rfl, rfl, rfl, trivial⟩) rfl ?_
         clear e2
         rintro i ⟨hi, hs⟩
         repeat' (first
             | refine WS.near rfl (o_lenZ hx.fz) rfl ?_ | refine W.seq ?_ | refine W.region ?_ | refine WS.nil ?_ | refine W.skip ?_ | refine W.block ?_ | refine W.ret ?_ | refine W.exit ?_ | refine W.fork rfl (fun _ => ?_) (fun _ => ?_) | refine WS.near rfl o_mov rfl ?_ | refine WS.near rfl o_lss rfl ?_ | refine WS.near rfl o_faddr rfl ?_ | refine WS.near rfl (o_loadH rfl) rfl ?_ | fail)
         · have hlt : i < x.kids.length := by omega
           rw [all_drop hlt] at hs
           have hy := hx.kid hlt
           have hyb := hb3 i hlt
           refine WS.near rfl (o_iaddrZ i hx.fz rfl (fz_at (d := default) i hlt) rfl) rfl ?_
           generalize x.kids.getD i default = y at hs hy hyb ⊢
           have ih := rright_pu m y (by omega) hy hyb
           have e1 : (i : Int) + 1 = ((i + 1 : Nat) : Int) := by omega
           have ed : 41 - ((m + 1 : Nat) : Int) + 1 = 41 - (m : Nat) := by omega
           rw [← ed] at ih
           cases hb : rightF m y with
           | true =>
             rw [hb] at ih hs
             rw [Bool.true_and] at hs
             repeat' (first
                 | refine WS.near rfl (o_loadA rfl) rfl ?_ | refine WS.puF hf rfl rfl ih ?_ | refine W.region ?_ | refine WS.nil ?_ | refine W.skip ?_ | refine W.no rfl rfl ?_ | refine WS.near rfl o_notT rfl ?_ | refine WS.near rfl (o_add (by omega) (by omega)) rfl ?_ | fail)
             exact ⟨i + 1, ⟨by omega, hs⟩, by show x.kids.length - (i + 1) < x.kids.length - i; omega, ⟨rfl, rfl, congrArg (fun z => some (V.int .i64 z)) e1, trivial⟩, rfl⟩
           | false =>
             rw [hb] at ih hs
             repeat' (first
                 | refine WS.near rfl (o_loadA rfl) rfl ?_ | refine WS.puF hf rfl rfl ih ?_ | refine W.seq ?_ | refine W.region ?_ | refine WS.nil ?_ | refine W.ret ?_ | refine W.yes rfl rfl ?_ | refine WS.near rfl o_mov rfl ?_ | refine WS.near rfl o_notF rfl ?_ | refine WS.near rfl (o_add (by omega) (by omega)) rfl ?_ | fail)
             exact ⟨_, rfl, fin_bool (by rw [hs]; rfl)⟩
         · have hge : x.kids.drop i = [] := List.drop_eq_nil_of_le (by omega)
           rw [hge] at hs
           exact ⟨_, rfl, fin_bool hs.symm⟩)
theorem rightR_pu (x : EX) (hx : x.Ok) (hb : x.Sm) : PuF D1 39 [x.v] (.bool (rightF 40 x)) := by
  refine PuF.tidy rfl rfl rfl rfl rfl fun h hf => ?_
  repeat' (first
      | refine WS.near rfl (o_loadHN rfl rfl) rfl ?_ | refine WS.puF hf rfl rfl (rright_pu 40 x (by omega) hx hb) ?_ | refine W.seq ?_ | refine W.region ?_ | refine WS.nil ?_ | refine W.ret ?_ | refine WS.near rfl o_mov rfl ?_ | refine WS.near rfl (o_loadHN rfl rfl) rfl ?_ | refine WS.near rfl (o_boxH 0 rfl) rfl ?_ | fail)
  exact ⟨_, rfl, fin_bool rfl⟩
end Go.Proofs.YtfbikhkmamdjmaaDoor.CodesK
