/- Names of values: what the functions answer. -/
import Derived.Test.YthclejjieggdkaaDoorValueNamesM
namespace Go.Proofs.YthclejjieggdkaaDoor.ValueNames
open Go Go.Ab CodesV

def isLetter (c : Nat) : Prop := (97 ≤ c ∧ c ≤ 122) ∨ (65 ≤ c ∧ c ≤ 90)
def isDigit (c : Nat) : Prop := 48 ≤ c ∧ c ≤ 57
def goes (c : Nat) : Prop := isLetter c ∨ isDigit c ∨ c = 95
instance (c : Nat) : Decidable (isLetter c) := inferInstanceAs (Decidable (_ ∨ _))
instance (c : Nat) : Decidable (isDigit c) := inferInstanceAs (Decidable (_ ∧ _))
instance (c : Nat) : Decidable (goes c) := inferInstanceAs (Decidable (_ ∨ _))

theorem btrue {p : Prop} [Decidable p] (h : p) : true = decide p := by simp [h]
theorem bfalse {p : Prop} [Decidable p] (h : ¬ p) : false = decide p := by simp [h]
theorem bsame {p q : Prop} [Decidable p] [Decidable q] (h : p ↔ q) : decide p = decide q := by simp [h]
theorem alive_pu : PuF D1 11 [] (.bool true) := PuF.orc rfl fun _ => rfl

theorem letter_pu (c : Nat) : PuF D1 28 [.int .u8 c] (.bool (decide (isLetter c))) := by
  refine PuF.tidy rfl rfl rfl rfl rfl fun h hf => ?_
  repeat' (first
      | refine W.seq ?_
      | refine W.region ?_
      | refine WS.nil ?_
      | refine W.skip ?_
      | refine W.block ?_
      | refine W.ret ?_
      | refine W.exit ?_
      | refine W.yes rfl rfl ?_
      | refine W.no rfl rfl ?_
      | refine W.fork rfl (fun _ => ?_) (fun _ => ?_)
      | refine WS.guardT rfl ?_
      | refine WS.guardF rfl rfl rfl ?_
      | refine WS.guardV rfl rfl ?_
      | refine WS.guardK rfl (fun _ => ?_) (fun _ => ?_)
      | refine WS.near rfl o_mov rfl ?_
      | refine WS.near rfl o_pickT rfl ?_
      | refine WS.near rfl o_pickF rfl ?_
      | refine WS.near rfl o_notT rfl ?_
      | refine WS.near rfl o_notF rfl ?_
      | refine WS.near rfl o_lss rfl ?_
      | refine WS.near rfl o_leq rfl ?_
      | refine WS.near rfl o_gtr rfl ?_
      | refine WS.near rfl o_geq rfl ?_
      | refine WS.near rfl o_eql rfl ?_
      | refine WS.near rfl o_neq rfl ?_
      | refine WS.near rfl o_seqlR rfl ?_
      | refine WS.near rfl o_ceq0 rfl ?_
      | refine WS.near rfl o_seql0 rfl ?_
      | refine WS.near rfl o_sneq0 rfl ?_
      | refine WS.near rfl o_seql rfl ?_
      | refine WS.near rfl o_sneq rfl ?_
      | refine WS.near rfl o_not rfl ?_
      | refine WS.near rfl o_lenS rfl ?_
      | refine WS.near rfl o_lenB rfl ?_
      | refine WS.near rfl o_lenF rfl ?_
      | refine WS.near rfl o_faddr rfl ?_
      | refine WS.near rfl o_s2b rfl ?_
      | refine WS.near rfl o_lenB rfl ?_
      | refine WS.near rfl o_loadF rfl ?_
      | refine WS.near rfl o_binB rfl ?_
      | refine WS.near rfl (o_build rfl) rfl ?_
      | refine WS.near rfl (o_loadH rfl) rfl ?_
      | refine WS.near rfl (o_loadHN rfl rfl) rfl ?_
      | refine WS.near rfl (o_storeH (by assumption) rfl rfl) rfl ?_
      | refine WS.near rfl (o_boxH 0 rfl) rfl ?_
      | refine WS.near rfl (o_boxH 1 rfl) rfl ?_
      | refine WS.near rfl (o_boxH 2 rfl) rfl ?_
      | refine WS.near rfl (o_boxH 3 rfl) rfl ?_
      | refine WS.near rfl (o_boxH 4 rfl) rfl ?_
      | refine WS.near rfl (o_boxH 5 rfl) rfl ?_
      | refine WS.near rfl (o_allocH 0 rfl) rfl ?_
      | refine WS.near rfl (o_allocH 1 rfl) rfl ?_
      | refine WS.near rfl (o_allocH 2 rfl) rfl ?_
      | refine WS.near rfl (o_allocH 3 rfl) rfl ?_
      | refine WS.near rfl (o_allocH 4 rfl) rfl ?_
      | refine WS.near rfl (o_allocH 5 rfl) rfl ?_
      | refine WS.near rfl (o_add (by omega) (by omega)) rfl ?_
      | refine WS.near rfl (o_sub (by omega) (by omega)) rfl ?_
      | refine WS.near rfl (o_sub8 (by omega) (by omega)) rfl ?_
      | refine WS.near rfl (o_conv (by omega) (by omega)) rfl ?_
      | refine WS.near rfl (o_index _ rfl (by omega)) rfl ?_
      | refine WS.near rfl (o_index 0 rfl (by omega)) rfl ?_
      | refine WS.near rfl (o_iaddrB _ rfl (by omega)) rfl ?_
      | refine WS.near rfl (o_sliceS _ _ rfl rfl (by omega) (by omega)) rfl ?_
      | refine WS.near rfl (o_sliceF _ rfl (by omega)) rfl ?_
      | refine WS.near rfl (o_sliceT _ rfl (by omega)) rfl ?_)
  all_goals
    refine ⟨_, rfl, fin_bool ?_⟩
    first
      | exact btrue (by unfold isLetter; omega)
      | exact bfalse (by unfold isLetter; omega)
      | exact bsame (by unfold isLetter; omega)

theorem goes_pu (c : Nat) : PuF D1 29 [.int .u8 c] (.bool (decide (goes c))) := by
  refine PuF.tidy rfl rfl rfl rfl rfl fun h hf => ?_
  repeat' (first
      | refine W.seq ?_
      | refine W.region ?_
      | refine WS.nil ?_
      | refine W.skip ?_
      | refine W.block ?_
      | refine W.ret ?_
      | refine W.exit ?_
      | refine W.yes rfl rfl ?_
      | refine W.no rfl rfl ?_
      | refine W.fork rfl (fun _ => ?_) (fun _ => ?_)
      | refine WS.guardT rfl ?_
      | refine WS.guardF rfl rfl rfl ?_
      | refine WS.guardV rfl rfl ?_
      | refine WS.guardK rfl (fun _ => ?_) (fun _ => ?_)
      | refine WS.near rfl o_mov rfl ?_
      | refine WS.near rfl o_pickT rfl ?_
      | refine WS.near rfl o_pickF rfl ?_
      | refine WS.near rfl o_notT rfl ?_
      | refine WS.near rfl o_notF rfl ?_
      | refine WS.near rfl o_lss rfl ?_
      | refine WS.near rfl o_leq rfl ?_
      | refine WS.near rfl o_gtr rfl ?_
      | refine WS.near rfl o_geq rfl ?_
      | refine WS.near rfl o_eql rfl ?_
      | refine WS.near rfl o_neq rfl ?_
      | refine WS.near rfl o_seqlR rfl ?_
      | refine WS.near rfl o_ceq0 rfl ?_
      | refine WS.near rfl o_seql0 rfl ?_
      | refine WS.near rfl o_sneq0 rfl ?_
      | refine WS.near rfl o_seql rfl ?_
      | refine WS.near rfl o_sneq rfl ?_
      | refine WS.near rfl o_not rfl ?_
      | refine WS.near rfl o_lenS rfl ?_
      | refine WS.near rfl o_lenB rfl ?_
      | refine WS.near rfl o_lenF rfl ?_
      | refine WS.near rfl o_faddr rfl ?_
      | refine WS.near rfl o_s2b rfl ?_
      | refine WS.near rfl o_lenB rfl ?_
      | refine WS.near rfl o_loadF rfl ?_
      | refine WS.near rfl o_binB rfl ?_
      | refine WS.near rfl (o_build rfl) rfl ?_
      | refine WS.near rfl (o_loadH rfl) rfl ?_
      | refine WS.near rfl (o_loadHN rfl rfl) rfl ?_
      | refine WS.near rfl (o_storeH (by assumption) rfl rfl) rfl ?_
      | refine WS.near rfl (o_boxH 0 rfl) rfl ?_
      | refine WS.near rfl (o_boxH 1 rfl) rfl ?_
      | refine WS.near rfl (o_boxH 2 rfl) rfl ?_
      | refine WS.near rfl (o_boxH 3 rfl) rfl ?_
      | refine WS.near rfl (o_boxH 4 rfl) rfl ?_
      | refine WS.near rfl (o_boxH 5 rfl) rfl ?_
      | refine WS.near rfl (o_allocH 0 rfl) rfl ?_
      | refine WS.near rfl (o_allocH 1 rfl) rfl ?_
      | refine WS.near rfl (o_allocH 2 rfl) rfl ?_
      | refine WS.near rfl (o_allocH 3 rfl) rfl ?_
      | refine WS.near rfl (o_allocH 4 rfl) rfl ?_
      | refine WS.near rfl (o_allocH 5 rfl) rfl ?_
      | refine WS.near rfl (o_add (by omega) (by omega)) rfl ?_
      | refine WS.near rfl (o_sub (by omega) (by omega)) rfl ?_
      | refine WS.near rfl (o_sub8 (by omega) (by omega)) rfl ?_
      | refine WS.near rfl (o_conv (by omega) (by omega)) rfl ?_
      | refine WS.near rfl (o_index _ rfl (by omega)) rfl ?_
      | refine WS.near rfl (o_index 0 rfl (by omega)) rfl ?_
      | refine WS.near rfl (o_iaddrB _ rfl (by omega)) rfl ?_
      | refine WS.near rfl (o_sliceS _ _ rfl rfl (by omega) (by omega)) rfl ?_
      | refine WS.near rfl (o_sliceF _ rfl (by omega)) rfl ?_
      | refine WS.near rfl (o_sliceT _ rfl (by omega)) rfl ?_)
  refine WS.puF hf rfl rfl (letter_pu c) ?_
  repeat' (first
      | refine W.seq ?_
      | refine W.region ?_
      | refine WS.nil ?_
      | refine W.skip ?_
      | refine W.block ?_
      | refine W.ret ?_
      | refine W.exit ?_
      | refine W.yes rfl rfl ?_
      | refine W.no rfl rfl ?_
      | refine W.fork rfl (fun _ => ?_) (fun _ => ?_)
      | refine WS.guardT rfl ?_
      | refine WS.guardF rfl rfl rfl ?_
      | refine WS.guardV rfl rfl ?_
      | refine WS.guardK rfl (fun _ => ?_) (fun _ => ?_)
      | refine WS.near rfl o_mov rfl ?_
      | refine WS.near rfl o_pickT rfl ?_
      | refine WS.near rfl o_pickF rfl ?_
      | refine WS.near rfl o_notT rfl ?_
      | refine WS.near rfl o_notF rfl ?_
      | refine WS.near rfl o_lss rfl ?_
      | refine WS.near rfl o_leq rfl ?_
      | refine WS.near rfl o_gtr rfl ?_
      | refine WS.near rfl o_geq rfl ?_
      | refine WS.near rfl o_eql rfl ?_
      | refine WS.near rfl o_neq rfl ?_
      | refine WS.near rfl o_seqlR rfl ?_
      | refine WS.near rfl o_ceq0 rfl ?_
      | refine WS.near rfl o_seql0 rfl ?_
      | refine WS.near rfl o_sneq0 rfl ?_
      | refine WS.near rfl o_seql rfl ?_
      | refine WS.near rfl o_sneq rfl ?_
      | refine WS.near rfl o_not rfl ?_
      | refine WS.near rfl o_lenS rfl ?_
      | refine WS.near rfl o_lenB rfl ?_
      | refine WS.near rfl o_lenF rfl ?_
      | refine WS.near rfl o_faddr rfl ?_
      | refine WS.near rfl o_s2b rfl ?_
      | refine WS.near rfl o_lenB rfl ?_
      | refine WS.near rfl o_loadF rfl ?_
      | refine WS.near rfl o_binB rfl ?_
      | refine WS.near rfl (o_build rfl) rfl ?_
      | refine WS.near rfl (o_loadH rfl) rfl ?_
      | refine WS.near rfl (o_loadHN rfl rfl) rfl ?_
      | refine WS.near rfl (o_storeH (by assumption) rfl rfl) rfl ?_
      | refine WS.near rfl (o_boxH 0 rfl) rfl ?_
      | refine WS.near rfl (o_boxH 1 rfl) rfl ?_
      | refine WS.near rfl (o_boxH 2 rfl) rfl ?_
      | refine WS.near rfl (o_boxH 3 rfl) rfl ?_
      | refine WS.near rfl (o_boxH 4 rfl) rfl ?_
      | refine WS.near rfl (o_boxH 5 rfl) rfl ?_
      | refine WS.near rfl (o_allocH 0 rfl) rfl ?_
      | refine WS.near rfl (o_allocH 1 rfl) rfl ?_
      | refine WS.near rfl (o_allocH 2 rfl) rfl ?_
      | refine WS.near rfl (o_allocH 3 rfl) rfl ?_
      | refine WS.near rfl (o_allocH 4 rfl) rfl ?_
      | refine WS.near rfl (o_allocH 5 rfl) rfl ?_
      | refine WS.near rfl (o_add (by omega) (by omega)) rfl ?_
      | refine WS.near rfl (o_sub (by omega) (by omega)) rfl ?_
      | refine WS.near rfl (o_sub8 (by omega) (by omega)) rfl ?_
      | refine WS.near rfl (o_conv (by omega) (by omega)) rfl ?_
      | refine WS.near rfl (o_index _ rfl (by omega)) rfl ?_
      | refine WS.near rfl (o_index 0 rfl (by omega)) rfl ?_
      | refine WS.near rfl (o_iaddrB _ rfl (by omega)) rfl ?_
      | refine WS.near rfl (o_sliceS _ _ rfl rfl (by omega) (by omega)) rfl ?_
      | refine WS.near rfl (o_sliceF _ rfl (by omega)) rfl ?_
      | refine WS.near rfl (o_sliceT _ rfl (by omega)) rfl ?_)
  all_goals
    refine ⟨_, rfl, fin_bool ?_⟩
    first
      | exact btrue (by unfold goes isDigit isLetter at *; omega)
      | exact bfalse (by unfold goes isDigit isLetter at *; omega)
      | exact bsame (by unfold goes isDigit isLetter at *; omega)

def named (s : List Nat) : Prop := 0 < s.length ∧ s.length ≤ 24 ∧ isLetter (at' s 0) ∧ ∀ i, i < s.length → goes (at' s i)

theorem name_pu (s : List Nat) [h : Decidable (named s)] : PuF D1 12 [.str s] (.bool (decide (named s))) := by
  refine PuF.tidy rfl rfl rfl rfl rfl fun h hf => ?_
  repeat' (first
      | refine W.seq ?_
      | refine W.region ?_
      | refine WS.nil ?_
      | refine W.skip ?_
      | refine W.block ?_
      | refine W.ret ?_
      | refine W.exit ?_
      | refine W.yes rfl rfl ?_
      | refine W.no rfl rfl ?_
      | refine W.fork rfl (fun _ => ?_) (fun _ => ?_)
      | refine WS.guardT rfl ?_
      | refine WS.guardF rfl rfl rfl ?_
      | refine WS.guardV rfl rfl ?_
      | refine WS.guardK rfl (fun _ => ?_) (fun _ => ?_)
      | refine WS.near rfl o_mov rfl ?_
      | refine WS.near rfl o_pickT rfl ?_
      | refine WS.near rfl o_pickF rfl ?_
      | refine WS.near rfl o_notT rfl ?_
      | refine WS.near rfl o_notF rfl ?_
      | refine WS.near rfl o_lss rfl ?_
      | refine WS.near rfl o_leq rfl ?_
      | refine WS.near rfl o_gtr rfl ?_
      | refine WS.near rfl o_geq rfl ?_
      | refine WS.near rfl o_eql rfl ?_
      | refine WS.near rfl o_neq rfl ?_
      | refine WS.near rfl o_seqlR rfl ?_
      | refine WS.near rfl o_ceq0 rfl ?_
      | refine WS.near rfl o_seql0 rfl ?_
      | refine WS.near rfl o_sneq0 rfl ?_
      | refine WS.near rfl o_seql rfl ?_
      | refine WS.near rfl o_sneq rfl ?_
      | refine WS.near rfl o_not rfl ?_
      | refine WS.near rfl o_lenS rfl ?_
      | refine WS.near rfl o_lenB rfl ?_
      | refine WS.near rfl o_lenF rfl ?_
      | refine WS.near rfl o_faddr rfl ?_
      | refine WS.near rfl o_s2b rfl ?_
      | refine WS.near rfl o_lenB rfl ?_
      | refine WS.near rfl o_loadF rfl ?_
      | refine WS.near rfl o_binB rfl ?_
      | refine WS.near rfl (o_build rfl) rfl ?_
      | refine WS.near rfl (o_loadH rfl) rfl ?_
      | refine WS.near rfl (o_loadHN rfl rfl) rfl ?_
      | refine WS.near rfl (o_storeH (by assumption) rfl rfl) rfl ?_
      | refine WS.near rfl (o_boxH 0 rfl) rfl ?_
      | refine WS.near rfl (o_boxH 1 rfl) rfl ?_
      | refine WS.near rfl (o_boxH 2 rfl) rfl ?_
      | refine WS.near rfl (o_boxH 3 rfl) rfl ?_
      | refine WS.near rfl (o_boxH 4 rfl) rfl ?_
      | refine WS.near rfl (o_boxH 5 rfl) rfl ?_
      | refine WS.near rfl (o_allocH 0 rfl) rfl ?_
      | refine WS.near rfl (o_allocH 1 rfl) rfl ?_
      | refine WS.near rfl (o_allocH 2 rfl) rfl ?_
      | refine WS.near rfl (o_allocH 3 rfl) rfl ?_
      | refine WS.near rfl (o_allocH 4 rfl) rfl ?_
      | refine WS.near rfl (o_allocH 5 rfl) rfl ?_
      | refine WS.near rfl (o_add (by omega) (by omega)) rfl ?_
      | refine WS.near rfl (o_sub (by omega) (by omega)) rfl ?_
      | refine WS.near rfl (o_sub8 (by omega) (by omega)) rfl ?_
      | refine WS.near rfl (o_conv (by omega) (by omega)) rfl ?_
      | refine WS.near rfl (o_index _ rfl (by omega)) rfl ?_
      | refine WS.near rfl (o_index 0 rfl (by omega)) rfl ?_
      | refine WS.near rfl (o_iaddrB _ rfl (by omega)) rfl ?_
      | refine WS.near rfl (o_sliceS _ _ rfl rfl (by omega) (by omega)) rfl ?_
      | refine WS.near rfl (o_sliceF _ rfl (by omega)) rfl ?_
      | refine WS.near rfl (o_sliceT _ rfl (by omega)) rfl ?_)
  · exact ⟨_, rfl, fin_bool (bfalse (fun hn => by have := hn.1; omega))⟩
  · exact ⟨_, rfl, fin_bool (bfalse (fun hn => by have := hn.2.1; omega))⟩
  refine WS.puF hf rfl rfl (letter_pu _) ?_
  repeat' (first
      | refine W.seq ?_
      | refine W.region ?_
      | refine WS.nil ?_
      | refine W.skip ?_
      | refine W.block ?_
      | refine W.ret ?_
      | refine W.exit ?_
      | refine W.yes rfl rfl ?_
      | refine W.no rfl rfl ?_
      | refine W.fork rfl (fun _ => ?_) (fun _ => ?_)
      | refine WS.guardT rfl ?_
      | refine WS.guardF rfl rfl rfl ?_
      | refine WS.guardV rfl rfl ?_
      | refine WS.guardK rfl (fun _ => ?_) (fun _ => ?_)
      | refine WS.near rfl o_mov rfl ?_
      | refine WS.near rfl o_pickT rfl ?_
      | refine WS.near rfl o_pickF rfl ?_
      | refine WS.near rfl o_notT rfl ?_
      | refine WS.near rfl o_notF rfl ?_
      | refine WS.near rfl o_lss rfl ?_
      | refine WS.near rfl o_leq rfl ?_
      | refine WS.near rfl o_gtr rfl ?_
      | refine WS.near rfl o_geq rfl ?_
      | refine WS.near rfl o_eql rfl ?_
      | refine WS.near rfl o_neq rfl ?_
      | refine WS.near rfl o_seqlR rfl ?_
      | refine WS.near rfl o_ceq0 rfl ?_
      | refine WS.near rfl o_seql0 rfl ?_
      | refine WS.near rfl o_sneq0 rfl ?_
      | refine WS.near rfl o_seql rfl ?_
      | refine WS.near rfl o_sneq rfl ?_
      | refine WS.near rfl o_not rfl ?_
      | refine WS.near rfl o_lenS rfl ?_
      | refine WS.near rfl o_lenB rfl ?_
      | refine WS.near rfl o_lenF rfl ?_
      | refine WS.near rfl o_faddr rfl ?_
      | refine WS.near rfl o_s2b rfl ?_
      | refine WS.near rfl o_lenB rfl ?_
      | refine WS.near rfl o_loadF rfl ?_
      | refine WS.near rfl o_binB rfl ?_
      | refine WS.near rfl (o_build rfl) rfl ?_
      | refine WS.near rfl (o_loadH rfl) rfl ?_
      | refine WS.near rfl (o_loadHN rfl rfl) rfl ?_
      | refine WS.near rfl (o_storeH (by assumption) rfl rfl) rfl ?_
      | refine WS.near rfl (o_boxH 0 rfl) rfl ?_
      | refine WS.near rfl (o_boxH 1 rfl) rfl ?_
      | refine WS.near rfl (o_boxH 2 rfl) rfl ?_
      | refine WS.near rfl (o_boxH 3 rfl) rfl ?_
      | refine WS.near rfl (o_boxH 4 rfl) rfl ?_
      | refine WS.near rfl (o_boxH 5 rfl) rfl ?_
      | refine WS.near rfl (o_allocH 0 rfl) rfl ?_
      | refine WS.near rfl (o_allocH 1 rfl) rfl ?_
      | refine WS.near rfl (o_allocH 2 rfl) rfl ?_
      | refine WS.near rfl (o_allocH 3 rfl) rfl ?_
      | refine WS.near rfl (o_allocH 4 rfl) rfl ?_
      | refine WS.near rfl (o_allocH 5 rfl) rfl ?_
      | refine WS.near rfl (o_add (by omega) (by omega)) rfl ?_
      | refine WS.near rfl (o_sub (by omega) (by omega)) rfl ?_
      | refine WS.near rfl (o_sub8 (by omega) (by omega)) rfl ?_
      | refine WS.near rfl (o_conv (by omega) (by omega)) rfl ?_
      | refine WS.near rfl (o_index _ rfl (by omega)) rfl ?_
      | refine WS.near rfl (o_index 0 rfl (by omega)) rfl ?_
      | refine WS.near rfl (o_iaddrB _ rfl (by omega)) rfl ?_
      | refine WS.near rfl (o_sliceS _ _ rfl rfl (by omega) (by omega)) rfl ?_
      | refine WS.near rfl (o_sliceF _ rfl (by omega)) rfl ?_
      | refine WS.near rfl (o_sliceT _ rfl (by omega)) rfl ?_)
  · rename_i hl
    exact ⟨_, rfl, fin_bool (bfalse (fun hn => hl hn.2.2.1))⟩
  rename_i h1 h2 h3
  refine W.loop (fun i : Nat => [(0, .str s), (11, .fsl (s.map fun (b : Nat) => V.int .u8 (b : Int)) none), (12, .int .i64 s.length), (13, .int .i64 i)]) (fun _ => hp h []) (fun i => i ≤ s.length ∧ ∀ j, j < i → goes (at' s j))
    (fun i => s.length - i) 0 ⟨by omega, fun j hj => by omega⟩ (by refine ⟨?_, ?_, ?_, ?_, trivial⟩ <;> rfl) rfl ?_
  rintro i ⟨hi, hall⟩
  repeat' (first
      | refine W.seq ?_
      | refine W.region ?_
      | refine WS.nil ?_
      | refine W.skip ?_
      | refine W.block ?_
      | refine W.ret ?_
      | refine W.exit ?_
      | refine W.yes rfl rfl ?_
      | refine W.no rfl rfl ?_
      | refine W.fork rfl (fun _ => ?_) (fun _ => ?_)
      | refine WS.guardT rfl ?_
      | refine WS.guardF rfl rfl rfl ?_
      | refine WS.guardV rfl rfl ?_
      | refine WS.guardK rfl (fun _ => ?_) (fun _ => ?_)
      | refine WS.near rfl o_mov rfl ?_
      | refine WS.near rfl o_pickT rfl ?_
      | refine WS.near rfl o_pickF rfl ?_
      | refine WS.near rfl o_notT rfl ?_
      | refine WS.near rfl o_notF rfl ?_
      | refine WS.near rfl o_lss rfl ?_
      | refine WS.near rfl o_leq rfl ?_
      | refine WS.near rfl o_gtr rfl ?_
      | refine WS.near rfl o_geq rfl ?_
      | refine WS.near rfl o_eql rfl ?_
      | refine WS.near rfl o_neq rfl ?_
      | refine WS.near rfl o_seqlR rfl ?_
      | refine WS.near rfl o_ceq0 rfl ?_
      | refine WS.near rfl o_seql0 rfl ?_
      | refine WS.near rfl o_sneq0 rfl ?_
      | refine WS.near rfl o_seql rfl ?_
      | refine WS.near rfl o_sneq rfl ?_
      | refine WS.near rfl o_not rfl ?_
      | refine WS.near rfl o_lenS rfl ?_
      | refine WS.near rfl o_lenB rfl ?_
      | refine WS.near rfl o_lenF rfl ?_
      | refine WS.near rfl o_faddr rfl ?_
      | refine WS.near rfl o_s2b rfl ?_
      | refine WS.near rfl o_lenB rfl ?_
      | refine WS.near rfl o_loadF rfl ?_
      | refine WS.near rfl o_binB rfl ?_
      | refine WS.near rfl (o_build rfl) rfl ?_
      | refine WS.near rfl (o_loadH rfl) rfl ?_
      | refine WS.near rfl (o_loadHN rfl rfl) rfl ?_
      | refine WS.near rfl (o_storeH (by assumption) rfl rfl) rfl ?_
      | refine WS.near rfl (o_boxH 0 rfl) rfl ?_
      | refine WS.near rfl (o_boxH 1 rfl) rfl ?_
      | refine WS.near rfl (o_boxH 2 rfl) rfl ?_
      | refine WS.near rfl (o_boxH 3 rfl) rfl ?_
      | refine WS.near rfl (o_boxH 4 rfl) rfl ?_
      | refine WS.near rfl (o_boxH 5 rfl) rfl ?_
      | refine WS.near rfl (o_allocH 0 rfl) rfl ?_
      | refine WS.near rfl (o_allocH 1 rfl) rfl ?_
      | refine WS.near rfl (o_allocH 2 rfl) rfl ?_
      | refine WS.near rfl (o_allocH 3 rfl) rfl ?_
      | refine WS.near rfl (o_allocH 4 rfl) rfl ?_
      | refine WS.near rfl (o_allocH 5 rfl) rfl ?_
      | refine WS.near rfl (o_add (by omega) (by omega)) rfl ?_
      | refine WS.near rfl (o_sub (by omega) (by omega)) rfl ?_
      | refine WS.near rfl (o_sub8 (by omega) (by omega)) rfl ?_
      | refine WS.near rfl (o_conv (by omega) (by omega)) rfl ?_
      | refine WS.near rfl (o_index _ rfl (by omega)) rfl ?_
      | refine WS.near rfl (o_index 0 rfl (by omega)) rfl ?_
      | refine WS.near rfl (o_iaddrB _ rfl (by omega)) rfl ?_
      | refine WS.near rfl (o_sliceS _ _ rfl rfl (by omega) (by omega)) rfl ?_
      | refine WS.near rfl (o_sliceF _ rfl (by omega)) rfl ?_
      | refine WS.near rfl (o_sliceT _ rfl (by omega)) rfl ?_)
  · refine WS.puF hf rfl rfl (goes_pu _) ?_
    repeat' (first
        | refine W.seq ?_
        | refine W.region ?_
        | refine WS.nil ?_
        | refine W.skip ?_
        | refine W.block ?_
        | refine W.ret ?_
        | refine W.exit ?_
        | refine W.yes rfl rfl ?_
        | refine W.no rfl rfl ?_
        | refine W.fork rfl (fun _ => ?_) (fun _ => ?_)
        | refine WS.guardT rfl ?_
        | refine WS.guardF rfl rfl rfl ?_
        | refine WS.guardV rfl rfl ?_
        | refine WS.guardK rfl (fun _ => ?_) (fun _ => ?_)
        | refine WS.near rfl o_mov rfl ?_
        | refine WS.near rfl o_pickT rfl ?_
        | refine WS.near rfl o_pickF rfl ?_
        | refine WS.near rfl o_notT rfl ?_
        | refine WS.near rfl o_notF rfl ?_
        | refine WS.near rfl o_lss rfl ?_
        | refine WS.near rfl o_leq rfl ?_
        | refine WS.near rfl o_gtr rfl ?_
        | refine WS.near rfl o_geq rfl ?_
        | refine WS.near rfl o_eql rfl ?_
        | refine WS.near rfl o_neq rfl ?_
        | refine WS.near rfl o_seqlR rfl ?_
        | refine WS.near rfl o_ceq0 rfl ?_
        | refine WS.near rfl o_seql0 rfl ?_
        | refine WS.near rfl o_sneq0 rfl ?_
        | refine WS.near rfl o_seql rfl ?_
        | refine WS.near rfl o_sneq rfl ?_
        | refine WS.near rfl o_not rfl ?_
        | refine WS.near rfl o_lenS rfl ?_
        | refine WS.near rfl o_lenB rfl ?_
        | refine WS.near rfl o_lenF rfl ?_
        | refine WS.near rfl o_faddr rfl ?_
        | refine WS.near rfl o_s2b rfl ?_
        | refine WS.near rfl o_lenB rfl ?_
        | refine WS.near rfl o_loadF rfl ?_
        | refine WS.near rfl o_binB rfl ?_
        | refine WS.near rfl (o_build rfl) rfl ?_
        | refine WS.near rfl (o_loadH rfl) rfl ?_
        | refine WS.near rfl (o_loadHN rfl rfl) rfl ?_
        | refine WS.near rfl (o_storeH (by assumption) rfl rfl) rfl ?_
        | refine WS.near rfl (o_boxH 0 rfl) rfl ?_
        | refine WS.near rfl (o_boxH 1 rfl) rfl ?_
        | refine WS.near rfl (o_boxH 2 rfl) rfl ?_
        | refine WS.near rfl (o_boxH 3 rfl) rfl ?_
        | refine WS.near rfl (o_boxH 4 rfl) rfl ?_
        | refine WS.near rfl (o_boxH 5 rfl) rfl ?_
        | refine WS.near rfl (o_allocH 0 rfl) rfl ?_
        | refine WS.near rfl (o_allocH 1 rfl) rfl ?_
        | refine WS.near rfl (o_allocH 2 rfl) rfl ?_
        | refine WS.near rfl (o_allocH 3 rfl) rfl ?_
        | refine WS.near rfl (o_allocH 4 rfl) rfl ?_
        | refine WS.near rfl (o_allocH 5 rfl) rfl ?_
        | refine WS.near rfl (o_add (by omega) (by omega)) rfl ?_
        | refine WS.near rfl (o_sub (by omega) (by omega)) rfl ?_
        | refine WS.near rfl (o_sub8 (by omega) (by omega)) rfl ?_
        | refine WS.near rfl (o_conv (by omega) (by omega)) rfl ?_
        | refine WS.near rfl (o_index _ rfl (by omega)) rfl ?_
        | refine WS.near rfl (o_index 0 rfl (by omega)) rfl ?_
        | refine WS.near rfl (o_iaddrB _ rfl (by omega)) rfl ?_
        | refine WS.near rfl (o_sliceS _ _ rfl rfl (by omega) (by omega)) rfl ?_
        | refine WS.near rfl (o_sliceF _ rfl (by omega)) rfl ?_
        | refine WS.near rfl (o_sliceT _ rfl (by omega)) rfl ?_)
    · rename_i hlt hg
      exact ⟨_, rfl, fin_bool (bfalse (fun hn => hg (hn.2.2.2 i (by omega))))⟩
    · rename_i hlt hg
      refine ⟨i + 1, ⟨by omega, fun j hj => ?_⟩, (by show s.length - (i + 1) < s.length - i; omega), (by refine ⟨?_, ?_, ?_, ?_, trivial⟩ <;> rfl), rfl⟩
      by_cases hji : j = i
      · rw [hji]; exact Decidable.not_not.1 hg
      · exact hall j (by omega)
  · rename_i hlt
    exact ⟨_, rfl, fin_bool (btrue ⟨by omega, by omega, Decidable.not_not.1 h3, fun j hj => hall j (by omega)⟩)⟩

/-- the value of a name -/
def sym (s : List Nat) : V := .agg [.int .i64 3, .int .i64 0, .int .i64 0, .str s, .cpx .f64 0 0]
theorem same_pu (s : List Nat) : PuF D1 15 [sym s, sym s] (.bool true) := by
  refine PuF.tidy rfl rfl rfl rfl rfl fun h hf => ?_
  repeat' (first
      | refine W.seq ?_
      | refine W.region ?_
      | refine WS.nil ?_
      | refine W.skip ?_
      | refine W.block ?_
      | refine W.ret ?_
      | refine W.exit ?_
      | refine W.yes rfl rfl ?_
      | refine W.no rfl rfl ?_
      | refine W.fork rfl (fun _ => ?_) (fun _ => ?_)
      | refine WS.guardT rfl ?_
      | refine WS.guardF rfl rfl rfl ?_
      | refine WS.guardV rfl rfl ?_
      | refine WS.guardK rfl (fun _ => ?_) (fun _ => ?_)
      | refine WS.near rfl o_mov rfl ?_
      | refine WS.near rfl o_pickT rfl ?_
      | refine WS.near rfl o_pickF rfl ?_
      | refine WS.near rfl o_notT rfl ?_
      | refine WS.near rfl o_notF rfl ?_
      | refine WS.near rfl o_lss rfl ?_
      | refine WS.near rfl o_leq rfl ?_
      | refine WS.near rfl o_gtr rfl ?_
      | refine WS.near rfl o_geq rfl ?_
      | refine WS.near rfl o_eql rfl ?_
      | refine WS.near rfl o_neq rfl ?_
      | refine WS.near rfl o_seqlR rfl ?_
      | refine WS.near rfl o_ceq0 rfl ?_
      | refine WS.near rfl o_seql0 rfl ?_
      | refine WS.near rfl o_sneq0 rfl ?_
      | refine WS.near rfl o_seql rfl ?_
      | refine WS.near rfl o_sneq rfl ?_
      | refine WS.near rfl o_not rfl ?_
      | refine WS.near rfl o_lenS rfl ?_
      | refine WS.near rfl o_lenB rfl ?_
      | refine WS.near rfl o_lenF rfl ?_
      | refine WS.near rfl o_faddr rfl ?_
      | refine WS.near rfl o_s2b rfl ?_
      | refine WS.near rfl o_lenB rfl ?_
      | refine WS.near rfl o_loadF rfl ?_
      | refine WS.near rfl o_binB rfl ?_
      | refine WS.near rfl (o_build rfl) rfl ?_
      | refine WS.near rfl (o_loadH rfl) rfl ?_
      | refine WS.near rfl (o_loadHN rfl rfl) rfl ?_
      | refine WS.near rfl (o_storeH (by assumption) rfl rfl) rfl ?_
      | refine WS.near rfl (o_boxH 0 rfl) rfl ?_
      | refine WS.near rfl (o_boxH 1 rfl) rfl ?_
      | refine WS.near rfl (o_boxH 2 rfl) rfl ?_
      | refine WS.near rfl (o_boxH 3 rfl) rfl ?_
      | refine WS.near rfl (o_boxH 4 rfl) rfl ?_
      | refine WS.near rfl (o_boxH 5 rfl) rfl ?_
      | refine WS.near rfl (o_allocH 0 rfl) rfl ?_
      | refine WS.near rfl (o_allocH 1 rfl) rfl ?_
      | refine WS.near rfl (o_allocH 2 rfl) rfl ?_
      | refine WS.near rfl (o_allocH 3 rfl) rfl ?_
      | refine WS.near rfl (o_allocH 4 rfl) rfl ?_
      | refine WS.near rfl (o_allocH 5 rfl) rfl ?_
      | refine WS.near rfl (o_add (by omega) (by omega)) rfl ?_
      | refine WS.near rfl (o_sub (by omega) (by omega)) rfl ?_
      | refine WS.near rfl (o_sub8 (by omega) (by omega)) rfl ?_
      | refine WS.near rfl (o_conv (by omega) (by omega)) rfl ?_
      | refine WS.near rfl (o_index _ rfl (by omega)) rfl ?_
      | refine WS.near rfl (o_index 0 rfl (by omega)) rfl ?_
      | refine WS.near rfl (o_iaddrB _ rfl (by omega)) rfl ?_
      | refine WS.near rfl (o_sliceS _ _ rfl rfl (by omega) (by omega)) rfl ?_
      | refine WS.near rfl (o_sliceF _ rfl (by omega)) rfl ?_
      | refine WS.near rfl (o_sliceT _ rfl (by omega)) rfl ?_)
  all_goals exact ⟨_, rfl, fin_bool rfl⟩
theorem name_yes {s : List Nat} (h : named s) : PuF D1 12 [.str s] (.bool true) := by
  have e := name_pu s (h := .isTrue h)
  exact e
theorem name_no {s : List Nat} (h : ¬ named s) : PuF D1 12 [.str s] (.bool false) := by
  have e := name_pu s (h := .isFalse h)
  exact e
theorem right_pu (s : List Nat) (hs : named s) : PuF D1 13 [sym s] (.bool true) := by
  refine PuF.tidy rfl rfl rfl rfl rfl fun h hf => ?_
  repeat' (first
      | refine W.seq ?_
      | refine W.region ?_
      | refine WS.nil ?_
      | refine W.skip ?_
      | refine W.block ?_
      | refine W.ret ?_
      | refine W.exit ?_
      | refine W.yes rfl rfl ?_
      | refine W.no rfl rfl ?_
      | refine W.fork rfl (fun _ => ?_) (fun _ => ?_)
      | refine WS.guardT rfl ?_
      | refine WS.guardF rfl rfl rfl ?_
      | refine WS.guardV rfl rfl ?_
      | refine WS.guardK rfl (fun _ => ?_) (fun _ => ?_)
      | refine WS.near rfl o_mov rfl ?_
      | refine WS.near rfl o_pickT rfl ?_
      | refine WS.near rfl o_pickF rfl ?_
      | refine WS.near rfl o_notT rfl ?_
      | refine WS.near rfl o_notF rfl ?_
      | refine WS.near rfl o_lss rfl ?_
      | refine WS.near rfl o_leq rfl ?_
      | refine WS.near rfl o_gtr rfl ?_
      | refine WS.near rfl o_geq rfl ?_
      | refine WS.near rfl o_eql rfl ?_
      | refine WS.near rfl o_neq rfl ?_
      | refine WS.near rfl o_seqlR rfl ?_
      | refine WS.near rfl o_ceq0 rfl ?_
      | refine WS.near rfl o_seql0 rfl ?_
      | refine WS.near rfl o_sneq0 rfl ?_
      | refine WS.near rfl o_seql rfl ?_
      | refine WS.near rfl o_sneq rfl ?_
      | refine WS.near rfl o_not rfl ?_
      | refine WS.near rfl o_lenS rfl ?_
      | refine WS.near rfl o_lenB rfl ?_
      | refine WS.near rfl o_lenF rfl ?_
      | refine WS.near rfl o_faddr rfl ?_
      | refine WS.near rfl o_s2b rfl ?_
      | refine WS.near rfl o_lenB rfl ?_
      | refine WS.near rfl o_loadF rfl ?_
      | refine WS.near rfl o_binB rfl ?_
      | refine WS.near rfl (o_build rfl) rfl ?_
      | refine WS.near rfl (o_loadH rfl) rfl ?_
      | refine WS.near rfl (o_loadHN rfl rfl) rfl ?_
      | refine WS.near rfl (o_storeH (by assumption) rfl rfl) rfl ?_
      | refine WS.near rfl (o_boxH 0 rfl) rfl ?_
      | refine WS.near rfl (o_boxH 1 rfl) rfl ?_
      | refine WS.near rfl (o_boxH 2 rfl) rfl ?_
      | refine WS.near rfl (o_boxH 3 rfl) rfl ?_
      | refine WS.near rfl (o_boxH 4 rfl) rfl ?_
      | refine WS.near rfl (o_boxH 5 rfl) rfl ?_
      | refine WS.near rfl (o_allocH 0 rfl) rfl ?_
      | refine WS.near rfl (o_allocH 1 rfl) rfl ?_
      | refine WS.near rfl (o_allocH 2 rfl) rfl ?_
      | refine WS.near rfl (o_allocH 3 rfl) rfl ?_
      | refine WS.near rfl (o_allocH 4 rfl) rfl ?_
      | refine WS.near rfl (o_allocH 5 rfl) rfl ?_
      | refine WS.near rfl (o_add (by omega) (by omega)) rfl ?_
      | refine WS.near rfl (o_sub (by omega) (by omega)) rfl ?_
      | refine WS.near rfl (o_sub8 (by omega) (by omega)) rfl ?_
      | refine WS.near rfl (o_conv (by omega) (by omega)) rfl ?_
      | refine WS.near rfl (o_index _ rfl (by omega)) rfl ?_
      | refine WS.near rfl (o_index 0 rfl (by omega)) rfl ?_
      | refine WS.near rfl (o_iaddrB _ rfl (by omega)) rfl ?_
      | refine WS.near rfl (o_sliceS _ _ rfl rfl (by omega) (by omega)) rfl ?_
      | refine WS.near rfl (o_sliceF _ rfl (by omega)) rfl ?_
      | refine WS.near rfl (o_sliceT _ rfl (by omega)) rfl ?_)
  · refine WS.puF hf rfl rfl (same_pu s) ?_
    repeat' (first
        | refine W.seq ?_
        | refine W.region ?_
        | refine WS.nil ?_
        | refine W.skip ?_
        | refine W.block ?_
        | refine W.ret ?_
        | refine W.exit ?_
        | refine W.yes rfl rfl ?_
        | refine W.no rfl rfl ?_
        | refine W.fork rfl (fun _ => ?_) (fun _ => ?_)
        | refine WS.guardT rfl ?_
        | refine WS.guardF rfl rfl rfl ?_
        | refine WS.guardV rfl rfl ?_
        | refine WS.guardK rfl (fun _ => ?_) (fun _ => ?_)
        | refine WS.near rfl o_mov rfl ?_
        | refine WS.near rfl o_pickT rfl ?_
        | refine WS.near rfl o_pickF rfl ?_
        | refine WS.near rfl o_notT rfl ?_
        | refine WS.near rfl o_notF rfl ?_
        | refine WS.near rfl o_lss rfl ?_
        | refine WS.near rfl o_leq rfl ?_
        | refine WS.near rfl o_gtr rfl ?_
        | refine WS.near rfl o_geq rfl ?_
        | refine WS.near rfl o_eql rfl ?_
        | refine WS.near rfl o_neq rfl ?_
        | refine WS.near rfl o_seqlR rfl ?_
        | refine WS.near rfl o_ceq0 rfl ?_
        | refine WS.near rfl o_seql0 rfl ?_
        | refine WS.near rfl o_sneq0 rfl ?_
        | refine WS.near rfl o_seql rfl ?_
        | refine WS.near rfl o_sneq rfl ?_
        | refine WS.near rfl o_not rfl ?_
        | refine WS.near rfl o_lenS rfl ?_
        | refine WS.near rfl o_lenB rfl ?_
        | refine WS.near rfl o_lenF rfl ?_
        | refine WS.near rfl o_faddr rfl ?_
        | refine WS.near rfl o_s2b rfl ?_
        | refine WS.near rfl o_lenB rfl ?_
        | refine WS.near rfl o_loadF rfl ?_
        | refine WS.near rfl o_binB rfl ?_
        | refine WS.near rfl (o_build rfl) rfl ?_
        | refine WS.near rfl (o_loadH rfl) rfl ?_
        | refine WS.near rfl (o_loadHN rfl rfl) rfl ?_
        | refine WS.near rfl (o_storeH (by assumption) rfl rfl) rfl ?_
        | refine WS.near rfl (o_boxH 0 rfl) rfl ?_
        | refine WS.near rfl (o_boxH 1 rfl) rfl ?_
        | refine WS.near rfl (o_boxH 2 rfl) rfl ?_
        | refine WS.near rfl (o_boxH 3 rfl) rfl ?_
        | refine WS.near rfl (o_boxH 4 rfl) rfl ?_
        | refine WS.near rfl (o_boxH 5 rfl) rfl ?_
        | refine WS.near rfl (o_allocH 0 rfl) rfl ?_
        | refine WS.near rfl (o_allocH 1 rfl) rfl ?_
        | refine WS.near rfl (o_allocH 2 rfl) rfl ?_
        | refine WS.near rfl (o_allocH 3 rfl) rfl ?_
        | refine WS.near rfl (o_allocH 4 rfl) rfl ?_
        | refine WS.near rfl (o_allocH 5 rfl) rfl ?_
        | refine WS.near rfl (o_add (by omega) (by omega)) rfl ?_
        | refine WS.near rfl (o_sub (by omega) (by omega)) rfl ?_
        | refine WS.near rfl (o_sub8 (by omega) (by omega)) rfl ?_
        | refine WS.near rfl (o_conv (by omega) (by omega)) rfl ?_
        | refine WS.near rfl (o_index _ rfl (by omega)) rfl ?_
        | refine WS.near rfl (o_index 0 rfl (by omega)) rfl ?_
        | refine WS.near rfl (o_iaddrB _ rfl (by omega)) rfl ?_
        | refine WS.near rfl (o_sliceS _ _ rfl rfl (by omega) (by omega)) rfl ?_
        | refine WS.near rfl (o_sliceF _ rfl (by omega)) rfl ?_
        | refine WS.near rfl (o_sliceT _ rfl (by omega)) rfl ?_)
    exact ⟨_, rfl, fin_bool rfl⟩
  · refine WS.puF hf rfl rfl (name_yes hs) ?_
    repeat' (first
        | refine W.seq ?_
        | refine W.region ?_
        | refine WS.nil ?_
        | refine W.skip ?_
        | refine W.block ?_
        | refine W.ret ?_
        | refine W.exit ?_
        | refine W.yes rfl rfl ?_
        | refine W.no rfl rfl ?_
        | refine W.fork rfl (fun _ => ?_) (fun _ => ?_)
        | refine WS.guardT rfl ?_
        | refine WS.guardF rfl rfl rfl ?_
        | refine WS.guardV rfl rfl ?_
        | refine WS.guardK rfl (fun _ => ?_) (fun _ => ?_)
        | refine WS.near rfl o_mov rfl ?_
        | refine WS.near rfl o_pickT rfl ?_
        | refine WS.near rfl o_pickF rfl ?_
        | refine WS.near rfl o_notT rfl ?_
        | refine WS.near rfl o_notF rfl ?_
        | refine WS.near rfl o_lss rfl ?_
        | refine WS.near rfl o_leq rfl ?_
        | refine WS.near rfl o_gtr rfl ?_
        | refine WS.near rfl o_geq rfl ?_
        | refine WS.near rfl o_eql rfl ?_
        | refine WS.near rfl o_neq rfl ?_
        | refine WS.near rfl o_seqlR rfl ?_
        | refine WS.near rfl o_ceq0 rfl ?_
        | refine WS.near rfl o_seql0 rfl ?_
        | refine WS.near rfl o_sneq0 rfl ?_
        | refine WS.near rfl o_seql rfl ?_
        | refine WS.near rfl o_sneq rfl ?_
        | refine WS.near rfl o_not rfl ?_
        | refine WS.near rfl o_lenS rfl ?_
        | refine WS.near rfl o_lenB rfl ?_
        | refine WS.near rfl o_lenF rfl ?_
        | refine WS.near rfl o_faddr rfl ?_
        | refine WS.near rfl o_s2b rfl ?_
        | refine WS.near rfl o_lenB rfl ?_
        | refine WS.near rfl o_loadF rfl ?_
        | refine WS.near rfl o_binB rfl ?_
        | refine WS.near rfl (o_build rfl) rfl ?_
        | refine WS.near rfl (o_loadH rfl) rfl ?_
        | refine WS.near rfl (o_loadHN rfl rfl) rfl ?_
        | refine WS.near rfl (o_storeH (by assumption) rfl rfl) rfl ?_
        | refine WS.near rfl (o_boxH 0 rfl) rfl ?_
        | refine WS.near rfl (o_boxH 1 rfl) rfl ?_
        | refine WS.near rfl (o_boxH 2 rfl) rfl ?_
        | refine WS.near rfl (o_boxH 3 rfl) rfl ?_
        | refine WS.near rfl (o_boxH 4 rfl) rfl ?_
        | refine WS.near rfl (o_boxH 5 rfl) rfl ?_
        | refine WS.near rfl (o_allocH 0 rfl) rfl ?_
        | refine WS.near rfl (o_allocH 1 rfl) rfl ?_
        | refine WS.near rfl (o_allocH 2 rfl) rfl ?_
        | refine WS.near rfl (o_allocH 3 rfl) rfl ?_
        | refine WS.near rfl (o_allocH 4 rfl) rfl ?_
        | refine WS.near rfl (o_allocH 5 rfl) rfl ?_
        | refine WS.near rfl (o_add (by omega) (by omega)) rfl ?_
        | refine WS.near rfl (o_sub (by omega) (by omega)) rfl ?_
        | refine WS.near rfl (o_sub8 (by omega) (by omega)) rfl ?_
        | refine WS.near rfl (o_conv (by omega) (by omega)) rfl ?_
        | refine WS.near rfl (o_index _ rfl (by omega)) rfl ?_
        | refine WS.near rfl (o_index 0 rfl (by omega)) rfl ?_
        | refine WS.near rfl (o_iaddrB _ rfl (by omega)) rfl ?_
        | refine WS.near rfl (o_sliceS _ _ rfl rfl (by omega) (by omega)) rfl ?_
        | refine WS.near rfl (o_sliceF _ rfl (by omega)) rfl ?_
        | refine WS.near rfl (o_sliceT _ rfl (by omega)) rfl ?_)
    refine WS.puF hf rfl rfl (same_pu s) ?_
    repeat' (first
        | refine W.seq ?_
        | refine W.region ?_
        | refine WS.nil ?_
        | refine W.skip ?_
        | refine W.block ?_
        | refine W.ret ?_
        | refine W.exit ?_
        | refine W.yes rfl rfl ?_
        | refine W.no rfl rfl ?_
        | refine W.fork rfl (fun _ => ?_) (fun _ => ?_)
        | refine WS.guardT rfl ?_
        | refine WS.guardF rfl rfl rfl ?_
        | refine WS.guardV rfl rfl ?_
        | refine WS.guardK rfl (fun _ => ?_) (fun _ => ?_)
        | refine WS.near rfl o_mov rfl ?_
        | refine WS.near rfl o_pickT rfl ?_
        | refine WS.near rfl o_pickF rfl ?_
        | refine WS.near rfl o_notT rfl ?_
        | refine WS.near rfl o_notF rfl ?_
        | refine WS.near rfl o_lss rfl ?_
        | refine WS.near rfl o_leq rfl ?_
        | refine WS.near rfl o_gtr rfl ?_
        | refine WS.near rfl o_geq rfl ?_
        | refine WS.near rfl o_eql rfl ?_
        | refine WS.near rfl o_neq rfl ?_
        | refine WS.near rfl o_seqlR rfl ?_
        | refine WS.near rfl o_ceq0 rfl ?_
        | refine WS.near rfl o_seql0 rfl ?_
        | refine WS.near rfl o_sneq0 rfl ?_
        | refine WS.near rfl o_seql rfl ?_
        | refine WS.near rfl o_sneq rfl ?_
        | refine WS.near rfl o_not rfl ?_
        | refine WS.near rfl o_lenS rfl ?_
        | refine WS.near rfl o_lenB rfl ?_
        | refine WS.near rfl o_lenF rfl ?_
        | refine WS.near rfl o_faddr rfl ?_
        | refine WS.near rfl o_s2b rfl ?_
        | refine WS.near rfl o_lenB rfl ?_
        | refine WS.near rfl o_loadF rfl ?_
        | refine WS.near rfl o_binB rfl ?_
        | refine WS.near rfl (o_build rfl) rfl ?_
        | refine WS.near rfl (o_loadH rfl) rfl ?_
        | refine WS.near rfl (o_loadHN rfl rfl) rfl ?_
        | refine WS.near rfl (o_storeH (by assumption) rfl rfl) rfl ?_
        | refine WS.near rfl (o_boxH 0 rfl) rfl ?_
        | refine WS.near rfl (o_boxH 1 rfl) rfl ?_
        | refine WS.near rfl (o_boxH 2 rfl) rfl ?_
        | refine WS.near rfl (o_boxH 3 rfl) rfl ?_
        | refine WS.near rfl (o_boxH 4 rfl) rfl ?_
        | refine WS.near rfl (o_boxH 5 rfl) rfl ?_
        | refine WS.near rfl (o_allocH 0 rfl) rfl ?_
        | refine WS.near rfl (o_allocH 1 rfl) rfl ?_
        | refine WS.near rfl (o_allocH 2 rfl) rfl ?_
        | refine WS.near rfl (o_allocH 3 rfl) rfl ?_
        | refine WS.near rfl (o_allocH 4 rfl) rfl ?_
        | refine WS.near rfl (o_allocH 5 rfl) rfl ?_
        | refine WS.near rfl (o_add (by omega) (by omega)) rfl ?_
        | refine WS.near rfl (o_sub (by omega) (by omega)) rfl ?_
        | refine WS.near rfl (o_sub8 (by omega) (by omega)) rfl ?_
        | refine WS.near rfl (o_conv (by omega) (by omega)) rfl ?_
        | refine WS.near rfl (o_index _ rfl (by omega)) rfl ?_
        | refine WS.near rfl (o_index 0 rfl (by omega)) rfl ?_
        | refine WS.near rfl (o_iaddrB _ rfl (by omega)) rfl ?_
        | refine WS.near rfl (o_sliceS _ _ rfl rfl (by omega) (by omega)) rfl ?_
        | refine WS.near rfl (o_sliceF _ rfl (by omega)) rfl ?_
        | refine WS.near rfl (o_sliceT _ rfl (by omega)) rfl ?_)
    exact ⟨_, rfl, fin_bool rfl⟩

/-- the law's own words: the first i bytes do -/
def okTo (s : List Nat) (i : Nat) : Prop := (1 ≤ s.length ∧ s.length ≤ 24) ∧ ∀ j, j < i → isLetter (at' s j) ∨ ((isDigit (at' s j) ∨ at' s j = 95) ∧ 0 < j)
theorem okTo_next {s : List Nat} {i : Nat} : okTo s (i + 1) ↔ okTo s i ∧ (isLetter (at' s i) ∨ ((isDigit (at' s i) ∨ at' s i = 95) ∧ 0 < i)) := by
  unfold okTo
  constructor
  · rintro ⟨h1, h2⟩
    exact ⟨⟨h1, fun j hj => h2 j (by omega)⟩, h2 i (by omega)⟩
  · rintro ⟨⟨h1, h2⟩, h3⟩
    refine ⟨h1, fun j hj => ?_⟩
    by_cases hji : j = i
    · rw [hji]; exact h3
    · exact h2 j (by omega)
theorem okTo_all {s : List Nat} : okTo s s.length ↔ named s := by
  unfold okTo named goes
  constructor
  · rintro ⟨⟨h1, h2⟩, h3⟩
    refine ⟨by omega, h2, ?_, fun i hi => ?_⟩
    · rcases h3 0 (by omega) with h | h
      · exact h
      · omega
    · rcases h3 i hi with h | ⟨h | h, _⟩
      · exact .inl h
      · exact .inr (.inl h)
      · exact .inr (.inr h)
  · rintro ⟨h1, h2, h3, h4⟩
    refine ⟨⟨by omega, h2⟩, fun j hj => ?_⟩
    by_cases hj0 : j = 0
    · rw [hj0]; exact .inl h3
    · rcases h4 j hj with h | h | h
      · exact .inl h
      · exact .inr ⟨.inl h, by omega⟩
      · exact .inr ⟨.inr h, by omega⟩

theorem okTo_t {s : List Nat} {i : Nat} (hq : okTo s i) : okTo s (i + 1) ↔ (isLetter (at' s i) ∨ ((isDigit (at' s i) ∨ at' s i = 95) ∧ 0 < i)) := okTo_next.trans ⟨fun h => h.2, fun h => ⟨hq, h⟩⟩
theorem okTo_0 {s : List Nat} : okTo s 0 ↔ 1 ≤ s.length ∧ s.length ≤ 24 := ⟨fun h => h.1, fun h => ⟨h, fun j hj => by omega⟩⟩
theorem bval {b c : Bool} (h : b = c) : some (V.bool b) = some (V.bool c) := by rw [h]

theorem not_dec {p : Prop} [Decidable p] (h : ¬ p) : decide p = false := decide_eq_false h
theorem yes_dec {p : Prop} [Decidable p] (h : p) : decide p = true := decide_eq_true h

set_option maxHeartbeats 1000000 in
open Classical in
theorem law_pu (s : List Nat) : PuF D1 3 [.str s] (.bool true) := by
  refine PuF.tidy rfl rfl rfl rfl rfl fun h hf => ?_
  refine W.seq ?_
  repeat' (first
      | refine W.region ?_
      | refine WS.nil ?_
      | refine W.skip ?_
      | refine W.block ?_
      | refine W.ret ?_
      | refine W.exit ?_
      | refine W.yes rfl rfl ?_
      | refine W.no rfl rfl ?_
      | refine W.fork rfl (fun _ => ?_) (fun _ => ?_)
      | refine WS.guardT rfl ?_
      | refine WS.guardF rfl rfl rfl ?_
      | refine WS.guardV rfl rfl ?_
      | refine WS.guardK rfl (fun _ => ?_) (fun _ => ?_)
      | refine WS.near rfl o_mov rfl ?_
      | refine WS.near rfl o_pickT rfl ?_
      | refine WS.near rfl o_pickF rfl ?_
      | refine WS.near rfl o_notT rfl ?_
      | refine WS.near rfl o_notF rfl ?_
      | refine WS.near rfl o_lss rfl ?_
      | refine WS.near rfl o_leq rfl ?_
      | refine WS.near rfl o_gtr rfl ?_
      | refine WS.near rfl o_geq rfl ?_
      | refine WS.near rfl o_eql rfl ?_
      | refine WS.near rfl o_neq rfl ?_
      | refine WS.near rfl o_seqlR rfl ?_
      | refine WS.near rfl o_ceq0 rfl ?_
      | refine WS.near rfl o_seql0 rfl ?_
      | refine WS.near rfl o_sneq0 rfl ?_
      | refine WS.near rfl o_seql rfl ?_
      | refine WS.near rfl o_sneq rfl ?_
      | refine WS.near rfl o_not rfl ?_
      | refine WS.near rfl o_lenS rfl ?_
      | refine WS.near rfl o_lenB rfl ?_
      | refine WS.near rfl o_lenF rfl ?_
      | refine WS.near rfl o_faddr rfl ?_
      | refine WS.near rfl o_s2b rfl ?_
      | refine WS.near rfl o_lenB rfl ?_
      | refine WS.near rfl o_loadF rfl ?_
      | refine WS.near rfl o_binB rfl ?_
      | refine WS.near rfl (o_build rfl) rfl ?_
      | refine WS.near rfl (o_loadH rfl) rfl ?_
      | refine WS.near rfl (o_loadHN rfl rfl) rfl ?_
      | refine WS.near rfl (o_storeH (by assumption) rfl rfl) rfl ?_
      | refine WS.near rfl (o_boxH 0 rfl) rfl ?_
      | refine WS.near rfl (o_boxH 1 rfl) rfl ?_
      | refine WS.near rfl (o_boxH 2 rfl) rfl ?_
      | refine WS.near rfl (o_boxH 3 rfl) rfl ?_
      | refine WS.near rfl (o_boxH 4 rfl) rfl ?_
      | refine WS.near rfl (o_boxH 5 rfl) rfl ?_
      | refine WS.near rfl (o_allocH 0 rfl) rfl ?_
      | refine WS.near rfl (o_allocH 1 rfl) rfl ?_
      | refine WS.near rfl (o_allocH 2 rfl) rfl ?_
      | refine WS.near rfl (o_allocH 3 rfl) rfl ?_
      | refine WS.near rfl (o_allocH 4 rfl) rfl ?_
      | refine WS.near rfl (o_allocH 5 rfl) rfl ?_
      | refine WS.near rfl (o_add (by omega) (by omega)) rfl ?_
      | refine WS.near rfl (o_sub (by omega) (by omega)) rfl ?_
      | refine WS.near rfl (o_sub8 (by omega) (by omega)) rfl ?_
      | refine WS.near rfl (o_conv (by omega) (by omega)) rfl ?_
      | refine WS.near rfl (o_index _ rfl (by omega)) rfl ?_
      | refine WS.near rfl (o_index 0 rfl (by omega)) rfl ?_
      | refine WS.near rfl (o_iaddrB _ rfl (by omega)) rfl ?_
      | refine WS.near rfl (o_sliceS _ _ rfl rfl (by omega) (by omega)) rfl ?_
      | refine WS.near rfl (o_sliceF _ rfl (by omega)) rfl ?_
      | refine WS.near rfl (o_sliceT _ rfl (by omega)) rfl ?_)
  refine W.seq ?_
  repeat' (first
      | refine W.region ?_
      | refine WS.nil ?_
      | refine W.skip ?_
      | refine W.block ?_
      | refine W.ret ?_
      | refine W.exit ?_
      | refine W.yes rfl rfl ?_
      | refine W.no rfl rfl ?_
      | refine W.fork rfl (fun _ => ?_) (fun _ => ?_)
      | refine WS.guardT rfl ?_
      | refine WS.guardF rfl rfl rfl ?_
      | refine WS.guardV rfl rfl ?_
      | refine WS.guardK rfl (fun _ => ?_) (fun _ => ?_)
      | refine WS.near rfl o_mov rfl ?_
      | refine WS.near rfl o_pickT rfl ?_
      | refine WS.near rfl o_pickF rfl ?_
      | refine WS.near rfl o_notT rfl ?_
      | refine WS.near rfl o_notF rfl ?_
      | refine WS.near rfl o_lss rfl ?_
      | refine WS.near rfl o_leq rfl ?_
      | refine WS.near rfl o_gtr rfl ?_
      | refine WS.near rfl o_geq rfl ?_
      | refine WS.near rfl o_eql rfl ?_
      | refine WS.near rfl o_neq rfl ?_
      | refine WS.near rfl o_seqlR rfl ?_
      | refine WS.near rfl o_ceq0 rfl ?_
      | refine WS.near rfl o_seql0 rfl ?_
      | refine WS.near rfl o_sneq0 rfl ?_
      | refine WS.near rfl o_seql rfl ?_
      | refine WS.near rfl o_sneq rfl ?_
      | refine WS.near rfl o_not rfl ?_
      | refine WS.near rfl o_lenS rfl ?_
      | refine WS.near rfl o_lenB rfl ?_
      | refine WS.near rfl o_lenF rfl ?_
      | refine WS.near rfl o_faddr rfl ?_
      | refine WS.near rfl o_s2b rfl ?_
      | refine WS.near rfl o_lenB rfl ?_
      | refine WS.near rfl o_loadF rfl ?_
      | refine WS.near rfl o_binB rfl ?_
      | refine WS.near rfl (o_build rfl) rfl ?_
      | refine WS.near rfl (o_loadH rfl) rfl ?_
      | refine WS.near rfl (o_loadHN rfl rfl) rfl ?_
      | refine WS.near rfl (o_storeH (by assumption) rfl rfl) rfl ?_
      | refine WS.near rfl (o_boxH 0 rfl) rfl ?_
      | refine WS.near rfl (o_boxH 1 rfl) rfl ?_
      | refine WS.near rfl (o_boxH 2 rfl) rfl ?_
      | refine WS.near rfl (o_boxH 3 rfl) rfl ?_
      | refine WS.near rfl (o_boxH 4 rfl) rfl ?_
      | refine WS.near rfl (o_boxH 5 rfl) rfl ?_
      | refine WS.near rfl (o_allocH 0 rfl) rfl ?_
      | refine WS.near rfl (o_allocH 1 rfl) rfl ?_
      | refine WS.near rfl (o_allocH 2 rfl) rfl ?_
      | refine WS.near rfl (o_allocH 3 rfl) rfl ?_
      | refine WS.near rfl (o_allocH 4 rfl) rfl ?_
      | refine WS.near rfl (o_allocH 5 rfl) rfl ?_
      | refine WS.near rfl (o_add (by omega) (by omega)) rfl ?_
      | refine WS.near rfl (o_sub (by omega) (by omega)) rfl ?_
      | refine WS.near rfl (o_sub8 (by omega) (by omega)) rfl ?_
      | refine WS.near rfl (o_conv (by omega) (by omega)) rfl ?_
      | refine WS.near rfl (o_index _ rfl (by omega)) rfl ?_
      | refine WS.near rfl (o_index 0 rfl (by omega)) rfl ?_
      | refine WS.near rfl (o_iaddrB _ rfl (by omega)) rfl ?_
      | refine WS.near rfl (o_sliceS _ _ rfl rfl (by omega) (by omega)) rfl ?_
      | refine WS.near rfl (o_sliceF _ rfl (by omega)) rfl ?_
      | refine WS.near rfl (o_sliceT _ rfl (by omega)) rfl ?_)
  refine WS.puF hf rfl rfl alive_pu ?_
  repeat' (first
      | refine W.region ?_
      | refine WS.nil ?_
      | refine W.skip ?_
      | refine W.block ?_
      | refine W.ret ?_
      | refine W.exit ?_
      | refine W.yes rfl rfl ?_
      | refine W.no rfl rfl ?_
      | refine W.fork rfl (fun _ => ?_) (fun _ => ?_)
      | refine WS.guardT rfl ?_
      | refine WS.guardF rfl rfl rfl ?_
      | refine WS.guardV rfl rfl ?_
      | refine WS.guardK rfl (fun _ => ?_) (fun _ => ?_)
      | refine WS.near rfl o_mov rfl ?_
      | refine WS.near rfl o_pickT rfl ?_
      | refine WS.near rfl o_pickF rfl ?_
      | refine WS.near rfl o_notT rfl ?_
      | refine WS.near rfl o_notF rfl ?_
      | refine WS.near rfl o_lss rfl ?_
      | refine WS.near rfl o_leq rfl ?_
      | refine WS.near rfl o_gtr rfl ?_
      | refine WS.near rfl o_geq rfl ?_
      | refine WS.near rfl o_eql rfl ?_
      | refine WS.near rfl o_neq rfl ?_
      | refine WS.near rfl o_seqlR rfl ?_
      | refine WS.near rfl o_ceq0 rfl ?_
      | refine WS.near rfl o_seql0 rfl ?_
      | refine WS.near rfl o_sneq0 rfl ?_
      | refine WS.near rfl o_seql rfl ?_
      | refine WS.near rfl o_sneq rfl ?_
      | refine WS.near rfl o_not rfl ?_
      | refine WS.near rfl o_lenS rfl ?_
      | refine WS.near rfl o_lenB rfl ?_
      | refine WS.near rfl o_lenF rfl ?_
      | refine WS.near rfl o_faddr rfl ?_
      | refine WS.near rfl o_s2b rfl ?_
      | refine WS.near rfl o_lenB rfl ?_
      | refine WS.near rfl o_loadF rfl ?_
      | refine WS.near rfl o_binB rfl ?_
      | refine WS.near rfl (o_build rfl) rfl ?_
      | refine WS.near rfl (o_loadH rfl) rfl ?_
      | refine WS.near rfl (o_loadHN rfl rfl) rfl ?_
      | refine WS.near rfl (o_storeH (by assumption) rfl rfl) rfl ?_
      | refine WS.near rfl (o_boxH 0 rfl) rfl ?_
      | refine WS.near rfl (o_boxH 1 rfl) rfl ?_
      | refine WS.near rfl (o_boxH 2 rfl) rfl ?_
      | refine WS.near rfl (o_boxH 3 rfl) rfl ?_
      | refine WS.near rfl (o_boxH 4 rfl) rfl ?_
      | refine WS.near rfl (o_boxH 5 rfl) rfl ?_
      | refine WS.near rfl (o_allocH 0 rfl) rfl ?_
      | refine WS.near rfl (o_allocH 1 rfl) rfl ?_
      | refine WS.near rfl (o_allocH 2 rfl) rfl ?_
      | refine WS.near rfl (o_allocH 3 rfl) rfl ?_
      | refine WS.near rfl (o_allocH 4 rfl) rfl ?_
      | refine WS.near rfl (o_allocH 5 rfl) rfl ?_
      | refine WS.near rfl (o_add (by omega) (by omega)) rfl ?_
      | refine WS.near rfl (o_sub (by omega) (by omega)) rfl ?_
      | refine WS.near rfl (o_sub8 (by omega) (by omega)) rfl ?_
      | refine WS.near rfl (o_conv (by omega) (by omega)) rfl ?_
      | refine WS.near rfl (o_index _ rfl (by omega)) rfl ?_
      | refine WS.near rfl (o_index 0 rfl (by omega)) rfl ?_
      | refine WS.near rfl (o_iaddrB _ rfl (by omega)) rfl ?_
      | refine WS.near rfl (o_sliceS _ _ rfl rfl (by omega) (by omega)) rfl ?_
      | refine WS.near rfl (o_sliceF _ rfl (by omega)) rfl ?_
      | refine WS.near rfl (o_sliceT _ rfl (by omega)) rfl ?_)
  refine W.seq ?_
  repeat' (first
      | refine W.region ?_
      | refine WS.nil ?_
      | refine W.skip ?_
      | refine W.block ?_
      | refine W.ret ?_
      | refine W.exit ?_
      | refine W.yes rfl rfl ?_
      | refine W.no rfl rfl ?_
      | refine W.fork rfl (fun _ => ?_) (fun _ => ?_)
      | refine WS.guardT rfl ?_
      | refine WS.guardF rfl rfl rfl ?_
      | refine WS.guardV rfl rfl ?_
      | refine WS.guardK rfl (fun _ => ?_) (fun _ => ?_)
      | refine WS.near rfl o_mov rfl ?_
      | refine WS.near rfl o_pickT rfl ?_
      | refine WS.near rfl o_pickF rfl ?_
      | refine WS.near rfl o_notT rfl ?_
      | refine WS.near rfl o_notF rfl ?_
      | refine WS.near rfl o_lss rfl ?_
      | refine WS.near rfl o_leq rfl ?_
      | refine WS.near rfl o_gtr rfl ?_
      | refine WS.near rfl o_geq rfl ?_
      | refine WS.near rfl o_eql rfl ?_
      | refine WS.near rfl o_neq rfl ?_
      | refine WS.near rfl o_seqlR rfl ?_
      | refine WS.near rfl o_ceq0 rfl ?_
      | refine WS.near rfl o_seql0 rfl ?_
      | refine WS.near rfl o_sneq0 rfl ?_
      | refine WS.near rfl o_seql rfl ?_
      | refine WS.near rfl o_sneq rfl ?_
      | refine WS.near rfl o_not rfl ?_
      | refine WS.near rfl o_lenS rfl ?_
      | refine WS.near rfl o_lenB rfl ?_
      | refine WS.near rfl o_lenF rfl ?_
      | refine WS.near rfl o_faddr rfl ?_
      | refine WS.near rfl o_s2b rfl ?_
      | refine WS.near rfl o_lenB rfl ?_
      | refine WS.near rfl o_loadF rfl ?_
      | refine WS.near rfl o_binB rfl ?_
      | refine WS.near rfl (o_build rfl) rfl ?_
      | refine WS.near rfl (o_loadH rfl) rfl ?_
      | refine WS.near rfl (o_loadHN rfl rfl) rfl ?_
      | refine WS.near rfl (o_storeH (by assumption) rfl rfl) rfl ?_
      | refine WS.near rfl (o_boxH 0 rfl) rfl ?_
      | refine WS.near rfl (o_boxH 1 rfl) rfl ?_
      | refine WS.near rfl (o_boxH 2 rfl) rfl ?_
      | refine WS.near rfl (o_boxH 3 rfl) rfl ?_
      | refine WS.near rfl (o_boxH 4 rfl) rfl ?_
      | refine WS.near rfl (o_boxH 5 rfl) rfl ?_
      | refine WS.near rfl (o_allocH 0 rfl) rfl ?_
      | refine WS.near rfl (o_allocH 1 rfl) rfl ?_
      | refine WS.near rfl (o_allocH 2 rfl) rfl ?_
      | refine WS.near rfl (o_allocH 3 rfl) rfl ?_
      | refine WS.near rfl (o_allocH 4 rfl) rfl ?_
      | refine WS.near rfl (o_allocH 5 rfl) rfl ?_
      | refine WS.near rfl (o_add (by omega) (by omega)) rfl ?_
      | refine WS.near rfl (o_sub (by omega) (by omega)) rfl ?_
      | refine WS.near rfl (o_sub8 (by omega) (by omega)) rfl ?_
      | refine WS.near rfl (o_conv (by omega) (by omega)) rfl ?_
      | refine WS.near rfl (o_index _ rfl (by omega)) rfl ?_
      | refine WS.near rfl (o_index 0 rfl (by omega)) rfl ?_
      | refine WS.near rfl (o_iaddrB _ rfl (by omega)) rfl ?_
      | refine WS.near rfl (o_sliceS _ _ rfl rfl (by omega) (by omega)) rfl ?_
      | refine WS.near rfl (o_sliceF _ rfl (by omega)) rfl ?_
      | refine WS.near rfl (o_sliceT _ rfl (by omega)) rfl ?_)
  refine W.seq ?_
  repeat' (first
      | refine W.region ?_
      | refine WS.nil ?_
      | refine W.skip ?_
      | refine W.block ?_
      | refine W.ret ?_
      | refine W.exit ?_
      | refine W.yes rfl rfl ?_
      | refine W.no rfl rfl ?_
      | refine W.fork rfl (fun _ => ?_) (fun _ => ?_)
      | refine WS.guardT rfl ?_
      | refine WS.guardF rfl rfl rfl ?_
      | refine WS.guardV rfl rfl ?_
      | refine WS.guardK rfl (fun _ => ?_) (fun _ => ?_)
      | refine WS.near rfl o_mov rfl ?_
      | refine WS.near rfl o_pickT rfl ?_
      | refine WS.near rfl o_pickF rfl ?_
      | refine WS.near rfl o_notT rfl ?_
      | refine WS.near rfl o_notF rfl ?_
      | refine WS.near rfl o_lss rfl ?_
      | refine WS.near rfl o_leq rfl ?_
      | refine WS.near rfl o_gtr rfl ?_
      | refine WS.near rfl o_geq rfl ?_
      | refine WS.near rfl o_eql rfl ?_
      | refine WS.near rfl o_neq rfl ?_
      | refine WS.near rfl o_seqlR rfl ?_
      | refine WS.near rfl o_ceq0 rfl ?_
      | refine WS.near rfl o_seql0 rfl ?_
      | refine WS.near rfl o_sneq0 rfl ?_
      | refine WS.near rfl o_seql rfl ?_
      | refine WS.near rfl o_sneq rfl ?_
      | refine WS.near rfl o_not rfl ?_
      | refine WS.near rfl o_lenS rfl ?_
      | refine WS.near rfl o_lenB rfl ?_
      | refine WS.near rfl o_lenF rfl ?_
      | refine WS.near rfl o_faddr rfl ?_
      | refine WS.near rfl o_s2b rfl ?_
      | refine WS.near rfl o_lenB rfl ?_
      | refine WS.near rfl o_loadF rfl ?_
      | refine WS.near rfl o_binB rfl ?_
      | refine WS.near rfl (o_build rfl) rfl ?_
      | refine WS.near rfl (o_loadH rfl) rfl ?_
      | refine WS.near rfl (o_loadHN rfl rfl) rfl ?_
      | refine WS.near rfl (o_storeH (by assumption) rfl rfl) rfl ?_
      | refine WS.near rfl (o_boxH 0 rfl) rfl ?_
      | refine WS.near rfl (o_boxH 1 rfl) rfl ?_
      | refine WS.near rfl (o_boxH 2 rfl) rfl ?_
      | refine WS.near rfl (o_boxH 3 rfl) rfl ?_
      | refine WS.near rfl (o_boxH 4 rfl) rfl ?_
      | refine WS.near rfl (o_boxH 5 rfl) rfl ?_
      | refine WS.near rfl (o_allocH 0 rfl) rfl ?_
      | refine WS.near rfl (o_allocH 1 rfl) rfl ?_
      | refine WS.near rfl (o_allocH 2 rfl) rfl ?_
      | refine WS.near rfl (o_allocH 3 rfl) rfl ?_
      | refine WS.near rfl (o_allocH 4 rfl) rfl ?_
      | refine WS.near rfl (o_allocH 5 rfl) rfl ?_
      | refine WS.near rfl (o_add (by omega) (by omega)) rfl ?_
      | refine WS.near rfl (o_sub (by omega) (by omega)) rfl ?_
      | refine WS.near rfl (o_sub8 (by omega) (by omega)) rfl ?_
      | refine WS.near rfl (o_conv (by omega) (by omega)) rfl ?_
      | refine WS.near rfl (o_index _ rfl (by omega)) rfl ?_
      | refine WS.near rfl (o_index 0 rfl (by omega)) rfl ?_
      | refine WS.near rfl (o_iaddrB _ rfl (by omega)) rfl ?_
      | refine WS.near rfl (o_sliceS _ _ rfl rfl (by omega) (by omega)) rfl ?_
      | refine WS.near rfl (o_sliceF _ rfl (by omega)) rfl ?_
      | refine WS.near rfl (o_sliceT _ rfl (by omega)) rfl ?_)
  · refine W.seq ?_
    repeat' (first
        | refine W.region ?_
        | refine WS.nil ?_
        | refine W.skip ?_
        | refine W.block ?_
        | refine W.ret ?_
        | refine W.exit ?_
        | refine W.yes rfl rfl ?_
        | refine W.no rfl rfl ?_
        | refine W.fork rfl (fun _ => ?_) (fun _ => ?_)
        | refine WS.guardT rfl ?_
        | refine WS.guardF rfl rfl rfl ?_
        | refine WS.guardV rfl rfl ?_
        | refine WS.guardK rfl (fun _ => ?_) (fun _ => ?_)
        | refine WS.near rfl o_mov rfl ?_
        | refine WS.near rfl o_pickT rfl ?_
        | refine WS.near rfl o_pickF rfl ?_
        | refine WS.near rfl o_notT rfl ?_
        | refine WS.near rfl o_notF rfl ?_
        | refine WS.near rfl o_lss rfl ?_
        | refine WS.near rfl o_leq rfl ?_
        | refine WS.near rfl o_gtr rfl ?_
        | refine WS.near rfl o_geq rfl ?_
        | refine WS.near rfl o_eql rfl ?_
        | refine WS.near rfl o_neq rfl ?_
        | refine WS.near rfl o_seqlR rfl ?_
        | refine WS.near rfl o_ceq0 rfl ?_
        | refine WS.near rfl o_seql0 rfl ?_
        | refine WS.near rfl o_sneq0 rfl ?_
        | refine WS.near rfl o_seql rfl ?_
        | refine WS.near rfl o_sneq rfl ?_
        | refine WS.near rfl o_not rfl ?_
        | refine WS.near rfl o_lenS rfl ?_
        | refine WS.near rfl o_lenB rfl ?_
        | refine WS.near rfl o_lenF rfl ?_
        | refine WS.near rfl o_faddr rfl ?_
        | refine WS.near rfl o_s2b rfl ?_
        | refine WS.near rfl o_lenB rfl ?_
        | refine WS.near rfl o_loadF rfl ?_
        | refine WS.near rfl o_binB rfl ?_
        | refine WS.near rfl (o_build rfl) rfl ?_
        | refine WS.near rfl (o_loadH rfl) rfl ?_
        | refine WS.near rfl (o_loadHN rfl rfl) rfl ?_
        | refine WS.near rfl (o_storeH (by assumption) rfl rfl) rfl ?_
        | refine WS.near rfl (o_boxH 0 rfl) rfl ?_
        | refine WS.near rfl (o_boxH 1 rfl) rfl ?_
        | refine WS.near rfl (o_boxH 2 rfl) rfl ?_
        | refine WS.near rfl (o_boxH 3 rfl) rfl ?_
        | refine WS.near rfl (o_boxH 4 rfl) rfl ?_
        | refine WS.near rfl (o_boxH 5 rfl) rfl ?_
        | refine WS.near rfl (o_allocH 0 rfl) rfl ?_
        | refine WS.near rfl (o_allocH 1 rfl) rfl ?_
        | refine WS.near rfl (o_allocH 2 rfl) rfl ?_
        | refine WS.near rfl (o_allocH 3 rfl) rfl ?_
        | refine WS.near rfl (o_allocH 4 rfl) rfl ?_
        | refine WS.near rfl (o_allocH 5 rfl) rfl ?_
        | refine WS.near rfl (o_add (by omega) (by omega)) rfl ?_
        | refine WS.near rfl (o_sub (by omega) (by omega)) rfl ?_
        | refine WS.near rfl (o_sub8 (by omega) (by omega)) rfl ?_
        | refine WS.near rfl (o_conv (by omega) (by omega)) rfl ?_
        | refine WS.near rfl (o_index _ rfl (by omega)) rfl ?_
        | refine WS.near rfl (o_index 0 rfl (by omega)) rfl ?_
        | refine WS.near rfl (o_iaddrB _ rfl (by omega)) rfl ?_
        | refine WS.near rfl (o_sliceS _ _ rfl rfl (by omega) (by omega)) rfl ?_
        | refine WS.near rfl (o_sliceF _ rfl (by omega)) rfl ?_
        | refine WS.near rfl (o_sliceT _ rfl (by omega)) rfl ?_)
    exact ⟨_, rfl, fin_bool rfl⟩
  refine W.meet (fun b => [(0, .str s), (3, .bool b)]) (fun _ => hp h []) (fun b => b = decide (okTo s 0)) ?_ ?_
  · skip
    repeat' (first
        | refine W.region ?_
        | refine WS.nil ?_
        | refine W.skip ?_
        | refine W.block ?_
        | refine W.ret ?_
        | refine W.exit ?_
        | refine W.yes rfl rfl ?_
        | refine W.no rfl rfl ?_
        | refine W.fork rfl (fun _ => ?_) (fun _ => ?_)
        | refine WS.guardT rfl ?_
        | refine WS.guardF rfl rfl rfl ?_
        | refine WS.guardV rfl rfl ?_
        | refine WS.guardK rfl (fun _ => ?_) (fun _ => ?_)
        | refine WS.near rfl o_mov rfl ?_
        | refine WS.near rfl o_pickT rfl ?_
        | refine WS.near rfl o_pickF rfl ?_
        | refine WS.near rfl o_notT rfl ?_
        | refine WS.near rfl o_notF rfl ?_
        | refine WS.near rfl o_lss rfl ?_
        | refine WS.near rfl o_leq rfl ?_
        | refine WS.near rfl o_gtr rfl ?_
        | refine WS.near rfl o_geq rfl ?_
        | refine WS.near rfl o_eql rfl ?_
        | refine WS.near rfl o_neq rfl ?_
        | refine WS.near rfl o_seqlR rfl ?_
        | refine WS.near rfl o_ceq0 rfl ?_
        | refine WS.near rfl o_seql0 rfl ?_
        | refine WS.near rfl o_sneq0 rfl ?_
        | refine WS.near rfl o_seql rfl ?_
        | refine WS.near rfl o_sneq rfl ?_
        | refine WS.near rfl o_not rfl ?_
        | refine WS.near rfl o_lenS rfl ?_
        | refine WS.near rfl o_lenB rfl ?_
        | refine WS.near rfl o_lenF rfl ?_
        | refine WS.near rfl o_faddr rfl ?_
        | refine WS.near rfl o_s2b rfl ?_
        | refine WS.near rfl o_lenB rfl ?_
        | refine WS.near rfl o_loadF rfl ?_
        | refine WS.near rfl o_binB rfl ?_
        | refine WS.near rfl (o_build rfl) rfl ?_
        | refine WS.near rfl (o_loadH rfl) rfl ?_
        | refine WS.near rfl (o_loadHN rfl rfl) rfl ?_
        | refine WS.near rfl (o_storeH (by assumption) rfl rfl) rfl ?_
        | refine WS.near rfl (o_boxH 0 rfl) rfl ?_
        | refine WS.near rfl (o_boxH 1 rfl) rfl ?_
        | refine WS.near rfl (o_boxH 2 rfl) rfl ?_
        | refine WS.near rfl (o_boxH 3 rfl) rfl ?_
        | refine WS.near rfl (o_boxH 4 rfl) rfl ?_
        | refine WS.near rfl (o_boxH 5 rfl) rfl ?_
        | refine WS.near rfl (o_allocH 0 rfl) rfl ?_
        | refine WS.near rfl (o_allocH 1 rfl) rfl ?_
        | refine WS.near rfl (o_allocH 2 rfl) rfl ?_
        | refine WS.near rfl (o_allocH 3 rfl) rfl ?_
        | refine WS.near rfl (o_allocH 4 rfl) rfl ?_
        | refine WS.near rfl (o_allocH 5 rfl) rfl ?_
        | refine WS.near rfl (o_add (by omega) (by omega)) rfl ?_
        | refine WS.near rfl (o_sub (by omega) (by omega)) rfl ?_
        | refine WS.near rfl (o_sub8 (by omega) (by omega)) rfl ?_
        | refine WS.near rfl (o_conv (by omega) (by omega)) rfl ?_
        | refine WS.near rfl (o_index _ rfl (by omega)) rfl ?_
        | refine WS.near rfl (o_index 0 rfl (by omega)) rfl ?_
        | refine WS.near rfl (o_iaddrB _ rfl (by omega)) rfl ?_
        | refine WS.near rfl (o_sliceS _ _ rfl rfl (by omega) (by omega)) rfl ?_
        | refine WS.near rfl (o_sliceF _ rfl (by omega)) rfl ?_
        | refine WS.near rfl (o_sliceT _ rfl (by omega)) rfl ?_)
    all_goals
      refine ⟨rfl, _, ?_, ⟨rfl, rfl, trivial⟩, rfl⟩
      first
        | exact bsame (by rw [okTo_0]; omega)
        | exact bfalse (by rw [okTo_0]; omega)
  rintro b0 rfl
  refine W.seq ?_
  refine W.seq ?_
  repeat' (first
      | refine W.region ?_
      | refine WS.nil ?_
      | refine W.skip ?_
      | refine W.block ?_
      | refine W.ret ?_
      | refine W.exit ?_
      | refine W.yes rfl rfl ?_
      | refine W.no rfl rfl ?_
      | refine W.fork rfl (fun _ => ?_) (fun _ => ?_)
      | refine WS.guardT rfl ?_
      | refine WS.guardF rfl rfl rfl ?_
      | refine WS.guardV rfl rfl ?_
      | refine WS.guardK rfl (fun _ => ?_) (fun _ => ?_)
      | refine WS.near rfl o_mov rfl ?_
      | refine WS.near rfl o_pickT rfl ?_
      | refine WS.near rfl o_pickF rfl ?_
      | refine WS.near rfl o_notT rfl ?_
      | refine WS.near rfl o_notF rfl ?_
      | refine WS.near rfl o_lss rfl ?_
      | refine WS.near rfl o_leq rfl ?_
      | refine WS.near rfl o_gtr rfl ?_
      | refine WS.near rfl o_geq rfl ?_
      | refine WS.near rfl o_eql rfl ?_
      | refine WS.near rfl o_neq rfl ?_
      | refine WS.near rfl o_seqlR rfl ?_
      | refine WS.near rfl o_ceq0 rfl ?_
      | refine WS.near rfl o_seql0 rfl ?_
      | refine WS.near rfl o_sneq0 rfl ?_
      | refine WS.near rfl o_seql rfl ?_
      | refine WS.near rfl o_sneq rfl ?_
      | refine WS.near rfl o_not rfl ?_
      | refine WS.near rfl o_lenS rfl ?_
      | refine WS.near rfl o_lenB rfl ?_
      | refine WS.near rfl o_lenF rfl ?_
      | refine WS.near rfl o_faddr rfl ?_
      | refine WS.near rfl o_s2b rfl ?_
      | refine WS.near rfl o_lenB rfl ?_
      | refine WS.near rfl o_loadF rfl ?_
      | refine WS.near rfl o_binB rfl ?_
      | refine WS.near rfl (o_build rfl) rfl ?_
      | refine WS.near rfl (o_loadH rfl) rfl ?_
      | refine WS.near rfl (o_loadHN rfl rfl) rfl ?_
      | refine WS.near rfl (o_storeH (by assumption) rfl rfl) rfl ?_
      | refine WS.near rfl (o_boxH 0 rfl) rfl ?_
      | refine WS.near rfl (o_boxH 1 rfl) rfl ?_
      | refine WS.near rfl (o_boxH 2 rfl) rfl ?_
      | refine WS.near rfl (o_boxH 3 rfl) rfl ?_
      | refine WS.near rfl (o_boxH 4 rfl) rfl ?_
      | refine WS.near rfl (o_boxH 5 rfl) rfl ?_
      | refine WS.near rfl (o_allocH 0 rfl) rfl ?_
      | refine WS.near rfl (o_allocH 1 rfl) rfl ?_
      | refine WS.near rfl (o_allocH 2 rfl) rfl ?_
      | refine WS.near rfl (o_allocH 3 rfl) rfl ?_
      | refine WS.near rfl (o_allocH 4 rfl) rfl ?_
      | refine WS.near rfl (o_allocH 5 rfl) rfl ?_
      | refine WS.near rfl (o_add (by omega) (by omega)) rfl ?_
      | refine WS.near rfl (o_sub (by omega) (by omega)) rfl ?_
      | refine WS.near rfl (o_sub8 (by omega) (by omega)) rfl ?_
      | refine WS.near rfl (o_conv (by omega) (by omega)) rfl ?_
      | refine WS.near rfl (o_index _ rfl (by omega)) rfl ?_
      | refine WS.near rfl (o_index 0 rfl (by omega)) rfl ?_
      | refine WS.near rfl (o_iaddrB _ rfl (by omega)) rfl ?_
      | refine WS.near rfl (o_sliceS _ _ rfl rfl (by omega) (by omega)) rfl ?_
      | refine WS.near rfl (o_sliceF _ rfl (by omega)) rfl ?_
      | refine WS.near rfl (o_sliceT _ rfl (by omega)) rfl ?_)
  refine W.loop (fun a : Nat × Bool => [(0, .str s), (3, .bool a.2), (4, .int .i64 a.1)]) (fun _ => hp h []) (fun a => a.1 ≤ s.length ∧ a.2 = decide (okTo s a.1)) (fun a => s.length - a.1) (0, decide (okTo s 0)) ⟨by show 0 ≤ s.length; omega, rfl⟩
    ⟨rfl, rfl, rfl, trivial⟩ rfl ?_
  rintro ⟨i, b⟩ ⟨hi, hb⟩
  simp only at hi hb ⊢
  refine W.seq ?_
  refine W.seq ?_
  repeat' (first
      | refine W.region ?_
      | refine WS.nil ?_
      | refine W.skip ?_
      | refine W.block ?_
      | refine W.ret ?_
      | refine W.exit ?_
      | refine W.yes rfl rfl ?_
      | refine W.no rfl rfl ?_
      | refine W.fork rfl (fun _ => ?_) (fun _ => ?_)
      | refine WS.guardT rfl ?_
      | refine WS.guardF rfl rfl rfl ?_
      | refine WS.guardV rfl rfl ?_
      | refine WS.guardK rfl (fun _ => ?_) (fun _ => ?_)
      | refine WS.near rfl o_mov rfl ?_
      | refine WS.near rfl o_pickT rfl ?_
      | refine WS.near rfl o_pickF rfl ?_
      | refine WS.near rfl o_notT rfl ?_
      | refine WS.near rfl o_notF rfl ?_
      | refine WS.near rfl o_lss rfl ?_
      | refine WS.near rfl o_leq rfl ?_
      | refine WS.near rfl o_gtr rfl ?_
      | refine WS.near rfl o_geq rfl ?_
      | refine WS.near rfl o_eql rfl ?_
      | refine WS.near rfl o_neq rfl ?_
      | refine WS.near rfl o_seqlR rfl ?_
      | refine WS.near rfl o_ceq0 rfl ?_
      | refine WS.near rfl o_seql0 rfl ?_
      | refine WS.near rfl o_sneq0 rfl ?_
      | refine WS.near rfl o_seql rfl ?_
      | refine WS.near rfl o_sneq rfl ?_
      | refine WS.near rfl o_not rfl ?_
      | refine WS.near rfl o_lenS rfl ?_
      | refine WS.near rfl o_lenB rfl ?_
      | refine WS.near rfl o_lenF rfl ?_
      | refine WS.near rfl o_faddr rfl ?_
      | refine WS.near rfl o_s2b rfl ?_
      | refine WS.near rfl o_lenB rfl ?_
      | refine WS.near rfl o_loadF rfl ?_
      | refine WS.near rfl o_binB rfl ?_
      | refine WS.near rfl (o_build rfl) rfl ?_
      | refine WS.near rfl (o_loadH rfl) rfl ?_
      | refine WS.near rfl (o_loadHN rfl rfl) rfl ?_
      | refine WS.near rfl (o_storeH (by assumption) rfl rfl) rfl ?_
      | refine WS.near rfl (o_boxH 0 rfl) rfl ?_
      | refine WS.near rfl (o_boxH 1 rfl) rfl ?_
      | refine WS.near rfl (o_boxH 2 rfl) rfl ?_
      | refine WS.near rfl (o_boxH 3 rfl) rfl ?_
      | refine WS.near rfl (o_boxH 4 rfl) rfl ?_
      | refine WS.near rfl (o_boxH 5 rfl) rfl ?_
      | refine WS.near rfl (o_allocH 0 rfl) rfl ?_
      | refine WS.near rfl (o_allocH 1 rfl) rfl ?_
      | refine WS.near rfl (o_allocH 2 rfl) rfl ?_
      | refine WS.near rfl (o_allocH 3 rfl) rfl ?_
      | refine WS.near rfl (o_allocH 4 rfl) rfl ?_
      | refine WS.near rfl (o_allocH 5 rfl) rfl ?_
      | refine WS.near rfl (o_add (by omega) (by omega)) rfl ?_
      | refine WS.near rfl (o_sub (by omega) (by omega)) rfl ?_
      | refine WS.near rfl (o_sub8 (by omega) (by omega)) rfl ?_
      | refine WS.near rfl (o_conv (by omega) (by omega)) rfl ?_
      | refine WS.near rfl (o_index _ rfl (by omega)) rfl ?_
      | refine WS.near rfl (o_index 0 rfl (by omega)) rfl ?_
      | refine WS.near rfl (o_iaddrB _ rfl (by omega)) rfl ?_
      | refine WS.near rfl (o_sliceS _ _ rfl rfl (by omega) (by omega)) rfl ?_
      | refine WS.near rfl (o_sliceF _ rfl (by omega)) rfl ?_
      | refine WS.near rfl (o_sliceT _ rfl (by omega)) rfl ?_)
  · rename_i hlt
    refine W.seq ?_
    repeat' (first
        | refine W.region ?_
        | refine WS.nil ?_
        | refine W.skip ?_
        | refine W.block ?_
        | refine W.ret ?_
        | refine W.exit ?_
        | refine W.yes rfl rfl ?_
        | refine W.no rfl rfl ?_
        | refine W.fork rfl (fun _ => ?_) (fun _ => ?_)
        | refine WS.guardT rfl ?_
        | refine WS.guardF rfl rfl rfl ?_
        | refine WS.guardV rfl rfl ?_
        | refine WS.guardK rfl (fun _ => ?_) (fun _ => ?_)
        | refine WS.near rfl o_mov rfl ?_
        | refine WS.near rfl o_pickT rfl ?_
        | refine WS.near rfl o_pickF rfl ?_
        | refine WS.near rfl o_notT rfl ?_
        | refine WS.near rfl o_notF rfl ?_
        | refine WS.near rfl o_lss rfl ?_
        | refine WS.near rfl o_leq rfl ?_
        | refine WS.near rfl o_gtr rfl ?_
        | refine WS.near rfl o_geq rfl ?_
        | refine WS.near rfl o_eql rfl ?_
        | refine WS.near rfl o_neq rfl ?_
        | refine WS.near rfl o_seqlR rfl ?_
        | refine WS.near rfl o_ceq0 rfl ?_
        | refine WS.near rfl o_seql0 rfl ?_
        | refine WS.near rfl o_sneq0 rfl ?_
        | refine WS.near rfl o_seql rfl ?_
        | refine WS.near rfl o_sneq rfl ?_
        | refine WS.near rfl o_not rfl ?_
        | refine WS.near rfl o_lenS rfl ?_
        | refine WS.near rfl o_lenB rfl ?_
        | refine WS.near rfl o_lenF rfl ?_
        | refine WS.near rfl o_faddr rfl ?_
        | refine WS.near rfl o_s2b rfl ?_
        | refine WS.near rfl o_lenB rfl ?_
        | refine WS.near rfl o_loadF rfl ?_
        | refine WS.near rfl o_binB rfl ?_
        | refine WS.near rfl (o_build rfl) rfl ?_
        | refine WS.near rfl (o_loadH rfl) rfl ?_
        | refine WS.near rfl (o_loadHN rfl rfl) rfl ?_
        | refine WS.near rfl (o_storeH (by assumption) rfl rfl) rfl ?_
        | refine WS.near rfl (o_boxH 0 rfl) rfl ?_
        | refine WS.near rfl (o_boxH 1 rfl) rfl ?_
        | refine WS.near rfl (o_boxH 2 rfl) rfl ?_
        | refine WS.near rfl (o_boxH 3 rfl) rfl ?_
        | refine WS.near rfl (o_boxH 4 rfl) rfl ?_
        | refine WS.near rfl (o_boxH 5 rfl) rfl ?_
        | refine WS.near rfl (o_allocH 0 rfl) rfl ?_
        | refine WS.near rfl (o_allocH 1 rfl) rfl ?_
        | refine WS.near rfl (o_allocH 2 rfl) rfl ?_
        | refine WS.near rfl (o_allocH 3 rfl) rfl ?_
        | refine WS.near rfl (o_allocH 4 rfl) rfl ?_
        | refine WS.near rfl (o_allocH 5 rfl) rfl ?_
        | refine WS.near rfl (o_add (by omega) (by omega)) rfl ?_
        | refine WS.near rfl (o_sub (by omega) (by omega)) rfl ?_
        | refine WS.near rfl (o_sub8 (by omega) (by omega)) rfl ?_
        | refine WS.near rfl (o_conv (by omega) (by omega)) rfl ?_
        | refine WS.near rfl (o_index _ rfl (by omega)) rfl ?_
        | refine WS.near rfl (o_index 0 rfl (by omega)) rfl ?_
        | refine WS.near rfl (o_iaddrB _ rfl (by omega)) rfl ?_
        | refine WS.near rfl (o_sliceS _ _ rfl rfl (by omega) (by omega)) rfl ?_
        | refine WS.near rfl (o_sliceF _ rfl (by omega)) rfl ?_
        | refine WS.near rfl (o_sliceT _ rfl (by omega)) rfl ?_)
    refine W.seq ?_
    repeat' (first
        | refine W.region ?_
        | refine WS.nil ?_
        | refine W.skip ?_
        | refine W.block ?_
        | refine W.ret ?_
        | refine W.exit ?_
        | refine W.yes rfl rfl ?_
        | refine W.no rfl rfl ?_
        | refine W.fork rfl (fun _ => ?_) (fun _ => ?_)
        | refine WS.guardT rfl ?_
        | refine WS.guardF rfl rfl rfl ?_
        | refine WS.guardV rfl rfl ?_
        | refine WS.guardK rfl (fun _ => ?_) (fun _ => ?_)
        | refine WS.near rfl o_mov rfl ?_
        | refine WS.near rfl o_pickT rfl ?_
        | refine WS.near rfl o_pickF rfl ?_
        | refine WS.near rfl o_notT rfl ?_
        | refine WS.near rfl o_notF rfl ?_
        | refine WS.near rfl o_lss rfl ?_
        | refine WS.near rfl o_leq rfl ?_
        | refine WS.near rfl o_gtr rfl ?_
        | refine WS.near rfl o_geq rfl ?_
        | refine WS.near rfl o_eql rfl ?_
        | refine WS.near rfl o_neq rfl ?_
        | refine WS.near rfl o_seqlR rfl ?_
        | refine WS.near rfl o_ceq0 rfl ?_
        | refine WS.near rfl o_seql0 rfl ?_
        | refine WS.near rfl o_sneq0 rfl ?_
        | refine WS.near rfl o_seql rfl ?_
        | refine WS.near rfl o_sneq rfl ?_
        | refine WS.near rfl o_not rfl ?_
        | refine WS.near rfl o_lenS rfl ?_
        | refine WS.near rfl o_lenB rfl ?_
        | refine WS.near rfl o_lenF rfl ?_
        | refine WS.near rfl o_faddr rfl ?_
        | refine WS.near rfl o_s2b rfl ?_
        | refine WS.near rfl o_lenB rfl ?_
        | refine WS.near rfl o_loadF rfl ?_
        | refine WS.near rfl o_binB rfl ?_
        | refine WS.near rfl (o_build rfl) rfl ?_
        | refine WS.near rfl (o_loadH rfl) rfl ?_
        | refine WS.near rfl (o_loadHN rfl rfl) rfl ?_
        | refine WS.near rfl (o_storeH (by assumption) rfl rfl) rfl ?_
        | refine WS.near rfl (o_boxH 0 rfl) rfl ?_
        | refine WS.near rfl (o_boxH 1 rfl) rfl ?_
        | refine WS.near rfl (o_boxH 2 rfl) rfl ?_
        | refine WS.near rfl (o_boxH 3 rfl) rfl ?_
        | refine WS.near rfl (o_boxH 4 rfl) rfl ?_
        | refine WS.near rfl (o_boxH 5 rfl) rfl ?_
        | refine WS.near rfl (o_allocH 0 rfl) rfl ?_
        | refine WS.near rfl (o_allocH 1 rfl) rfl ?_
        | refine WS.near rfl (o_allocH 2 rfl) rfl ?_
        | refine WS.near rfl (o_allocH 3 rfl) rfl ?_
        | refine WS.near rfl (o_allocH 4 rfl) rfl ?_
        | refine WS.near rfl (o_allocH 5 rfl) rfl ?_
        | refine WS.near rfl (o_add (by omega) (by omega)) rfl ?_
        | refine WS.near rfl (o_sub (by omega) (by omega)) rfl ?_
        | refine WS.near rfl (o_sub8 (by omega) (by omega)) rfl ?_
        | refine WS.near rfl (o_conv (by omega) (by omega)) rfl ?_
        | refine WS.near rfl (o_index _ rfl (by omega)) rfl ?_
        | refine WS.near rfl (o_index 0 rfl (by omega)) rfl ?_
        | refine WS.near rfl (o_iaddrB _ rfl (by omega)) rfl ?_
        | refine WS.near rfl (o_sliceS _ _ rfl rfl (by omega) (by omega)) rfl ?_
        | refine WS.near rfl (o_sliceF _ rfl (by omega)) rfl ?_
        | refine WS.near rfl (o_sliceT _ rfl (by omega)) rfl ?_)
    refine W.meet (fun x => [(0, .str s), (3, .bool b), (4, .int .i64 i), (5, .int .u8 (at' s i : Nat)), (6, .bool x)]) (fun _ => hp h []) (fun x => x = decide (isLetter (at' s i))) ?_ ?_
    · skip
      repeat' (first
          | refine W.region ?_
          | refine WS.nil ?_
          | refine W.skip ?_
          | refine W.block ?_
          | refine W.ret ?_
          | refine W.exit ?_
          | refine W.yes rfl rfl ?_
          | refine W.no rfl rfl ?_
          | refine W.fork rfl (fun _ => ?_) (fun _ => ?_)
          | refine WS.guardT rfl ?_
          | refine WS.guardF rfl rfl rfl ?_
          | refine WS.guardV rfl rfl ?_
          | refine WS.guardK rfl (fun _ => ?_) (fun _ => ?_)
          | refine WS.near rfl o_mov rfl ?_
          | refine WS.near rfl o_pickT rfl ?_
          | refine WS.near rfl o_pickF rfl ?_
          | refine WS.near rfl o_notT rfl ?_
          | refine WS.near rfl o_notF rfl ?_
          | refine WS.near rfl o_lss rfl ?_
          | refine WS.near rfl o_leq rfl ?_
          | refine WS.near rfl o_gtr rfl ?_
          | refine WS.near rfl o_geq rfl ?_
          | refine WS.near rfl o_eql rfl ?_
          | refine WS.near rfl o_neq rfl ?_
          | refine WS.near rfl o_seqlR rfl ?_
          | refine WS.near rfl o_ceq0 rfl ?_
          | refine WS.near rfl o_seql0 rfl ?_
          | refine WS.near rfl o_sneq0 rfl ?_
          | refine WS.near rfl o_seql rfl ?_
          | refine WS.near rfl o_sneq rfl ?_
          | refine WS.near rfl o_not rfl ?_
          | refine WS.near rfl o_lenS rfl ?_
          | refine WS.near rfl o_lenB rfl ?_
          | refine WS.near rfl o_lenF rfl ?_
          | refine WS.near rfl o_faddr rfl ?_
          | refine WS.near rfl o_s2b rfl ?_
          | refine WS.near rfl o_lenB rfl ?_
          | refine WS.near rfl o_loadF rfl ?_
          | refine WS.near rfl o_binB rfl ?_
          | refine WS.near rfl (o_build rfl) rfl ?_
          | refine WS.near rfl (o_loadH rfl) rfl ?_
          | refine WS.near rfl (o_loadHN rfl rfl) rfl ?_
          | refine WS.near rfl (o_storeH (by assumption) rfl rfl) rfl ?_
          | refine WS.near rfl (o_boxH 0 rfl) rfl ?_
          | refine WS.near rfl (o_boxH 1 rfl) rfl ?_
          | refine WS.near rfl (o_boxH 2 rfl) rfl ?_
          | refine WS.near rfl (o_boxH 3 rfl) rfl ?_
          | refine WS.near rfl (o_boxH 4 rfl) rfl ?_
          | refine WS.near rfl (o_boxH 5 rfl) rfl ?_
          | refine WS.near rfl (o_allocH 0 rfl) rfl ?_
          | refine WS.near rfl (o_allocH 1 rfl) rfl ?_
          | refine WS.near rfl (o_allocH 2 rfl) rfl ?_
          | refine WS.near rfl (o_allocH 3 rfl) rfl ?_
          | refine WS.near rfl (o_allocH 4 rfl) rfl ?_
          | refine WS.near rfl (o_allocH 5 rfl) rfl ?_
          | refine WS.near rfl (o_add (by omega) (by omega)) rfl ?_
          | refine WS.near rfl (o_sub (by omega) (by omega)) rfl ?_
          | refine WS.near rfl (o_sub8 (by omega) (by omega)) rfl ?_
          | refine WS.near rfl (o_conv (by omega) (by omega)) rfl ?_
          | refine WS.near rfl (o_index _ rfl (by omega)) rfl ?_
          | refine WS.near rfl (o_index 0 rfl (by omega)) rfl ?_
          | refine WS.near rfl (o_iaddrB _ rfl (by omega)) rfl ?_
          | refine WS.near rfl (o_sliceS _ _ rfl rfl (by omega) (by omega)) rfl ?_
          | refine WS.near rfl (o_sliceF _ rfl (by omega)) rfl ?_
          | refine WS.near rfl (o_sliceT _ rfl (by omega)) rfl ?_)
      all_goals
        refine ⟨rfl, _, ?_, ⟨rfl, rfl, rfl, rfl, rfl, trivial⟩, rfl⟩
        first
          | exact btrue (by unfold isLetter; omega)
          | exact bfalse (by unfold isLetter; omega)
          | exact bsame (by unfold isLetter; omega)
    rintro x1 hx1
    refine W.meet (fun x => [(0, .str s), (3, .bool b), (4, .int .i64 i), (6, .bool x1), (7, .bool x)]) (fun _ => hp h []) (fun x => x = decide (isDigit (at' s i) ∨ at' s i = 95)) ?_ ?_
    · skip
      repeat' (first
          | refine W.region ?_
          | refine WS.nil ?_
          | refine W.skip ?_
          | refine W.block ?_
          | refine W.ret ?_
          | refine W.exit ?_
          | refine W.yes rfl rfl ?_
          | refine W.no rfl rfl ?_
          | refine W.fork rfl (fun _ => ?_) (fun _ => ?_)
          | refine WS.guardT rfl ?_
          | refine WS.guardF rfl rfl rfl ?_
          | refine WS.guardV rfl rfl ?_
          | refine WS.guardK rfl (fun _ => ?_) (fun _ => ?_)
          | refine WS.near rfl o_mov rfl ?_
          | refine WS.near rfl o_pickT rfl ?_
          | refine WS.near rfl o_pickF rfl ?_
          | refine WS.near rfl o_notT rfl ?_
          | refine WS.near rfl o_notF rfl ?_
          | refine WS.near rfl o_lss rfl ?_
          | refine WS.near rfl o_leq rfl ?_
          | refine WS.near rfl o_gtr rfl ?_
          | refine WS.near rfl o_geq rfl ?_
          | refine WS.near rfl o_eql rfl ?_
          | refine WS.near rfl o_neq rfl ?_
          | refine WS.near rfl o_seqlR rfl ?_
          | refine WS.near rfl o_ceq0 rfl ?_
          | refine WS.near rfl o_seql0 rfl ?_
          | refine WS.near rfl o_sneq0 rfl ?_
          | refine WS.near rfl o_seql rfl ?_
          | refine WS.near rfl o_sneq rfl ?_
          | refine WS.near rfl o_not rfl ?_
          | refine WS.near rfl o_lenS rfl ?_
          | refine WS.near rfl o_lenB rfl ?_
          | refine WS.near rfl o_lenF rfl ?_
          | refine WS.near rfl o_faddr rfl ?_
          | refine WS.near rfl o_s2b rfl ?_
          | refine WS.near rfl o_lenB rfl ?_
          | refine WS.near rfl o_loadF rfl ?_
          | refine WS.near rfl o_binB rfl ?_
          | refine WS.near rfl (o_build rfl) rfl ?_
          | refine WS.near rfl (o_loadH rfl) rfl ?_
          | refine WS.near rfl (o_loadHN rfl rfl) rfl ?_
          | refine WS.near rfl (o_storeH (by assumption) rfl rfl) rfl ?_
          | refine WS.near rfl (o_boxH 0 rfl) rfl ?_
          | refine WS.near rfl (o_boxH 1 rfl) rfl ?_
          | refine WS.near rfl (o_boxH 2 rfl) rfl ?_
          | refine WS.near rfl (o_boxH 3 rfl) rfl ?_
          | refine WS.near rfl (o_boxH 4 rfl) rfl ?_
          | refine WS.near rfl (o_boxH 5 rfl) rfl ?_
          | refine WS.near rfl (o_allocH 0 rfl) rfl ?_
          | refine WS.near rfl (o_allocH 1 rfl) rfl ?_
          | refine WS.near rfl (o_allocH 2 rfl) rfl ?_
          | refine WS.near rfl (o_allocH 3 rfl) rfl ?_
          | refine WS.near rfl (o_allocH 4 rfl) rfl ?_
          | refine WS.near rfl (o_allocH 5 rfl) rfl ?_
          | refine WS.near rfl (o_add (by omega) (by omega)) rfl ?_
          | refine WS.near rfl (o_sub (by omega) (by omega)) rfl ?_
          | refine WS.near rfl (o_sub8 (by omega) (by omega)) rfl ?_
          | refine WS.near rfl (o_conv (by omega) (by omega)) rfl ?_
          | refine WS.near rfl (o_index _ rfl (by omega)) rfl ?_
          | refine WS.near rfl (o_index 0 rfl (by omega)) rfl ?_
          | refine WS.near rfl (o_iaddrB _ rfl (by omega)) rfl ?_
          | refine WS.near rfl (o_sliceS _ _ rfl rfl (by omega) (by omega)) rfl ?_
          | refine WS.near rfl (o_sliceF _ rfl (by omega)) rfl ?_
          | refine WS.near rfl (o_sliceT _ rfl (by omega)) rfl ?_)
      all_goals
        refine ⟨rfl, _, ?_, ⟨rfl, rfl, rfl, rfl, rfl, trivial⟩, rfl⟩
        first
          | exact btrue (by unfold isDigit; omega)
          | exact bfalse (by unfold isDigit; omega)
          | exact bsame (by unfold isDigit; omega)
    rintro x2 hx2
    have next : ∀ {c : Bool}, (c = true ↔ (b = true ∧ (x1 = true ∨ (x2 = true ∧ 0 < i)))) → c = decide (okTo s (i + 1)) := fun hc => by
      rw [Bool.eq_iff_iff, hc, decide_eq_true_iff, okTo_next, hb, hx1, hx2, decide_eq_true_iff, decide_eq_true_iff, decide_eq_true_iff]
    clear hx1 hx2 hb
    cases b <;> cases x1 <;> cases x2
    all_goals
      repeat' (first
          | refine W.region ?_
          | refine WS.nil ?_
          | refine W.skip ?_
          | refine W.block ?_
          | refine W.ret ?_
          | refine W.exit ?_
          | refine W.yes rfl rfl ?_
          | refine W.no rfl rfl ?_
          | refine W.fork rfl (fun _ => ?_) (fun _ => ?_)
          | refine WS.guardT rfl ?_
          | refine WS.guardF rfl rfl rfl ?_
          | refine WS.guardV rfl rfl ?_
          | refine WS.guardK rfl (fun _ => ?_) (fun _ => ?_)
          | refine WS.near rfl o_mov rfl ?_
          | refine WS.near rfl o_pickT rfl ?_
          | refine WS.near rfl o_pickF rfl ?_
          | refine WS.near rfl o_notT rfl ?_
          | refine WS.near rfl o_notF rfl ?_
          | refine WS.near rfl o_lss rfl ?_
          | refine WS.near rfl o_leq rfl ?_
          | refine WS.near rfl o_gtr rfl ?_
          | refine WS.near rfl o_geq rfl ?_
          | refine WS.near rfl o_eql rfl ?_
          | refine WS.near rfl o_neq rfl ?_
          | refine WS.near rfl o_seqlR rfl ?_
          | refine WS.near rfl o_ceq0 rfl ?_
          | refine WS.near rfl o_seql0 rfl ?_
          | refine WS.near rfl o_sneq0 rfl ?_
          | refine WS.near rfl o_seql rfl ?_
          | refine WS.near rfl o_sneq rfl ?_
          | refine WS.near rfl o_not rfl ?_
          | refine WS.near rfl o_lenS rfl ?_
          | refine WS.near rfl o_lenB rfl ?_
          | refine WS.near rfl o_lenF rfl ?_
          | refine WS.near rfl o_faddr rfl ?_
          | refine WS.near rfl o_s2b rfl ?_
          | refine WS.near rfl o_lenB rfl ?_
          | refine WS.near rfl o_loadF rfl ?_
          | refine WS.near rfl o_binB rfl ?_
          | refine WS.near rfl (o_build rfl) rfl ?_
          | refine WS.near rfl (o_loadH rfl) rfl ?_
          | refine WS.near rfl (o_loadHN rfl rfl) rfl ?_
          | refine WS.near rfl (o_storeH (by assumption) rfl rfl) rfl ?_
          | refine WS.near rfl (o_boxH 0 rfl) rfl ?_
          | refine WS.near rfl (o_boxH 1 rfl) rfl ?_
          | refine WS.near rfl (o_boxH 2 rfl) rfl ?_
          | refine WS.near rfl (o_boxH 3 rfl) rfl ?_
          | refine WS.near rfl (o_boxH 4 rfl) rfl ?_
          | refine WS.near rfl (o_boxH 5 rfl) rfl ?_
          | refine WS.near rfl (o_allocH 0 rfl) rfl ?_
          | refine WS.near rfl (o_allocH 1 rfl) rfl ?_
          | refine WS.near rfl (o_allocH 2 rfl) rfl ?_
          | refine WS.near rfl (o_allocH 3 rfl) rfl ?_
          | refine WS.near rfl (o_allocH 4 rfl) rfl ?_
          | refine WS.near rfl (o_allocH 5 rfl) rfl ?_
          | refine WS.near rfl (o_add (by omega) (by omega)) rfl ?_
          | refine WS.near rfl (o_sub (by omega) (by omega)) rfl ?_
          | refine WS.near rfl (o_sub8 (by omega) (by omega)) rfl ?_
          | refine WS.near rfl (o_conv (by omega) (by omega)) rfl ?_
          | refine WS.near rfl (o_index _ rfl (by omega)) rfl ?_
          | refine WS.near rfl (o_index 0 rfl (by omega)) rfl ?_
          | refine WS.near rfl (o_iaddrB _ rfl (by omega)) rfl ?_
          | refine WS.near rfl (o_sliceS _ _ rfl rfl (by omega) (by omega)) rfl ?_
          | refine WS.near rfl (o_sliceF _ rfl (by omega)) rfl ?_
          | refine WS.near rfl (o_sliceT _ rfl (by omega)) rfl ?_)
      refine ⟨(i + 1, decide (okTo s (i + 1))), ⟨by show i + 1 ≤ s.length; omega, rfl⟩, by show s.length - (i + 1) < s.length - i; omega, ⟨rfl, bval (next ?_), rfl, trivial⟩, rfl⟩
      simp
  rename_i hend
  have hin : i = s.length := by omega
  subst hin
  by_cases hn : named s
  · obtain rfl : b = true := by rw [hb]; exact yes_dec (okTo_all.2 hn)
    refine W.seq ?_
    repeat' (first
        | refine W.region ?_
        | refine WS.nil ?_
        | refine W.skip ?_
        | refine W.block ?_
        | refine W.ret ?_
        | refine W.exit ?_
        | refine W.yes rfl rfl ?_
        | refine W.no rfl rfl ?_
        | refine W.fork rfl (fun _ => ?_) (fun _ => ?_)
        | refine WS.guardT rfl ?_
        | refine WS.guardF rfl rfl rfl ?_
        | refine WS.guardV rfl rfl ?_
        | refine WS.guardK rfl (fun _ => ?_) (fun _ => ?_)
        | refine WS.near rfl o_mov rfl ?_
        | refine WS.near rfl o_pickT rfl ?_
        | refine WS.near rfl o_pickF rfl ?_
        | refine WS.near rfl o_notT rfl ?_
        | refine WS.near rfl o_notF rfl ?_
        | refine WS.near rfl o_lss rfl ?_
        | refine WS.near rfl o_leq rfl ?_
        | refine WS.near rfl o_gtr rfl ?_
        | refine WS.near rfl o_geq rfl ?_
        | refine WS.near rfl o_eql rfl ?_
        | refine WS.near rfl o_neq rfl ?_
        | refine WS.near rfl o_seqlR rfl ?_
        | refine WS.near rfl o_ceq0 rfl ?_
        | refine WS.near rfl o_seql0 rfl ?_
        | refine WS.near rfl o_sneq0 rfl ?_
        | refine WS.near rfl o_seql rfl ?_
        | refine WS.near rfl o_sneq rfl ?_
        | refine WS.near rfl o_not rfl ?_
        | refine WS.near rfl o_lenS rfl ?_
        | refine WS.near rfl o_lenB rfl ?_
        | refine WS.near rfl o_lenF rfl ?_
        | refine WS.near rfl o_faddr rfl ?_
        | refine WS.near rfl o_s2b rfl ?_
        | refine WS.near rfl o_lenB rfl ?_
        | refine WS.near rfl o_loadF rfl ?_
        | refine WS.near rfl o_binB rfl ?_
        | refine WS.near rfl (o_build rfl) rfl ?_
        | refine WS.near rfl (o_loadH rfl) rfl ?_
        | refine WS.near rfl (o_loadHN rfl rfl) rfl ?_
        | refine WS.near rfl (o_storeH (by assumption) rfl rfl) rfl ?_
        | refine WS.near rfl (o_boxH 0 rfl) rfl ?_
        | refine WS.near rfl (o_boxH 1 rfl) rfl ?_
        | refine WS.near rfl (o_boxH 2 rfl) rfl ?_
        | refine WS.near rfl (o_boxH 3 rfl) rfl ?_
        | refine WS.near rfl (o_boxH 4 rfl) rfl ?_
        | refine WS.near rfl (o_boxH 5 rfl) rfl ?_
        | refine WS.near rfl (o_allocH 0 rfl) rfl ?_
        | refine WS.near rfl (o_allocH 1 rfl) rfl ?_
        | refine WS.near rfl (o_allocH 2 rfl) rfl ?_
        | refine WS.near rfl (o_allocH 3 rfl) rfl ?_
        | refine WS.near rfl (o_allocH 4 rfl) rfl ?_
        | refine WS.near rfl (o_allocH 5 rfl) rfl ?_
        | refine WS.near rfl (o_add (by omega) (by omega)) rfl ?_
        | refine WS.near rfl (o_sub (by omega) (by omega)) rfl ?_
        | refine WS.near rfl (o_sub8 (by omega) (by omega)) rfl ?_
        | refine WS.near rfl (o_conv (by omega) (by omega)) rfl ?_
        | refine WS.near rfl (o_index _ rfl (by omega)) rfl ?_
        | refine WS.near rfl (o_index 0 rfl (by omega)) rfl ?_
        | refine WS.near rfl (o_iaddrB _ rfl (by omega)) rfl ?_
        | refine WS.near rfl (o_sliceS _ _ rfl rfl (by omega) (by omega)) rfl ?_
        | refine WS.near rfl (o_sliceF _ rfl (by omega)) rfl ?_
        | refine WS.near rfl (o_sliceT _ rfl (by omega)) rfl ?_)
    refine WS.puF hf rfl rfl (name_yes hn) ?_
    repeat' (first
        | refine W.region ?_
        | refine WS.nil ?_
        | refine W.skip ?_
        | refine W.block ?_
        | refine W.ret ?_
        | refine W.exit ?_
        | refine W.yes rfl rfl ?_
        | refine W.no rfl rfl ?_
        | refine W.fork rfl (fun _ => ?_) (fun _ => ?_)
        | refine WS.guardT rfl ?_
        | refine WS.guardF rfl rfl rfl ?_
        | refine WS.guardV rfl rfl ?_
        | refine WS.guardK rfl (fun _ => ?_) (fun _ => ?_)
        | refine WS.near rfl o_mov rfl ?_
        | refine WS.near rfl o_pickT rfl ?_
        | refine WS.near rfl o_pickF rfl ?_
        | refine WS.near rfl o_notT rfl ?_
        | refine WS.near rfl o_notF rfl ?_
        | refine WS.near rfl o_lss rfl ?_
        | refine WS.near rfl o_leq rfl ?_
        | refine WS.near rfl o_gtr rfl ?_
        | refine WS.near rfl o_geq rfl ?_
        | refine WS.near rfl o_eql rfl ?_
        | refine WS.near rfl o_neq rfl ?_
        | refine WS.near rfl o_seqlR rfl ?_
        | refine WS.near rfl o_ceq0 rfl ?_
        | refine WS.near rfl o_seql0 rfl ?_
        | refine WS.near rfl o_sneq0 rfl ?_
        | refine WS.near rfl o_seql rfl ?_
        | refine WS.near rfl o_sneq rfl ?_
        | refine WS.near rfl o_not rfl ?_
        | refine WS.near rfl o_lenS rfl ?_
        | refine WS.near rfl o_lenB rfl ?_
        | refine WS.near rfl o_lenF rfl ?_
        | refine WS.near rfl o_faddr rfl ?_
        | refine WS.near rfl o_s2b rfl ?_
        | refine WS.near rfl o_lenB rfl ?_
        | refine WS.near rfl o_loadF rfl ?_
        | refine WS.near rfl o_binB rfl ?_
        | refine WS.near rfl (o_build rfl) rfl ?_
        | refine WS.near rfl (o_loadH rfl) rfl ?_
        | refine WS.near rfl (o_loadHN rfl rfl) rfl ?_
        | refine WS.near rfl (o_storeH (by assumption) rfl rfl) rfl ?_
        | refine WS.near rfl (o_boxH 0 rfl) rfl ?_
        | refine WS.near rfl (o_boxH 1 rfl) rfl ?_
        | refine WS.near rfl (o_boxH 2 rfl) rfl ?_
        | refine WS.near rfl (o_boxH 3 rfl) rfl ?_
        | refine WS.near rfl (o_boxH 4 rfl) rfl ?_
        | refine WS.near rfl (o_boxH 5 rfl) rfl ?_
        | refine WS.near rfl (o_allocH 0 rfl) rfl ?_
        | refine WS.near rfl (o_allocH 1 rfl) rfl ?_
        | refine WS.near rfl (o_allocH 2 rfl) rfl ?_
        | refine WS.near rfl (o_allocH 3 rfl) rfl ?_
        | refine WS.near rfl (o_allocH 4 rfl) rfl ?_
        | refine WS.near rfl (o_allocH 5 rfl) rfl ?_
        | refine WS.near rfl (o_add (by omega) (by omega)) rfl ?_
        | refine WS.near rfl (o_sub (by omega) (by omega)) rfl ?_
        | refine WS.near rfl (o_sub8 (by omega) (by omega)) rfl ?_
        | refine WS.near rfl (o_conv (by omega) (by omega)) rfl ?_
        | refine WS.near rfl (o_index _ rfl (by omega)) rfl ?_
        | refine WS.near rfl (o_index 0 rfl (by omega)) rfl ?_
        | refine WS.near rfl (o_iaddrB _ rfl (by omega)) rfl ?_
        | refine WS.near rfl (o_sliceS _ _ rfl rfl (by omega) (by omega)) rfl ?_
        | refine WS.near rfl (o_sliceF _ rfl (by omega)) rfl ?_
        | refine WS.near rfl (o_sliceT _ rfl (by omega)) rfl ?_)
    refine WS.puF hf rfl rfl (right_pu s hn) ?_
    repeat' (first
        | refine W.region ?_
        | refine WS.nil ?_
        | refine W.skip ?_
        | refine W.block ?_
        | refine W.ret ?_
        | refine W.exit ?_
        | refine W.yes rfl rfl ?_
        | refine W.no rfl rfl ?_
        | refine W.fork rfl (fun _ => ?_) (fun _ => ?_)
        | refine WS.guardT rfl ?_
        | refine WS.guardF rfl rfl rfl ?_
        | refine WS.guardV rfl rfl ?_
        | refine WS.guardK rfl (fun _ => ?_) (fun _ => ?_)
        | refine WS.near rfl o_mov rfl ?_
        | refine WS.near rfl o_pickT rfl ?_
        | refine WS.near rfl o_pickF rfl ?_
        | refine WS.near rfl o_notT rfl ?_
        | refine WS.near rfl o_notF rfl ?_
        | refine WS.near rfl o_lss rfl ?_
        | refine WS.near rfl o_leq rfl ?_
        | refine WS.near rfl o_gtr rfl ?_
        | refine WS.near rfl o_geq rfl ?_
        | refine WS.near rfl o_eql rfl ?_
        | refine WS.near rfl o_neq rfl ?_
        | refine WS.near rfl o_seqlR rfl ?_
        | refine WS.near rfl o_ceq0 rfl ?_
        | refine WS.near rfl o_seql0 rfl ?_
        | refine WS.near rfl o_sneq0 rfl ?_
        | refine WS.near rfl o_seql rfl ?_
        | refine WS.near rfl o_sneq rfl ?_
        | refine WS.near rfl o_not rfl ?_
        | refine WS.near rfl o_lenS rfl ?_
        | refine WS.near rfl o_lenB rfl ?_
        | refine WS.near rfl o_lenF rfl ?_
        | refine WS.near rfl o_faddr rfl ?_
        | refine WS.near rfl o_s2b rfl ?_
        | refine WS.near rfl o_lenB rfl ?_
        | refine WS.near rfl o_loadF rfl ?_
        | refine WS.near rfl o_binB rfl ?_
        | refine WS.near rfl (o_build rfl) rfl ?_
        | refine WS.near rfl (o_loadH rfl) rfl ?_
        | refine WS.near rfl (o_loadHN rfl rfl) rfl ?_
        | refine WS.near rfl (o_storeH (by assumption) rfl rfl) rfl ?_
        | refine WS.near rfl (o_boxH 0 rfl) rfl ?_
        | refine WS.near rfl (o_boxH 1 rfl) rfl ?_
        | refine WS.near rfl (o_boxH 2 rfl) rfl ?_
        | refine WS.near rfl (o_boxH 3 rfl) rfl ?_
        | refine WS.near rfl (o_boxH 4 rfl) rfl ?_
        | refine WS.near rfl (o_boxH 5 rfl) rfl ?_
        | refine WS.near rfl (o_allocH 0 rfl) rfl ?_
        | refine WS.near rfl (o_allocH 1 rfl) rfl ?_
        | refine WS.near rfl (o_allocH 2 rfl) rfl ?_
        | refine WS.near rfl (o_allocH 3 rfl) rfl ?_
        | refine WS.near rfl (o_allocH 4 rfl) rfl ?_
        | refine WS.near rfl (o_allocH 5 rfl) rfl ?_
        | refine WS.near rfl (o_add (by omega) (by omega)) rfl ?_
        | refine WS.near rfl (o_sub (by omega) (by omega)) rfl ?_
        | refine WS.near rfl (o_sub8 (by omega) (by omega)) rfl ?_
        | refine WS.near rfl (o_conv (by omega) (by omega)) rfl ?_
        | refine WS.near rfl (o_index _ rfl (by omega)) rfl ?_
        | refine WS.near rfl (o_index 0 rfl (by omega)) rfl ?_
        | refine WS.near rfl (o_iaddrB _ rfl (by omega)) rfl ?_
        | refine WS.near rfl (o_sliceS _ _ rfl rfl (by omega) (by omega)) rfl ?_
        | refine WS.near rfl (o_sliceF _ rfl (by omega)) rfl ?_
        | refine WS.near rfl (o_sliceT _ rfl (by omega)) rfl ?_)
    exact ⟨_, rfl, fin_bool rfl⟩
  · obtain rfl : b = false := by rw [hb]; exact not_dec fun h => hn (okTo_all.1 h)
    refine W.seq ?_
    repeat' (first
        | refine W.region ?_
        | refine WS.nil ?_
        | refine W.skip ?_
        | refine W.block ?_
        | refine W.ret ?_
        | refine W.exit ?_
        | refine W.yes rfl rfl ?_
        | refine W.no rfl rfl ?_
        | refine W.fork rfl (fun _ => ?_) (fun _ => ?_)
        | refine WS.guardT rfl ?_
        | refine WS.guardF rfl rfl rfl ?_
        | refine WS.guardV rfl rfl ?_
        | refine WS.guardK rfl (fun _ => ?_) (fun _ => ?_)
        | refine WS.near rfl o_mov rfl ?_
        | refine WS.near rfl o_pickT rfl ?_
        | refine WS.near rfl o_pickF rfl ?_
        | refine WS.near rfl o_notT rfl ?_
        | refine WS.near rfl o_notF rfl ?_
        | refine WS.near rfl o_lss rfl ?_
        | refine WS.near rfl o_leq rfl ?_
        | refine WS.near rfl o_gtr rfl ?_
        | refine WS.near rfl o_geq rfl ?_
        | refine WS.near rfl o_eql rfl ?_
        | refine WS.near rfl o_neq rfl ?_
        | refine WS.near rfl o_seqlR rfl ?_
        | refine WS.near rfl o_ceq0 rfl ?_
        | refine WS.near rfl o_seql0 rfl ?_
        | refine WS.near rfl o_sneq0 rfl ?_
        | refine WS.near rfl o_seql rfl ?_
        | refine WS.near rfl o_sneq rfl ?_
        | refine WS.near rfl o_not rfl ?_
        | refine WS.near rfl o_lenS rfl ?_
        | refine WS.near rfl o_lenB rfl ?_
        | refine WS.near rfl o_lenF rfl ?_
        | refine WS.near rfl o_faddr rfl ?_
        | refine WS.near rfl o_s2b rfl ?_
        | refine WS.near rfl o_lenB rfl ?_
        | refine WS.near rfl o_loadF rfl ?_
        | refine WS.near rfl o_binB rfl ?_
        | refine WS.near rfl (o_build rfl) rfl ?_
        | refine WS.near rfl (o_loadH rfl) rfl ?_
        | refine WS.near rfl (o_loadHN rfl rfl) rfl ?_
        | refine WS.near rfl (o_storeH (by assumption) rfl rfl) rfl ?_
        | refine WS.near rfl (o_boxH 0 rfl) rfl ?_
        | refine WS.near rfl (o_boxH 1 rfl) rfl ?_
        | refine WS.near rfl (o_boxH 2 rfl) rfl ?_
        | refine WS.near rfl (o_boxH 3 rfl) rfl ?_
        | refine WS.near rfl (o_boxH 4 rfl) rfl ?_
        | refine WS.near rfl (o_boxH 5 rfl) rfl ?_
        | refine WS.near rfl (o_allocH 0 rfl) rfl ?_
        | refine WS.near rfl (o_allocH 1 rfl) rfl ?_
        | refine WS.near rfl (o_allocH 2 rfl) rfl ?_
        | refine WS.near rfl (o_allocH 3 rfl) rfl ?_
        | refine WS.near rfl (o_allocH 4 rfl) rfl ?_
        | refine WS.near rfl (o_allocH 5 rfl) rfl ?_
        | refine WS.near rfl (o_add (by omega) (by omega)) rfl ?_
        | refine WS.near rfl (o_sub (by omega) (by omega)) rfl ?_
        | refine WS.near rfl (o_sub8 (by omega) (by omega)) rfl ?_
        | refine WS.near rfl (o_conv (by omega) (by omega)) rfl ?_
        | refine WS.near rfl (o_index _ rfl (by omega)) rfl ?_
        | refine WS.near rfl (o_index 0 rfl (by omega)) rfl ?_
        | refine WS.near rfl (o_iaddrB _ rfl (by omega)) rfl ?_
        | refine WS.near rfl (o_sliceS _ _ rfl rfl (by omega) (by omega)) rfl ?_
        | refine WS.near rfl (o_sliceF _ rfl (by omega)) rfl ?_
        | refine WS.near rfl (o_sliceT _ rfl (by omega)) rfl ?_)
    refine WS.puF hf rfl rfl (name_no hn) ?_
    repeat' (first
        | refine W.region ?_
        | refine WS.nil ?_
        | refine W.skip ?_
        | refine W.block ?_
        | refine W.ret ?_
        | refine W.exit ?_
        | refine W.yes rfl rfl ?_
        | refine W.no rfl rfl ?_
        | refine W.fork rfl (fun _ => ?_) (fun _ => ?_)
        | refine WS.guardT rfl ?_
        | refine WS.guardF rfl rfl rfl ?_
        | refine WS.guardV rfl rfl ?_
        | refine WS.guardK rfl (fun _ => ?_) (fun _ => ?_)
        | refine WS.near rfl o_mov rfl ?_
        | refine WS.near rfl o_pickT rfl ?_
        | refine WS.near rfl o_pickF rfl ?_
        | refine WS.near rfl o_notT rfl ?_
        | refine WS.near rfl o_notF rfl ?_
        | refine WS.near rfl o_lss rfl ?_
        | refine WS.near rfl o_leq rfl ?_
        | refine WS.near rfl o_gtr rfl ?_
        | refine WS.near rfl o_geq rfl ?_
        | refine WS.near rfl o_eql rfl ?_
        | refine WS.near rfl o_neq rfl ?_
        | refine WS.near rfl o_seqlR rfl ?_
        | refine WS.near rfl o_ceq0 rfl ?_
        | refine WS.near rfl o_seql0 rfl ?_
        | refine WS.near rfl o_sneq0 rfl ?_
        | refine WS.near rfl o_seql rfl ?_
        | refine WS.near rfl o_sneq rfl ?_
        | refine WS.near rfl o_not rfl ?_
        | refine WS.near rfl o_lenS rfl ?_
        | refine WS.near rfl o_lenB rfl ?_
        | refine WS.near rfl o_lenF rfl ?_
        | refine WS.near rfl o_faddr rfl ?_
        | refine WS.near rfl o_s2b rfl ?_
        | refine WS.near rfl o_lenB rfl ?_
        | refine WS.near rfl o_loadF rfl ?_
        | refine WS.near rfl o_binB rfl ?_
        | refine WS.near rfl (o_build rfl) rfl ?_
        | refine WS.near rfl (o_loadH rfl) rfl ?_
        | refine WS.near rfl (o_loadHN rfl rfl) rfl ?_
        | refine WS.near rfl (o_storeH (by assumption) rfl rfl) rfl ?_
        | refine WS.near rfl (o_boxH 0 rfl) rfl ?_
        | refine WS.near rfl (o_boxH 1 rfl) rfl ?_
        | refine WS.near rfl (o_boxH 2 rfl) rfl ?_
        | refine WS.near rfl (o_boxH 3 rfl) rfl ?_
        | refine WS.near rfl (o_boxH 4 rfl) rfl ?_
        | refine WS.near rfl (o_boxH 5 rfl) rfl ?_
        | refine WS.near rfl (o_allocH 0 rfl) rfl ?_
        | refine WS.near rfl (o_allocH 1 rfl) rfl ?_
        | refine WS.near rfl (o_allocH 2 rfl) rfl ?_
        | refine WS.near rfl (o_allocH 3 rfl) rfl ?_
        | refine WS.near rfl (o_allocH 4 rfl) rfl ?_
        | refine WS.near rfl (o_allocH 5 rfl) rfl ?_
        | refine WS.near rfl (o_add (by omega) (by omega)) rfl ?_
        | refine WS.near rfl (o_sub (by omega) (by omega)) rfl ?_
        | refine WS.near rfl (o_sub8 (by omega) (by omega)) rfl ?_
        | refine WS.near rfl (o_conv (by omega) (by omega)) rfl ?_
        | refine WS.near rfl (o_index _ rfl (by omega)) rfl ?_
        | refine WS.near rfl (o_index 0 rfl (by omega)) rfl ?_
        | refine WS.near rfl (o_iaddrB _ rfl (by omega)) rfl ?_
        | refine WS.near rfl (o_sliceS _ _ rfl rfl (by omega) (by omega)) rfl ?_
        | refine WS.near rfl (o_sliceF _ rfl (by omega)) rfl ?_
        | refine WS.near rfl (o_sliceT _ rfl (by omega)) rfl ?_)
    exact ⟨_, rfl, fin_bool rfl⟩
end Go.Proofs.YthclejjieggdkaaDoor.ValueNames
