/- Expressions: whether one may be. -/
import Derived.Test.YtfbikhkmamdjmaaDoorWK2
namespace Go.Proofs.YtfbikhkmamdjmaaDoor.CodesK
open Go Go.Ab
set_option maxHeartbeats 1600000
set_option maxRecDepth 100000

theorem o_and1 (a : Int) : ∃ r : Int, (r = 0 ∨ r = 1) ∧ (a = 0 → r = 0) ∧ (a = 1 → r = 1) ∧ ∀ h0 : Heap, Does (.bin .and (.v (.int .i64 a)) (.v (.int .i64 1))) h0 (.int .i64 r) h0 := by
  have e0 : (BitVec.ofInt 64 1).toNat = 1 := by decide
  have h1 : (BitVec.ofInt 64 a &&& BitVec.ofInt 64 1).toNat ≤ 1 := by
    rw [BitVec.toNat_and, e0]
    exact Nat.and_le_right
  refine ⟨((BitVec.ofInt 64 a &&& BitVec.ofInt 64 1).toNat : Nat), by omega, fun h => ?_, fun h => ?_, fun h0 => ⟨?_⟩⟩
  · subst h; decide
  · subst h; decide
  rw [op1v]
  have h2 : IntKind.wrap .i64 ((BitVec.ofInt 64 a &&& BitVec.ofInt 64 1).toNat : Nat) = ((BitVec.ofInt 64 a &&& BitVec.ofInt 64 1).toNat : Nat) := wrap_i64 (by omega) (by omega)
  show (((evS (Op.intBits .and .i64 a 1)).bind ofLit).map fun v => (v, h0)) = _
  show (((evS (pure (Value.int .i64 (IntKind.wrap .i64 ((BitVec.ofInt 64 a &&& BitVec.ofInt 64 1).toNat : Nat))) : Sem Value)).bind ofLit).map fun v => (v, h0)) = _
  rw [h2]
  rfl
def arity (k : Int) : Int := kidsL.getD k.toNat 0
theorem arity_le (k : Int) : arity k ≤ 2 := by
  unfold arity
  by_cases h : k.toNat < 20
  · have : ∀ n, n < 20 → kidsL.getD n 0 ≤ 2 := by decide
    exact this _ h
  · have : kidsL.getD k.toNat 0 = 0 := by
      have h1 : kidsL.length ≤ k.toNat := by show 20 ≤ k.toNat; omega
      simp [List.getD, List.getElem?_eq_none h1]
    omega
theorem forms_len {h : Heap} : Does (.len 1 (.v formsV)) h (.int .i64 20) h := ⟨rfl⟩
theorem forms_at {h : Heap} {k : Int} (h0 : 0 ≤ k) (h1 : k < 20) : Does (.iaddr 2 (.v formsV) (.v (.int .i64 k))) h (.fptr [i64 (arity k), .str (formT.getD k.toNat [])]) h := by
  have : k.toNat < 20 := by omega
  refine o_iaddrF (n := k.toNat) (v := formV k.toNat) (by omega) ?_ rfl
  simp [formsL, this]
def named1 (k : Int) : Prop := k = 2 ∨ k = 3
structure okN (x : EX) : Prop where
  k0 : 0 ≤ x.k
  k1 : x.k < 20
  ar : (x.kids.length : Int) = arity x.k
  nm : x.k = 2 ∨ x.k = 3 → isName x.name
  no : x.k ≠ 2 → x.k ≠ 3 → x.name = []
  n0 : x.k = 0 → x.n ≠ -9223372036854775808
  n1 : x.k = 1 → x.n = 0 ∨ x.n = 1
  n2 : 1 < x.k → x.n = 0
open Classical in
noncomputable def rightF : Nat → EX → Bool
  | 0, _ => false
  | m + 1, x => decide (okN x) && x.kids.all (rightF m)
open Classical in
theorem rightF_succ (m : Nat) (x : EX) : rightF (m + 1) x = (decide (okN x) && x.kids.all (rightF m)) := rfl
open Classical in
theorem right_no {m : Nat} {x : EX} (h : ¬ okN x) : false = rightF (m + 1) x := by rw [rightF_succ, decide_eq_false h]; rfl
open Classical in
theorem right_yes {m : Nat} {x : EX} (h : okN x) : rightF (m + 1) x = x.kids.all (rightF m) := by rw [rightF_succ, decide_eq_true h]; rfl
theorem keep1 {c z cs : List V} {n : Nat} {junk : List (Option (List V))} : ∃ j, bput (badd (some c :: junk) z) ((some c :: junk).length) 0 n cs = some c :: j := by
  cases junk with
  | nil => exact ⟨_, rfl⟩
  | cons b r => exact ⟨_, rfl⟩
structure SL where
  i : Nat
  bs : List (Option (List V))
set_option maxHeartbeats 4000000 in
open Classical in
theorem shallow_pu : ∀ (m : Nat) (x : EX), m ≤ 40 → x.Ok → PuF D1 77 [x.v, i64 m] (.bool (rightF m x))
  | 0, x, _, hx => by
    refine PuF.tidy rfl rfl rfl rfl rfl fun h hf => ?_
    repeat' (first
        | refine WS.near rfl forms_len rfl ?_ | refine WS.near rfl (forms_at (by omega) (by omega)) rfl ?_ | refine WS.near rfl (o_lenZ hx.fz) rfl ?_ | refine WS.puF hf rfl rfl forms_pu ?_ | refine W.seq ?_ | refine W.region ?_ | refine WS.nil ?_ | refine W.skip ?_ | refine W.block ?_ | refine W.ret ?_ | refine W.exit ?_ | refine W.yes rfl rfl ?_ | refine W.no rfl rfl ?_ | refine W.fork rfl (fun _ => ?_) (fun _ => ?_) | refine WS.guardT rfl ?_ | refine WS.guardF rfl rfl rfl ?_ | refine WS.guardK rfl (fun _ => ?_) (fun _ => ?_) | refine WS.near rfl o_mov rfl ?_ | refine WS.near rfl o_pickT rfl ?_ | refine WS.near rfl o_pickF rfl ?_ | refine WS.near rfl o_notT rfl ?_ | refine WS.near rfl o_notF rfl ?_ | refine WS.near rfl o_lss rfl ?_ | refine WS.near rfl o_geq rfl ?_ | refine WS.near rfl o_eql rfl ?_ | refine WS.near rfl o_neq rfl ?_ | refine WS.near rfl o_sneq rfl ?_
        | refine WS.near rfl o_not rfl ?_ | refine WS.near rfl o_faddr rfl ?_ | refine WS.near rfl o_loadF rfl ?_ | refine WS.near rfl (o_build rfl) rfl ?_ | refine WS.near rfl (o_loadH rfl) rfl ?_ | refine WS.near rfl (o_loadHN rfl rfl) rfl ?_ | refine WS.near rfl (o_storeH (by assumption) rfl rfl) rfl ?_ | refine WS.near rfl (o_boxH 0 rfl) rfl ?_ | refine WS.near rfl (o_allocH 1 rfl) rfl ?_ | refine WS.near rfl (o_add (by omega) (by omega)) rfl ?_ | refine WS.near rfl (o_sub (by omega) (by omega)) rfl ?_ | refine WS.near rfl (o_faddrF (Nat.le_of_ble_eq_true rfl)) rfl ?_ | fail)
    all_goals first | exact ⟨_, rfl, fin_bool rfl⟩ | (exfalso; omega)
  | m + 1, x, hm, hx => by
    have hkm : (x.kids.map EX.v).length = x.kids.length := List.length_map ..
    obtain ⟨r, hr, hr0, hr1, hd⟩ := o_and1 x.n
    have hin := hx.kn.2
    unfold In64 at hin
    refine PuF.tidy rfl rfl rfl rfl rfl fun h hf => ?_
    repeat' (first
        | refine WS.near rfl forms_len rfl ?_ | refine WS.near rfl (forms_at (by omega) (by omega)) rfl ?_ | refine WS.near rfl (o_lenZ hx.fz) rfl ?_ | refine WS.puF hf rfl rfl forms_pu ?_ | refine WS.near rfl (hd _) rfl ?_ | refine WS.near rfl o_max rfl ?_ | refine WS.puF hf rfl rfl (lexName_pu _) ?_ | refine W.seq ?_ | refine W.region ?_ | refine WS.nil ?_ | refine W.skip ?_ | refine W.block ?_ | refine W.ret ?_ | refine W.exit ?_ | refine W.yes rfl rfl ?_ | refine W.no rfl rfl ?_ | refine W.fork rfl (fun _ => ?_) (fun _ => ?_) | refine WS.guardT rfl ?_ | refine WS.guardF rfl rfl rfl ?_ | refine WS.guardK rfl (fun _ => ?_) (fun _ => ?_) | refine WS.near rfl o_mov rfl ?_ | refine WS.near rfl o_pickT rfl ?_ | refine WS.near rfl o_pickF rfl ?_ | refine WS.near rfl o_notT rfl ?_ | refine WS.near rfl o_notF rfl ?_ | refine WS.near rfl o_lss rfl ?_ | refine WS.near rfl o_geq rfl ?_
        | refine WS.near rfl o_eql rfl ?_ | refine WS.near rfl o_neq rfl ?_ | refine WS.near rfl o_sneq rfl ?_ | refine WS.near rfl o_not rfl ?_ | refine WS.near rfl o_faddr rfl ?_ | refine WS.near rfl o_loadF rfl ?_ | refine WS.near rfl (o_build rfl) rfl ?_ | refine WS.near rfl (o_loadH rfl) rfl ?_ | refine WS.near rfl (o_loadHN rfl rfl) rfl ?_ | refine WS.near rfl (o_storeH (by assumption) rfl rfl) rfl ?_ | refine WS.near rfl (o_boxH 0 rfl) rfl ?_ | refine WS.near rfl (o_allocH 1 rfl) rfl ?_ | refine WS.near rfl (o_add (by omega) (by omega)) rfl ?_ | refine WS.near rfl (o_sub (by omega) (by omega)) rfl ?_ | refine WS.near rfl (o_faddrF (Nat.le_of_ble_eq_true rfl)) rfl ?_ | fail)
    all_goals
      first
      | (refine ⟨_, rfl, fin_bool (right_no fun ho => ?_)⟩
         obtain ⟨a1, a2, a3, a4, a5, a6, a7, a8⟩ := ho
         first
           | omega
           | (have a9 := a4 (by omega); contradiction)
           | (have a9 := a5 (by omega) (by omega); have a10 := a9.symm; contradiction)
           | contradiction
           | fail)
      | (have hok : okN x := by
          refine ⟨by omega, by omega, by omega, fun h1 => ?_, fun h1 h2 => ?_, fun h1 => by omega, fun h1 => by omega, fun h1 => by omega⟩
          · first | (exfalso; omega) | exact Classical.not_not.1 (by assumption) | fail
          · first | (exfalso; omega) | exact (Classical.not_not.1 (by assumption) : [] = x.name).symm | fail
         have e2 := right_yes (m := m) hok
         have har := hok.ar
         have har2 := arity_le x.k
         have hsm : x.kids.length ≤ 2 := by omega
         clear har har2
         refine W.loop (fun a : SL => [(1, i64 ((m + 1 : Nat) : Int)), (2, .mptr (h.next + 0) 0), (60, x.u), (61, i64 x.kids.length), (62, i64 a.i)]) (fun a => hp h (some x.cells :: a.bs))
           (fun a => a.i ≤ x.kids.length ∧ rightF (m + 1) x = (x.kids.drop a.i).all (rightF m)) (fun a => x.kids.length - a.i)
           ⟨0, _⟩ ⟨Nat.zero_le _, by rw [List.drop_zero]; exact e2⟩ (by exact ⟨rfl, rfl, rfl, congrArg (fun z : Nat => some (i64 (z : Int))) hkm, rfl, trivial⟩) rfl ?_
         clear hd hr hr0 hr1 e2
         rintro ⟨i, bs⟩ ⟨hi, hs⟩
         simp only at hi hs ⊢
         repeat' (first
             | refine W.seq ?_ | refine W.region ?_ | refine WS.nil ?_ | refine W.skip ?_ | refine W.block ?_ | refine W.ret ?_ | refine W.exit ?_ | refine W.yes rfl rfl ?_ | refine W.no rfl rfl ?_ | refine W.fork rfl (fun _ => ?_) (fun _ => ?_) | refine WS.guardT rfl ?_ | refine WS.guardF rfl rfl rfl ?_ | refine WS.guardK rfl (fun _ => ?_) (fun _ => ?_) | refine WS.near rfl o_mov rfl ?_ | refine WS.near rfl o_pickT rfl ?_ | refine WS.near rfl o_pickF rfl ?_ | refine WS.near rfl o_notT rfl ?_ | refine WS.near rfl o_notF rfl ?_ | refine WS.near rfl o_lss rfl ?_ | refine WS.near rfl o_geq rfl ?_ | refine WS.near rfl o_eql rfl ?_ | refine WS.near rfl o_neq rfl ?_ | refine WS.near rfl o_sneq rfl ?_ | refine WS.near rfl o_not rfl ?_ | refine WS.near rfl o_faddr rfl ?_ | refine WS.near rfl o_loadF rfl ?_ | refine WS.near rfl (o_build rfl) rfl ?_ | refine WS.near rfl (o_loadH rfl) rfl ?_
             | refine WS.near rfl (o_loadHN rfl rfl) rfl ?_ | refine WS.near rfl (o_storeH (by assumption) rfl rfl) rfl ?_ | refine WS.near rfl (o_boxH 0 rfl) rfl ?_ | refine WS.near rfl (o_allocH 1 rfl) rfl ?_ | refine WS.near rfl (o_add (by omega) (by omega)) rfl ?_ | refine WS.near rfl (o_sub (by omega) (by omega)) rfl ?_ | refine WS.near rfl (o_faddrF (Nat.le_of_ble_eq_true rfl)) rfl ?_ | fail)
         · have hlt : i < x.kids.length := by omega
           rw [all_drop hlt] at hs
           have hy := hx.kid hlt
           refine WS.near rfl (o_iaddrZ i hx.fz rfl (fz_at (d := default) i hlt) rfl) rfl ?_
           generalize x.kids.getD i default = y at hs hy ⊢
           have ih := shallow_pu m y (by omega) hy
           have e1 : (i : Int) + 1 = ((i + 1 : Nat) : Int) := by omega
           have ed : ((m + 1 : Nat) : Int) - 1 = (m : Nat) := by omega
           rw [← ed] at ih
           cases hb : rightF m y with
           | true =>
             rw [hb] at ih hs
             rw [Bool.true_and] at hs
             repeat' (first
                 | refine WS.near rfl (o_loadA rfl) rfl ?_ | refine WS.near rfl o_allocS rfl ?_ | refine WS.near rfl (o_storeH hf bget_badd rfl) rfl ?_ | refine WS.near rfl (o_loadHN (bget_bput bget_badd) rfl) rfl ?_ | refine WS.puF hf rfl rfl ih ?_ | refine W.seq ?_ | refine W.region ?_ | refine WS.nil ?_ | refine W.skip ?_ | refine W.block ?_ | refine W.ret ?_ | refine W.exit ?_ | refine W.yes rfl rfl ?_ | refine W.no rfl rfl ?_ | refine W.fork rfl (fun _ => ?_) (fun _ => ?_) | refine WS.guardT rfl ?_ | refine WS.guardF rfl rfl rfl ?_ | refine WS.guardK rfl (fun _ => ?_) (fun _ => ?_) | refine WS.near rfl o_mov rfl ?_ | refine WS.near rfl o_pickT rfl ?_ | refine WS.near rfl o_pickF rfl ?_ | refine WS.near rfl o_notT rfl ?_ | refine WS.near rfl o_notF rfl ?_ | refine WS.near rfl o_lss rfl ?_ | refine WS.near rfl o_geq rfl ?_ | refine WS.near rfl o_eql rfl ?_ | refine WS.near rfl o_neq rfl ?_
                 | refine WS.near rfl o_sneq rfl ?_ | refine WS.near rfl o_not rfl ?_ | refine WS.near rfl o_faddr rfl ?_ | refine WS.near rfl o_loadF rfl ?_ | refine WS.near rfl (o_build rfl) rfl ?_ | refine WS.near rfl (o_loadH rfl) rfl ?_ | refine WS.near rfl (o_loadHN rfl rfl) rfl ?_ | refine WS.near rfl (o_storeH (by assumption) rfl rfl) rfl ?_ | refine WS.near rfl (o_boxH 0 rfl) rfl ?_ | refine WS.near rfl (o_allocH 1 rfl) rfl ?_ | refine WS.near rfl (o_add (by omega) (by omega)) rfl ?_ | refine WS.near rfl (o_sub (by omega) (by omega)) rfl ?_ | refine WS.near rfl (o_faddrF (Nat.le_of_ble_eq_true rfl)) rfl ?_ | fail)
             exact ⟨⟨i + 1, _⟩, ⟨by show i + 1 ≤ x.kids.length; omega, hs⟩, by show x.kids.length - (i + 1) < x.kids.length - i; omega, ⟨rfl, rfl, rfl, rfl, congrArg (fun z => some (V.int .i64 z)) e1, trivial⟩, rfl⟩
           | false =>
             rw [hb] at ih hs
             repeat' (first
                 | refine WS.near rfl (o_loadA rfl) rfl ?_ | refine WS.near rfl o_allocS rfl ?_ | refine WS.near rfl (o_storeH hf bget_badd rfl) rfl ?_ | refine WS.near rfl (o_loadHN (bget_bput bget_badd) rfl) rfl ?_ | refine WS.puF hf rfl rfl ih ?_ | refine W.seq ?_ | refine W.region ?_ | refine WS.nil ?_ | refine W.skip ?_ | refine W.block ?_ | refine W.ret ?_ | refine W.exit ?_ | refine W.yes rfl rfl ?_ | refine W.no rfl rfl ?_ | refine W.fork rfl (fun _ => ?_) (fun _ => ?_) | refine WS.guardT rfl ?_ | refine WS.guardF rfl rfl rfl ?_ | refine WS.guardK rfl (fun _ => ?_) (fun _ => ?_) | refine WS.near rfl o_mov rfl ?_ | refine WS.near rfl o_pickT rfl ?_ | refine WS.near rfl o_pickF rfl ?_ | refine WS.near rfl o_notT rfl ?_ | refine WS.near rfl o_notF rfl ?_ | refine WS.near rfl o_lss rfl ?_ | refine WS.near rfl o_geq rfl ?_ | refine WS.near rfl o_eql rfl ?_ | refine WS.near rfl o_neq rfl ?_
                 | refine WS.near rfl o_sneq rfl ?_ | refine WS.near rfl o_not rfl ?_ | refine WS.near rfl o_faddr rfl ?_ | refine WS.near rfl o_loadF rfl ?_ | refine WS.near rfl (o_build rfl) rfl ?_ | refine WS.near rfl (o_loadH rfl) rfl ?_ | refine WS.near rfl (o_loadHN rfl rfl) rfl ?_ | refine WS.near rfl (o_storeH (by assumption) rfl rfl) rfl ?_ | refine WS.near rfl (o_boxH 0 rfl) rfl ?_ | refine WS.near rfl (o_allocH 1 rfl) rfl ?_ | refine WS.near rfl (o_add (by omega) (by omega)) rfl ?_ | refine WS.near rfl (o_sub (by omega) (by omega)) rfl ?_ | refine WS.near rfl (o_faddrF (Nat.le_of_ble_eq_true rfl)) rfl ?_ | fail)
             exact ⟨_, rfl, fin_bool (by rw [hs]; rfl)⟩
         · have hge : x.kids.drop i = [] := List.drop_eq_nil_of_le (by omega)
           rw [hge] at hs
           exact ⟨_, rfl, fin_bool hs.symm⟩)
theorem right_pu (x : EX) (hx : x.Ok) : PuF D1 37 [x.v] (.bool (rightF 40 x)) := by
  refine PuF.tidy rfl rfl rfl rfl rfl fun h hf => ?_
  repeat' (first
      | refine WS.near rfl (o_loadHN rfl rfl) rfl ?_ | refine WS.puF hf rfl rfl (shallow_pu 40 x (by omega) hx) ?_ | refine W.seq ?_ | refine W.region ?_ | refine WS.nil ?_ | refine W.skip ?_ | refine W.block ?_ | refine W.ret ?_ | refine W.exit ?_ | refine W.yes rfl rfl ?_ | refine W.no rfl rfl ?_ | refine W.fork rfl (fun _ => ?_) (fun _ => ?_) | refine WS.guardT rfl ?_ | refine WS.guardF rfl rfl rfl ?_ | refine WS.guardK rfl (fun _ => ?_) (fun _ => ?_) | refine WS.near rfl o_mov rfl ?_ | refine WS.near rfl o_pickT rfl ?_ | refine WS.near rfl o_pickF rfl ?_ | refine WS.near rfl o_notT rfl ?_ | refine WS.near rfl o_notF rfl ?_ | refine WS.near rfl o_lss rfl ?_ | refine WS.near rfl o_geq rfl ?_ | refine WS.near rfl o_eql rfl ?_ | refine WS.near rfl o_neq rfl ?_ | refine WS.near rfl o_sneq rfl ?_ | refine WS.near rfl o_not rfl ?_ | refine WS.near rfl o_faddr rfl ?_
      | refine WS.near rfl o_loadF rfl ?_ | refine WS.near rfl (o_build rfl) rfl ?_ | refine WS.near rfl (o_loadH rfl) rfl ?_ | refine WS.near rfl (o_loadHN rfl rfl) rfl ?_ | refine WS.near rfl (o_storeH (by assumption) rfl rfl) rfl ?_ | refine WS.near rfl (o_boxH 0 rfl) rfl ?_ | refine WS.near rfl (o_allocH 1 rfl) rfl ?_ | refine WS.near rfl (o_add (by omega) (by omega)) rfl ?_ | refine WS.near rfl (o_sub (by omega) (by omega)) rfl ?_ | refine WS.near rfl (o_faddrF (Nat.le_of_ble_eq_true rfl)) rfl ?_ | fail)
  exact ⟨_, rfl, fin_bool rfl⟩
end Go.Proofs.YtfbikhkmamdjmaaDoor.CodesK
