/- Plans: how far an act can turn a var. -/
import Derived.Test.YtpaadclighadaaaDoorWG5
namespace Go.Proofs.YtpaadclighadaaaDoor.CodesG
open Go Go.Ab Go.Goap
set_option maxHeartbeats 800000
set_option maxRecDepth 100000

theorem fin_ib {h1 : Heap} {bs : List (Option (List V))} {k : IntKind} {a a' : Int} {b b' : Bool} (ha : a = a') (hb : b = b') : fin h1 (.tup [.int k a', .bool b']) (.tup [.int k a, .bool b]) (hp h1 bs) := by subst ha; subst hb; exact ⟨bs, rfl, rfl⟩
theorem fold_drop {α β : Type} {f : β → α → β} {l : List α} {p : β} {i : Nat} {d : α} (hi : i < l.length) : (l.drop i).foldl f p = (l.drop (i + 1)).foldl f (f p (l.getD i d)) := by
  rw [List.drop_eq_getElem_cons hi]
  simp only [List.foldl_cons, List.getD, List.getElem?_eq_getElem hi, Option.getD_some]
theorem getD_mem {α : Type} {l : List α} {i : Nat} {d : α} (hi : i < l.length) : l.getD i d ∈ l := by
  simp only [List.getD, List.getElem?_eq_getElem hi, Option.getD_some]
  exact List.getElem_mem hi
instance : Inhabited Mk := ⟨⟨[], false, 0⟩⟩
def MksIn (r : AR) : Prop := (∀ m ∈ r.a.make, In64 m.n) ∧ r.a.make.length < 2 ^ 40
def VarIn (v : Var) : Prop := In64 v.low ∧ In64 v.high
def arC (r : AR) : List V := [.str r.a.name, i64 r.a.cost, r.nds, r.mks]
def varC (v : Var) : List V := [.str v.name, i64 v.low, i64 v.high]
def mkC (m : Mk) : List V := [.str m.name, .bool m.add, i64 m.n]
theorem by_in {v : Var} {m : Mk} : In64 (byF v m) := by
  unfold byF
  split
  · exact sat_in _
  · have := sat_in (v.high - v.low); unfold In64 at *; omega

theorem in0 : In64 0 := by unfold In64; omega
structure TS where
  i : Nat
  s : Int
  ok : Bool
  junk : List (Option (List V))
theorem keepA {b0 b1 : Option (List V)} {junk : List (Option (List V))} {z cs : List V} {n : Nat} : ∃ j, bput (badd (b0 :: b1 :: junk) z) (b0 :: b1 :: junk).length 0 n cs = b0 :: b1 :: j := ⟨_, rfl⟩
theorem turns_pu (r : AR) (v : Var) (hm : MksIn r) (hv : VarIn v) : PuF D1 65 [r.v, varV v] (.tup [i64 (turnsF r.a.make v).1, .bool (turnsF r.a.make v).2]) := by
  obtain ⟨hm, hml⟩ := hm
  have hmm : (r.a.make.map mkV).length = r.a.make.length := List.length_map ..
  refine PuF.tidy rfl rfl rfl rfl rfl fun h hf => ?_
  repeat' (first
      | refine WS.near rfl (o_lenZ r.hmk) rfl ?_ | refine W.seq ?_ | refine W.region ?_ | refine WS.nil ?_ | refine W.skip ?_ | refine W.block ?_ | refine W.ret ?_ | refine W.exit ?_ | refine W.yes rfl rfl ?_ | refine W.no rfl rfl ?_ | refine W.fork rfl (fun _ => ?_) (fun _ => ?_) | refine WS.near rfl o_mov rfl ?_ | refine WS.near rfl o_notT rfl ?_ | refine WS.near rfl o_notF rfl ?_ | refine WS.near rfl o_lss rfl ?_ | refine WS.near rfl o_seql rfl ?_ | refine WS.near rfl o_sneq rfl ?_ | refine WS.near rfl o_faddr rfl ?_ | refine WS.near rfl o_loadF rfl ?_ | refine WS.near rfl (o_loadH rfl) rfl ?_ | refine WS.near rfl (o_boxH 0 rfl) rfl ?_ | refine WS.near rfl (o_boxH 1 rfl) rfl ?_ | refine WS.near rfl (o_add (by omega) (by omega)) rfl ?_ | refine WS.near rfl (o_faddrF (Nat.le_of_ble_eq_true rfl)) rfl ?_)
  refine W.loop (fun a : TS => [(2, .mptr (h.next + 0) 0), (3, .mptr (h.next + 1) 0), (6, i64 a.s), (7, .bool a.ok), (10, r.mks), (11, .int .i64 ((r.a.make.map mkV).length : Nat)), (12, .int .i64 (a.i : Nat))]) (fun a => hp h (some (arC r) :: some (varC v) :: a.junk))
    (fun a => a.i ≤ r.a.make.length ∧ In64 a.s ∧ (r.a.make.drop a.i).foldl (moveS v) (a.s, a.ok) = turnsF r.a.make v) (fun a => r.a.make.length - a.i)
    ⟨0, 0, false, []⟩ ⟨Nat.zero_le _, in0, by rw [List.drop_zero]; rfl⟩ ⟨rfl, rfl, rfl, rfl, rfl, rfl, rfl, trivial⟩ rfl ?_
  rintro ⟨i, s, ok, junk⟩ ⟨hi, hs, hr⟩
  simp only at hi hs hr ⊢
  repeat' (first
      | refine W.seq ?_ | refine W.region ?_ | refine WS.nil ?_ | refine W.skip ?_ | refine W.block ?_ | refine W.ret ?_ | refine W.exit ?_ | refine W.yes rfl rfl ?_ | refine W.no rfl rfl ?_ | refine W.fork rfl (fun _ => ?_) (fun _ => ?_) | refine WS.near rfl o_mov rfl ?_ | refine WS.near rfl o_notT rfl ?_ | refine WS.near rfl o_notF rfl ?_ | refine WS.near rfl o_lss rfl ?_ | refine WS.near rfl o_seql rfl ?_ | refine WS.near rfl o_sneq rfl ?_ | refine WS.near rfl o_faddr rfl ?_ | refine WS.near rfl o_loadF rfl ?_ | refine WS.near rfl (o_loadH rfl) rfl ?_ | refine WS.near rfl (o_boxH 0 rfl) rfl ?_ | refine WS.near rfl (o_boxH 1 rfl) rfl ?_ | refine WS.near rfl (o_add (by omega) (by omega)) rfl ?_ | refine WS.near rfl (o_faddrF (Nat.le_of_ble_eq_true rfl)) rfl ?_)
  · have hlt : i < r.a.make.length := by omega
    rw [fold_drop (d := default) hlt] at hr
    have hmi := hm _ (getD_mem (d := default) hlt)
    refine WS.near rfl (o_iaddrZ i r.hmk rfl (fz_at (d := default) i hlt) rfl) rfl ?_
    generalize r.a.make.getD i default = m at hr hmi ⊢
    repeat' (first
        | refine WS.near rfl (o_loadA rfl) rfl ?_ | refine W.seq ?_ | refine W.region ?_ | refine WS.nil ?_ | refine W.skip ?_ | refine W.block ?_ | refine W.ret ?_ | refine W.exit ?_ | refine W.yes rfl rfl ?_ | refine W.no rfl rfl ?_ | refine W.fork rfl (fun _ => ?_) (fun _ => ?_) | refine WS.near rfl o_mov rfl ?_ | refine WS.near rfl o_notT rfl ?_ | refine WS.near rfl o_notF rfl ?_ | refine WS.near rfl o_lss rfl ?_ | refine WS.near rfl o_seql rfl ?_ | refine WS.near rfl o_sneq rfl ?_ | refine WS.near rfl o_faddr rfl ?_ | refine WS.near rfl o_loadF rfl ?_ | refine WS.near rfl (o_loadH rfl) rfl ?_ | refine WS.near rfl (o_boxH 0 rfl) rfl ?_ | refine WS.near rfl (o_boxH 1 rfl) rfl ?_ | refine WS.near rfl (o_add (by omega) (by omega)) rfl ?_ | refine WS.near rfl (o_faddrF (Nat.le_of_ble_eq_true rfl)) rfl ?_)
    refine WS.near rfl o_allocS rfl ?_
    refine WS.near rfl (o_storeH hf (bget_badd (bs := some (arC r) :: some (varC v) :: junk)) rfl) rfl ?_
    obtain ⟨j2, hj2⟩ := keepA (b0 := some (arC r)) (b1 := some (varC v)) (junk := junk) (z := [.str [], .bool false, .int .i64 0]) (cs := mkC m) (n := 3)
    have g1 := bget_bput (off := 0) (n := 3) (cs := mkC m) (bget_badd (bs := some (arC r) :: some (varC v) :: junk) (c := [.str [], .bool false, .int .i64 0]))
    rw [hj2] at g1
    change WS D1 (capOfD c65.dep) [] _ (hp h (bput (badd (some (arC r) :: some (varC v) :: junk) [.str [], .bool false, .int .i64 0]) (some (arC r) :: some (varC v) :: junk).length 0 3 (mkC m))) _
    rw [hj2]
    clear hj2
    generalize (some (arC r) :: some (varC v) :: junk).length = K at g1 ⊢
    have e1 : (i : Int) + 1 = ((i + 1 : Nat) : Int) := by omega
    repeat' (first
        | refine WS.near rfl (o_loadH (hload_of g1 rfl)) rfl ?_ | refine W.seq ?_ | refine W.region ?_ | refine WS.nil ?_ | refine W.skip ?_ | refine W.block ?_ | refine W.ret ?_ | refine W.exit ?_ | refine W.yes rfl rfl ?_ | refine W.no rfl rfl ?_ | refine W.fork rfl (fun _ => ?_) (fun _ => ?_) | refine WS.near rfl o_mov rfl ?_ | refine WS.near rfl o_notT rfl ?_ | refine WS.near rfl o_notF rfl ?_ | refine WS.near rfl o_lss rfl ?_ | refine WS.near rfl o_seql rfl ?_ | refine WS.near rfl o_sneq rfl ?_ | refine WS.near rfl o_faddr rfl ?_ | refine WS.near rfl o_loadF rfl ?_ | refine WS.near rfl (o_loadH rfl) rfl ?_ | refine WS.near rfl (o_boxH 0 rfl) rfl ?_ | refine WS.near rfl (o_boxH 1 rfl) rfl ?_ | refine WS.near rfl (o_add (by omega) (by omega)) rfl ?_ | refine WS.near rfl (o_faddrF (Nat.le_of_ble_eq_true rfl)) rfl ?_)
    · rename_i hne
      have hst : moveS v (s, ok) m = (s, ok) := by unfold moveS; rw [if_neg hne]
      rw [hst] at hr
      exact ⟨⟨i + 1, s, ok, j2⟩, ⟨by show i + 1 ≤ r.a.make.length; omega, hs, hr⟩, by show r.a.make.length - (i + 1) < r.a.make.length - i; omega, ⟨rfl, rfl, rfl, rfl, rfl, rfl, congrArg (fun z => some (V.int .i64 z)) e1, trivial⟩, rfl⟩
    · rename_i hne
      have hnm : m.name = v.name := Classical.not_not.1 hne
      have hst : moveS v (s, ok) m = (sat (s + byF v m), true) := by unfold moveS; rw [if_pos hnm]
      rw [hst] at hr
      have hfin : ∀ t : Int, t = sat (s + byF v m) → ∃ b : TS, (b.i ≤ r.a.make.length ∧ In64 b.s ∧ (r.a.make.drop b.i).foldl (moveS v) (b.s, b.ok) = turnsF r.a.make v) ∧ r.a.make.length - b.i < r.a.make.length - i ∧ b.i = i + 1 ∧ b.s = t ∧ b.ok = true ∧ b.junk = j2 := fun t ht =>
        ⟨⟨i + 1, t, true, j2⟩, ⟨by show i + 1 ≤ r.a.make.length; omega, by show In64 t; rw [ht]; exact sat_in _, by show (r.a.make.drop (i + 1)).foldl (moveS v) (t, true) = _; rw [ht]; exact hr⟩, by show r.a.make.length - (i + 1) < r.a.make.length - i; omega, rfl, rfl, rfl, rfl⟩
      cases hadd : m.add with
      | true =>
        have g2 : bget (some (arC r) :: some (varC v) :: j2) K = some [.str m.name, .bool true, i64 m.n] := by rw [g1, ← hadd]; rfl
        clear g1
        repeat' (first
            | refine WS.near rfl (o_loadH (hload_of g2 rfl)) rfl ?_ | refine W.seq ?_ | refine W.region ?_ | refine WS.nil ?_ | refine W.skip ?_ | refine W.block ?_ | refine W.ret ?_ | refine W.exit ?_ | refine W.yes rfl rfl ?_ | refine W.no rfl rfl ?_ | refine W.fork rfl (fun _ => ?_) (fun _ => ?_) | refine WS.near rfl o_mov rfl ?_ | refine WS.near rfl o_notT rfl ?_ | refine WS.near rfl o_notF rfl ?_ | refine WS.near rfl o_lss rfl ?_ | refine WS.near rfl o_seql rfl ?_ | refine WS.near rfl o_sneq rfl ?_ | refine WS.near rfl o_faddr rfl ?_ | refine WS.near rfl o_loadF rfl ?_ | refine WS.near rfl (o_loadH rfl) rfl ?_ | refine WS.near rfl (o_boxH 0 rfl) rfl ?_ | refine WS.near rfl (o_boxH 1 rfl) rfl ?_ | refine WS.near rfl (o_add (by omega) (by omega)) rfl ?_ | refine WS.near rfl (o_faddrF (Nat.le_of_ble_eq_true rfl)) rfl ?_)
        refine WS.puF hf rfl rfl (apart_pu (a := m.n) (b := 0) hmi (by unfold In64; omega)) ?_
        repeat' (first
            | refine W.seq ?_ | refine W.region ?_ | refine WS.nil ?_ | refine W.skip ?_ | refine W.block ?_ | refine W.ret ?_ | refine W.exit ?_ | refine W.yes rfl rfl ?_ | refine W.no rfl rfl ?_ | refine W.fork rfl (fun _ => ?_) (fun _ => ?_) | refine WS.near rfl o_mov rfl ?_ | refine WS.near rfl o_notT rfl ?_ | refine WS.near rfl o_notF rfl ?_ | refine WS.near rfl o_lss rfl ?_ | refine WS.near rfl o_seql rfl ?_ | refine WS.near rfl o_sneq rfl ?_ | refine WS.near rfl o_faddr rfl ?_ | refine WS.near rfl o_loadF rfl ?_ | refine WS.near rfl (o_loadH rfl) rfl ?_ | refine WS.near rfl (o_boxH 0 rfl) rfl ?_ | refine WS.near rfl (o_boxH 1 rfl) rfl ?_ | refine WS.near rfl (o_add (by omega) (by omega)) rfl ?_ | refine WS.near rfl (o_faddrF (Nat.le_of_ble_eq_true rfl)) rfl ?_)
        refine WS.puF hf rfl rfl (add_pu (a := s) (b := apartF m.n 0) hs (sat_in _)) ?_
        repeat' (first
            | refine W.seq ?_ | refine W.region ?_ | refine WS.nil ?_ | refine W.skip ?_ | refine W.block ?_ | refine W.ret ?_ | refine W.exit ?_ | refine W.yes rfl rfl ?_ | refine W.no rfl rfl ?_ | refine W.fork rfl (fun _ => ?_) (fun _ => ?_) | refine WS.near rfl o_mov rfl ?_ | refine WS.near rfl o_notT rfl ?_ | refine WS.near rfl o_notF rfl ?_ | refine WS.near rfl o_lss rfl ?_ | refine WS.near rfl o_seql rfl ?_ | refine WS.near rfl o_sneq rfl ?_ | refine WS.near rfl o_faddr rfl ?_ | refine WS.near rfl o_loadF rfl ?_ | refine WS.near rfl (o_loadH rfl) rfl ?_ | refine WS.near rfl (o_boxH 0 rfl) rfl ?_ | refine WS.near rfl (o_boxH 1 rfl) rfl ?_ | refine WS.near rfl (o_add (by omega) (by omega)) rfl ?_ | refine WS.near rfl (o_faddrF (Nat.le_of_ble_eq_true rfl)) rfl ?_)
        have ht : sat (s + apartF m.n 0) = sat (s + byF v m) := by unfold byF; rw [hadd]; rfl
        exact ⟨⟨i + 1, sat (s + apartF m.n 0), true, j2⟩, ⟨by show i + 1 ≤ r.a.make.length; omega, sat_in _, by show (r.a.make.drop (i + 1)).foldl (moveS v) (sat (s + apartF m.n 0), true) = _; rw [ht]; exact hr⟩, by show r.a.make.length - (i + 1) < r.a.make.length - i; omega, ⟨rfl, rfl, rfl, rfl, rfl, rfl, congrArg (fun z => some (V.int .i64 z)) e1, trivial⟩, rfl⟩
      | false =>
        have g2 : bget (some (arC r) :: some (varC v) :: j2) K = some [.str m.name, .bool false, i64 m.n] := by rw [g1, ← hadd]; rfl
        clear g1
        repeat' (first
            | refine WS.near rfl (o_loadH (hload_of g2 rfl)) rfl ?_ | refine W.seq ?_ | refine W.region ?_ | refine WS.nil ?_ | refine W.skip ?_ | refine W.block ?_ | refine W.ret ?_ | refine W.exit ?_ | refine W.yes rfl rfl ?_ | refine W.no rfl rfl ?_ | refine W.fork rfl (fun _ => ?_) (fun _ => ?_) | refine WS.near rfl o_mov rfl ?_ | refine WS.near rfl o_notT rfl ?_ | refine WS.near rfl o_notF rfl ?_ | refine WS.near rfl o_lss rfl ?_ | refine WS.near rfl o_seql rfl ?_ | refine WS.near rfl o_sneq rfl ?_ | refine WS.near rfl o_faddr rfl ?_ | refine WS.near rfl o_loadF rfl ?_ | refine WS.near rfl (o_loadH rfl) rfl ?_ | refine WS.near rfl (o_boxH 0 rfl) rfl ?_ | refine WS.near rfl (o_boxH 1 rfl) rfl ?_ | refine WS.near rfl (o_add (by omega) (by omega)) rfl ?_ | refine WS.near rfl (o_faddrF (Nat.le_of_ble_eq_true rfl)) rfl ?_)
        refine WS.puF hf rfl rfl (sub_pu (a := v.high) (b := v.low) hv.2 hv.1) ?_
        repeat' (first
            | refine WS.near rfl o_max rfl ?_ | refine W.seq ?_ | refine W.region ?_ | refine WS.nil ?_ | refine W.skip ?_ | refine W.block ?_ | refine W.ret ?_ | refine W.exit ?_ | refine W.yes rfl rfl ?_ | refine W.no rfl rfl ?_ | refine W.fork rfl (fun _ => ?_) (fun _ => ?_) | refine WS.near rfl o_mov rfl ?_ | refine WS.near rfl o_notT rfl ?_ | refine WS.near rfl o_notF rfl ?_ | refine WS.near rfl o_lss rfl ?_ | refine WS.near rfl o_seql rfl ?_ | refine WS.near rfl o_sneq rfl ?_ | refine WS.near rfl o_faddr rfl ?_ | refine WS.near rfl o_loadF rfl ?_ | refine WS.near rfl (o_loadH rfl) rfl ?_ | refine WS.near rfl (o_boxH 0 rfl) rfl ?_ | refine WS.near rfl (o_boxH 1 rfl) rfl ?_ | refine WS.near rfl (o_add (by omega) (by omega)) rfl ?_ | refine WS.near rfl (o_faddrF (Nat.le_of_ble_eq_true rfl)) rfl ?_)
        have hmx : In64 (max 0 (sat (v.high - v.low))) := by have := sat_in (v.high - v.low); unfold In64 at *; omega
        refine WS.puF hf rfl rfl (add_pu (a := s) (b := max 0 (sat (v.high - v.low))) hs hmx) ?_
        repeat' (first
            | refine W.seq ?_ | refine W.region ?_ | refine WS.nil ?_ | refine W.skip ?_ | refine W.block ?_ | refine W.ret ?_ | refine W.exit ?_ | refine W.yes rfl rfl ?_ | refine W.no rfl rfl ?_ | refine W.fork rfl (fun _ => ?_) (fun _ => ?_) | refine WS.near rfl o_mov rfl ?_ | refine WS.near rfl o_notT rfl ?_ | refine WS.near rfl o_notF rfl ?_ | refine WS.near rfl o_lss rfl ?_ | refine WS.near rfl o_seql rfl ?_ | refine WS.near rfl o_sneq rfl ?_ | refine WS.near rfl o_faddr rfl ?_ | refine WS.near rfl o_loadF rfl ?_ | refine WS.near rfl (o_loadH rfl) rfl ?_ | refine WS.near rfl (o_boxH 0 rfl) rfl ?_ | refine WS.near rfl (o_boxH 1 rfl) rfl ?_ | refine WS.near rfl (o_add (by omega) (by omega)) rfl ?_ | refine WS.near rfl (o_faddrF (Nat.le_of_ble_eq_true rfl)) rfl ?_)
        have ht : sat (s + max 0 (sat (v.high - v.low))) = sat (s + byF v m) := by unfold byF; rw [hadd]; rfl
        exact ⟨⟨i + 1, sat (s + max 0 (sat (v.high - v.low))), true, j2⟩, ⟨by show i + 1 ≤ r.a.make.length; omega, sat_in _, by show (r.a.make.drop (i + 1)).foldl (moveS v) (sat (s + max 0 (sat (v.high - v.low))), true) = _; rw [ht]; exact hr⟩, by show r.a.make.length - (i + 1) < r.a.make.length - i; omega, ⟨rfl, rfl, rfl, rfl, rfl, rfl, congrArg (fun z => some (V.int .i64 z)) e1, trivial⟩, rfl⟩
  · have hge : r.a.make.drop i = [] := List.drop_eq_nil_of_le (by omega)
    rw [hge] at hr
    exact ⟨_, rfl, fin_ib (by rw [← hr]; rfl) (by rw [← hr]; rfl)⟩

/-! ### the document's -/

theorem size_apart {n : Int} : sizeF n = apartF n 0 ∨ ¬ In64 n := by
  by_cases h : In64 n
  · left; unfold sizeF apartF sat at *; unfold In64 at h; split <;> omega
  · exact .inr h
theorem size_by {a b : Int} : (if b < a then 0 else sizeF (sat (b - a))) = max 0 (sat (b - a)) := by
  unfold sizeF
  have := sat_in (b - a)
  split
  · unfold sat; omega
  · have : 0 ≤ sat (b - a) := by unfold sat; omega
    rw [if_neg (by omega)]
    omega
structure RS where
  i : Nat
  s : Int
  ok : Bool
  junk : List (Option (List V))
theorem reachR_pu (r : AR) (v : Var) (hm : MksIn r) (hv : VarIn v) : PuF D1 70 [r.v, varV v] (i64 (turnsF r.a.make v).1) := by
  obtain ⟨hm, hml⟩ := hm
  have hmm : (r.a.make.map mkV).length = r.a.make.length := List.length_map ..
  refine PuF.tidy rfl rfl rfl rfl rfl fun h hf => ?_
  repeat' (first
      | refine W.seq ?_ | refine W.region ?_ | refine WS.nil ?_ | refine W.skip ?_ | refine W.block ?_ | refine W.ret ?_ | refine W.exit ?_ | refine W.yes rfl rfl ?_ | refine W.no rfl rfl ?_ | refine W.fork rfl (fun _ => ?_) (fun _ => ?_) | refine WS.near rfl o_mov rfl ?_ | refine WS.near rfl o_notT rfl ?_ | refine WS.near rfl o_notF rfl ?_ | refine WS.near rfl o_lss rfl ?_ | refine WS.near rfl o_seql rfl ?_ | refine WS.near rfl o_sneq rfl ?_ | refine WS.near rfl o_faddr rfl ?_ | refine WS.near rfl o_loadF rfl ?_ | refine WS.near rfl (o_loadH rfl) rfl ?_ | refine WS.near rfl (o_boxH 0 rfl) rfl ?_ | refine WS.near rfl (o_boxH 1 rfl) rfl ?_ | refine WS.near rfl (o_add (by omega) (by omega)) rfl ?_ | refine WS.near rfl (o_faddrF (Nat.le_of_ble_eq_true rfl)) rfl ?_)
  refine W.loop (fun a : RS => [(2, .mptr (h.next + 0) 0), (3, .mptr (h.next + 1) 0), (5, i64 a.s), (6, .int .i64 (a.i : Nat))]) (fun a => hp h (some (arC r) :: some (varC v) :: a.junk))
    (fun a => a.i ≤ r.a.make.length ∧ In64 a.s ∧ (r.a.make.drop a.i).foldl (moveS v) (a.s, a.ok) = turnsF r.a.make v) (fun a => r.a.make.length - a.i)
    ⟨0, 0, false, []⟩ ⟨Nat.zero_le _, in0, by rw [List.drop_zero]; rfl⟩ ⟨rfl, rfl, rfl, rfl, trivial⟩ rfl ?_
  rintro ⟨i, s, ok, junk⟩ ⟨hi, hs, hr⟩
  simp only at hi hs hr ⊢
  repeat' (first
      | refine WS.near rfl (o_lenZ r.hmk) rfl ?_ | refine W.seq ?_ | refine W.region ?_ | refine WS.nil ?_ | refine W.skip ?_ | refine W.block ?_ | refine W.ret ?_ | refine W.exit ?_ | refine W.yes rfl rfl ?_ | refine W.no rfl rfl ?_ | refine W.fork rfl (fun _ => ?_) (fun _ => ?_) | refine WS.near rfl o_mov rfl ?_ | refine WS.near rfl o_notT rfl ?_ | refine WS.near rfl o_notF rfl ?_ | refine WS.near rfl o_lss rfl ?_ | refine WS.near rfl o_seql rfl ?_ | refine WS.near rfl o_sneq rfl ?_ | refine WS.near rfl o_faddr rfl ?_ | refine WS.near rfl o_loadF rfl ?_ | refine WS.near rfl (o_loadH rfl) rfl ?_ | refine WS.near rfl (o_boxH 0 rfl) rfl ?_ | refine WS.near rfl (o_boxH 1 rfl) rfl ?_ | refine WS.near rfl (o_add (by omega) (by omega)) rfl ?_ | refine WS.near rfl (o_faddrF (Nat.le_of_ble_eq_true rfl)) rfl ?_)
  · have hlt : i < r.a.make.length := by omega
    rw [fold_drop (d := default) hlt] at hr
    have hmi := hm _ (getD_mem (d := default) hlt)
    refine WS.near rfl (o_iaddrZ i r.hmk rfl (fz_at (d := default) i hlt) rfl) rfl ?_
    generalize r.a.make.getD i default = m at hr hmi ⊢
    repeat' (first
        | refine WS.near rfl (o_loadA rfl) rfl ?_ | refine W.seq ?_ | refine W.region ?_ | refine WS.nil ?_ | refine W.skip ?_ | refine W.block ?_ | refine W.ret ?_ | refine W.exit ?_ | refine W.yes rfl rfl ?_ | refine W.no rfl rfl ?_ | refine W.fork rfl (fun _ => ?_) (fun _ => ?_) | refine WS.near rfl o_mov rfl ?_ | refine WS.near rfl o_notT rfl ?_ | refine WS.near rfl o_notF rfl ?_ | refine WS.near rfl o_lss rfl ?_ | refine WS.near rfl o_seql rfl ?_ | refine WS.near rfl o_sneq rfl ?_ | refine WS.near rfl o_faddr rfl ?_ | refine WS.near rfl o_loadF rfl ?_ | refine WS.near rfl (o_loadH rfl) rfl ?_ | refine WS.near rfl (o_boxH 0 rfl) rfl ?_ | refine WS.near rfl (o_boxH 1 rfl) rfl ?_ | refine WS.near rfl (o_add (by omega) (by omega)) rfl ?_ | refine WS.near rfl (o_faddrF (Nat.le_of_ble_eq_true rfl)) rfl ?_)
    refine WS.near rfl o_allocS rfl ?_
    refine WS.near rfl (o_storeH hf (bget_badd (bs := some (arC r) :: some (varC v) :: junk)) rfl) rfl ?_
    obtain ⟨j2, hj2⟩ := keepA (b0 := some (arC r)) (b1 := some (varC v)) (junk := junk) (z := [.str [], .bool false, .int .i64 0]) (cs := mkC m) (n := 3)
    have g1 := bget_bput (off := 0) (n := 3) (cs := mkC m) (bget_badd (bs := some (arC r) :: some (varC v) :: junk) (c := [.str [], .bool false, .int .i64 0]))
    rw [hj2] at g1
    change WS D1 (capOfD c70.dep) [] _ (hp h (bput (badd (some (arC r) :: some (varC v) :: junk) [.str [], .bool false, .int .i64 0]) (some (arC r) :: some (varC v) :: junk).length 0 3 (mkC m))) _
    rw [hj2]
    clear hj2
    generalize (some (arC r) :: some (varC v) :: junk).length = K at g1 ⊢
    have e1 : (i : Int) + 1 = ((i + 1 : Nat) : Int) := by omega
    repeat' (first
        | refine WS.near rfl (o_loadH (hload_of g1 rfl)) rfl ?_ | refine W.seq ?_ | refine W.region ?_ | refine WS.nil ?_ | refine W.skip ?_ | refine W.block ?_ | refine W.ret ?_ | refine W.exit ?_ | refine W.yes rfl rfl ?_ | refine W.no rfl rfl ?_ | refine W.fork rfl (fun _ => ?_) (fun _ => ?_) | refine WS.near rfl o_mov rfl ?_ | refine WS.near rfl o_notT rfl ?_ | refine WS.near rfl o_notF rfl ?_ | refine WS.near rfl o_lss rfl ?_ | refine WS.near rfl o_seql rfl ?_ | refine WS.near rfl o_sneq rfl ?_ | refine WS.near rfl o_faddr rfl ?_ | refine WS.near rfl o_loadF rfl ?_ | refine WS.near rfl (o_loadH rfl) rfl ?_ | refine WS.near rfl (o_boxH 0 rfl) rfl ?_ | refine WS.near rfl (o_boxH 1 rfl) rfl ?_ | refine WS.near rfl (o_add (by omega) (by omega)) rfl ?_ | refine WS.near rfl (o_faddrF (Nat.le_of_ble_eq_true rfl)) rfl ?_)
    · rename_i hne
      have hst : moveS v (s, ok) m = (s, ok) := by unfold moveS; rw [if_neg hne]
      rw [hst] at hr
      exact ⟨⟨i + 1, s, ok, j2⟩, ⟨by show i + 1 ≤ r.a.make.length; omega, hs, hr⟩, by show r.a.make.length - (i + 1) < r.a.make.length - i; omega, ⟨rfl, rfl, rfl, congrArg (fun z => some (V.int .i64 z)) e1, trivial⟩, rfl⟩
    · rename_i hne
      have hnm : m.name = v.name := Classical.not_not.1 hne
      have hst : moveS v (s, ok) m = (sat (s + byF v m), true) := by unfold moveS; rw [if_pos hnm]
      rw [hst] at hr
      have hsz : sizeF m.n = apartF m.n 0 := (size_apart (n := m.n)).resolve_right (fun h => h hmi)
      refine WS.puF hf rfl rfl (sizeR_pu hmi) ?_
      cases hadd : m.add with
      | true =>
        have g2 : bget (some (arC r) :: some (varC v) :: j2) K = some [.str m.name, .bool true, i64 m.n] := by rw [g1, ← hadd]; rfl
        clear g1
        repeat' (first
            | refine WS.near rfl (o_loadH (hload_of g2 rfl)) rfl ?_ | refine W.seq ?_ | refine W.region ?_ | refine WS.nil ?_ | refine W.skip ?_ | refine W.block ?_ | refine W.ret ?_ | refine W.exit ?_ | refine W.yes rfl rfl ?_ | refine W.no rfl rfl ?_ | refine W.fork rfl (fun _ => ?_) (fun _ => ?_) | refine WS.near rfl o_mov rfl ?_ | refine WS.near rfl o_notT rfl ?_ | refine WS.near rfl o_notF rfl ?_ | refine WS.near rfl o_lss rfl ?_ | refine WS.near rfl o_seql rfl ?_ | refine WS.near rfl o_sneq rfl ?_ | refine WS.near rfl o_faddr rfl ?_ | refine WS.near rfl o_loadF rfl ?_ | refine WS.near rfl (o_loadH rfl) rfl ?_ | refine WS.near rfl (o_boxH 0 rfl) rfl ?_ | refine WS.near rfl (o_boxH 1 rfl) rfl ?_ | refine WS.near rfl (o_add (by omega) (by omega)) rfl ?_ | refine WS.near rfl (o_faddrF (Nat.le_of_ble_eq_true rfl)) rfl ?_)
        refine WS.puF hf rfl rfl (addR_pu (a := s) (b := sizeF m.n) hs (by rw [hsz]; exact sat_in _)) ?_
        repeat' (first
            | refine W.seq ?_ | refine W.region ?_ | refine WS.nil ?_ | refine W.skip ?_ | refine W.block ?_ | refine W.ret ?_ | refine W.exit ?_ | refine W.yes rfl rfl ?_ | refine W.no rfl rfl ?_ | refine W.fork rfl (fun _ => ?_) (fun _ => ?_) | refine WS.near rfl o_mov rfl ?_ | refine WS.near rfl o_notT rfl ?_ | refine WS.near rfl o_notF rfl ?_ | refine WS.near rfl o_lss rfl ?_ | refine WS.near rfl o_seql rfl ?_ | refine WS.near rfl o_sneq rfl ?_ | refine WS.near rfl o_faddr rfl ?_ | refine WS.near rfl o_loadF rfl ?_ | refine WS.near rfl (o_loadH rfl) rfl ?_ | refine WS.near rfl (o_boxH 0 rfl) rfl ?_ | refine WS.near rfl (o_boxH 1 rfl) rfl ?_ | refine WS.near rfl (o_add (by omega) (by omega)) rfl ?_ | refine WS.near rfl (o_faddrF (Nat.le_of_ble_eq_true rfl)) rfl ?_)
        have ht : sat (s + sizeF m.n) = sat (s + byF v m) := by unfold byF; rw [hadd, hsz]; rfl
        exact ⟨⟨i + 1, sat (s + sizeF m.n), true, j2⟩, ⟨by show i + 1 ≤ r.a.make.length; omega, sat_in _, by show (r.a.make.drop (i + 1)).foldl (moveS v) (sat (s + sizeF m.n), true) = _; rw [ht]; exact hr⟩, by show r.a.make.length - (i + 1) < r.a.make.length - i; omega, ⟨rfl, rfl, rfl, congrArg (fun z => some (V.int .i64 z)) e1, trivial⟩, rfl⟩
      | false =>
        have g2 : bget (some (arC r) :: some (varC v) :: j2) K = some [.str m.name, .bool false, i64 m.n] := by rw [g1, ← hadd]; rfl
        clear g1
        repeat' (first
            | refine WS.near rfl (o_loadH (hload_of g2 rfl)) rfl ?_ | refine W.seq ?_ | refine W.region ?_ | refine WS.nil ?_ | refine W.skip ?_ | refine W.block ?_ | refine W.ret ?_ | refine W.exit ?_ | refine W.yes rfl rfl ?_ | refine W.no rfl rfl ?_ | refine W.fork rfl (fun _ => ?_) (fun _ => ?_) | refine WS.near rfl o_mov rfl ?_ | refine WS.near rfl o_notT rfl ?_ | refine WS.near rfl o_notF rfl ?_ | refine WS.near rfl o_lss rfl ?_ | refine WS.near rfl o_seql rfl ?_ | refine WS.near rfl o_sneq rfl ?_ | refine WS.near rfl o_faddr rfl ?_ | refine WS.near rfl o_loadF rfl ?_ | refine WS.near rfl (o_loadH rfl) rfl ?_ | refine WS.near rfl (o_boxH 0 rfl) rfl ?_ | refine WS.near rfl (o_boxH 1 rfl) rfl ?_ | refine WS.near rfl (o_add (by omega) (by omega)) rfl ?_ | refine WS.near rfl (o_faddrF (Nat.le_of_ble_eq_true rfl)) rfl ?_)
        refine WS.puF hf rfl rfl (subR_pu (a := v.high) (b := v.low) hv.2 hv.1) ?_
        repeat' (first
            | refine W.seq ?_ | refine W.region ?_ | refine WS.nil ?_ | refine W.skip ?_ | refine W.block ?_ | refine W.ret ?_ | refine W.exit ?_ | refine W.yes rfl rfl ?_ | refine W.no rfl rfl ?_ | refine W.fork rfl (fun _ => ?_) (fun _ => ?_) | refine WS.near rfl o_mov rfl ?_ | refine WS.near rfl o_notT rfl ?_ | refine WS.near rfl o_notF rfl ?_ | refine WS.near rfl o_lss rfl ?_ | refine WS.near rfl o_seql rfl ?_ | refine WS.near rfl o_sneq rfl ?_ | refine WS.near rfl o_faddr rfl ?_ | refine WS.near rfl o_loadF rfl ?_ | refine WS.near rfl (o_loadH rfl) rfl ?_ | refine WS.near rfl (o_boxH 0 rfl) rfl ?_ | refine WS.near rfl (o_boxH 1 rfl) rfl ?_ | refine WS.near rfl (o_add (by omega) (by omega)) rfl ?_ | refine WS.near rfl (o_faddrF (Nat.le_of_ble_eq_true rfl)) rfl ?_)
        refine WS.puF hf rfl rfl (sizeR_pu (sat_in _)) ?_
        repeat' (first
            | refine W.seq ?_ | refine W.region ?_ | refine WS.nil ?_ | refine W.skip ?_ | refine W.block ?_ | refine W.ret ?_ | refine W.exit ?_ | refine W.yes rfl rfl ?_ | refine W.no rfl rfl ?_ | refine W.fork rfl (fun _ => ?_) (fun _ => ?_) | refine WS.near rfl o_mov rfl ?_ | refine WS.near rfl o_notT rfl ?_ | refine WS.near rfl o_notF rfl ?_ | refine WS.near rfl o_lss rfl ?_ | refine WS.near rfl o_seql rfl ?_ | refine WS.near rfl o_sneq rfl ?_ | refine WS.near rfl o_faddr rfl ?_ | refine WS.near rfl o_loadF rfl ?_ | refine WS.near rfl (o_loadH rfl) rfl ?_ | refine WS.near rfl (o_boxH 0 rfl) rfl ?_ | refine WS.near rfl (o_boxH 1 rfl) rfl ?_ | refine WS.near rfl (o_add (by omega) (by omega)) rfl ?_ | refine WS.near rfl (o_faddrF (Nat.le_of_ble_eq_true rfl)) rfl ?_)
        · rename_i hlow
          refine WS.puF hf rfl rfl (addR_pu (a := s) (b := 0) hs in0) ?_
          repeat' (first
              | refine W.seq ?_ | refine W.region ?_ | refine WS.nil ?_ | refine W.skip ?_ | refine W.block ?_ | refine W.ret ?_ | refine W.exit ?_ | refine W.yes rfl rfl ?_ | refine W.no rfl rfl ?_ | refine W.fork rfl (fun _ => ?_) (fun _ => ?_) | refine WS.near rfl o_mov rfl ?_ | refine WS.near rfl o_notT rfl ?_ | refine WS.near rfl o_notF rfl ?_ | refine WS.near rfl o_lss rfl ?_ | refine WS.near rfl o_seql rfl ?_ | refine WS.near rfl o_sneq rfl ?_ | refine WS.near rfl o_faddr rfl ?_ | refine WS.near rfl o_loadF rfl ?_ | refine WS.near rfl (o_loadH rfl) rfl ?_ | refine WS.near rfl (o_boxH 0 rfl) rfl ?_ | refine WS.near rfl (o_boxH 1 rfl) rfl ?_ | refine WS.near rfl (o_add (by omega) (by omega)) rfl ?_ | refine WS.near rfl (o_faddrF (Nat.le_of_ble_eq_true rfl)) rfl ?_)
          have ht : sat (s + 0) = sat (s + byF v m) := by
            have h9 := size_by (a := v.low) (b := v.high)
            rw [if_pos hlow] at h9
            unfold byF; rw [hadd]
            exact congrArg (fun z => sat (s + z)) h9
          exact ⟨⟨i + 1, sat (s + 0), true, j2⟩, ⟨by show i + 1 ≤ r.a.make.length; omega, sat_in _, by show (r.a.make.drop (i + 1)).foldl (moveS v) (sat (s + 0), true) = _; rw [ht]; exact hr⟩, by show r.a.make.length - (i + 1) < r.a.make.length - i; omega, ⟨rfl, rfl, rfl, congrArg (fun z => some (V.int .i64 z)) e1, trivial⟩, rfl⟩
        · rename_i hlow
          have h9 := size_by (a := v.low) (b := v.high)
          rw [if_neg hlow] at h9
          have hz : In64 (sizeF (sat (v.high - v.low))) := by rw [h9]; have := sat_in (v.high - v.low); unfold In64 at *; omega
          refine WS.puF hf rfl rfl (addR_pu (a := s) (b := sizeF (sat (v.high - v.low))) hs hz) ?_
          repeat' (first
              | refine W.seq ?_ | refine W.region ?_ | refine WS.nil ?_ | refine W.skip ?_ | refine W.block ?_ | refine W.ret ?_ | refine W.exit ?_ | refine W.yes rfl rfl ?_ | refine W.no rfl rfl ?_ | refine W.fork rfl (fun _ => ?_) (fun _ => ?_) | refine WS.near rfl o_mov rfl ?_ | refine WS.near rfl o_notT rfl ?_ | refine WS.near rfl o_notF rfl ?_ | refine WS.near rfl o_lss rfl ?_ | refine WS.near rfl o_seql rfl ?_ | refine WS.near rfl o_sneq rfl ?_ | refine WS.near rfl o_faddr rfl ?_ | refine WS.near rfl o_loadF rfl ?_ | refine WS.near rfl (o_loadH rfl) rfl ?_ | refine WS.near rfl (o_boxH 0 rfl) rfl ?_ | refine WS.near rfl (o_boxH 1 rfl) rfl ?_ | refine WS.near rfl (o_add (by omega) (by omega)) rfl ?_ | refine WS.near rfl (o_faddrF (Nat.le_of_ble_eq_true rfl)) rfl ?_)
          have ht : sat (s + sizeF (sat (v.high - v.low))) = sat (s + byF v m) := by unfold byF; rw [hadd, h9]; rfl
          exact ⟨⟨i + 1, sat (s + sizeF (sat (v.high - v.low))), true, j2⟩, ⟨by show i + 1 ≤ r.a.make.length; omega, sat_in _, by show (r.a.make.drop (i + 1)).foldl (moveS v) (sat (s + sizeF (sat (v.high - v.low))), true) = _; rw [ht]; exact hr⟩, by show r.a.make.length - (i + 1) < r.a.make.length - i; omega, ⟨rfl, rfl, rfl, congrArg (fun z => some (V.int .i64 z)) e1, trivial⟩, rfl⟩
  · have hge : r.a.make.drop i = [] := List.drop_eq_nil_of_le (by omega)
    rw [hge] at hr
    exact ⟨_, rfl, fin_int (by rw [← hr]; rfl)⟩
theorem turns_any (v : Var) : ∀ (l : List Mk) (p : Int × Bool), (l.foldl (moveS v) p).2 = (p.2 || l.any fun m => decide (m.name = v.name))
  | [], p => by simp
  | m :: l, p => by
    rw [List.foldl_cons, turns_any v l, List.any_cons]
    unfold moveS
    by_cases h : m.name = v.name
    · simp [h]
    · simp [h]
theorem touchesR_pu (r : AR) (v : Var) (hml : r.a.make.length < 2 ^ 40) : PuF D1 71 [r.v, varV v] (.bool (turnsF r.a.make v).2) := by
  have hmm : (r.a.make.map mkV).length = r.a.make.length := List.length_map ..
  have hres : (turnsF r.a.make v).2 = r.a.make.any fun m => decide (m.name = v.name) := by unfold turnsF; rw [turns_any]; simp
  refine PuF.tidy rfl rfl rfl rfl rfl fun h hf => ?_
  repeat' (first
      | refine W.seq ?_ | refine W.region ?_ | refine WS.nil ?_ | refine W.skip ?_ | refine W.block ?_ | refine W.ret ?_ | refine W.exit ?_ | refine W.yes rfl rfl ?_ | refine W.no rfl rfl ?_ | refine W.fork rfl (fun _ => ?_) (fun _ => ?_) | refine WS.near rfl o_mov rfl ?_ | refine WS.near rfl o_notT rfl ?_ | refine WS.near rfl o_notF rfl ?_ | refine WS.near rfl o_lss rfl ?_ | refine WS.near rfl o_seql rfl ?_ | refine WS.near rfl o_sneq rfl ?_ | refine WS.near rfl o_faddr rfl ?_ | refine WS.near rfl o_loadF rfl ?_ | refine WS.near rfl (o_loadH rfl) rfl ?_ | refine WS.near rfl (o_boxH 0 rfl) rfl ?_ | refine WS.near rfl (o_boxH 1 rfl) rfl ?_ | refine WS.near rfl (o_add (by omega) (by omega)) rfl ?_ | refine WS.near rfl (o_faddrF (Nat.le_of_ble_eq_true rfl)) rfl ?_)
  refine W.loop (fun i : Nat => [(2, .mptr (h.next + 0) 0), (3, .mptr (h.next + 1) 0), (5, .int .i64 (i : Nat))]) (fun _ => hp h (some (arC r) :: some (varC v) :: []))
    (fun i => i ≤ r.a.make.length ∧ (r.a.make.any fun m => decide (m.name = v.name)) = ((r.a.make.drop i).any fun m => decide (m.name = v.name))) (fun i => r.a.make.length - i)
    0 ⟨Nat.zero_le _, by rw [List.drop_zero]⟩ ⟨rfl, rfl, rfl, trivial⟩ rfl ?_
  rintro i ⟨hi, hr⟩
  repeat' (first
      | refine WS.near rfl (o_lenZ r.hmk) rfl ?_ | refine W.seq ?_ | refine W.region ?_ | refine WS.nil ?_ | refine W.skip ?_ | refine W.block ?_ | refine W.ret ?_ | refine W.exit ?_ | refine W.yes rfl rfl ?_ | refine W.no rfl rfl ?_ | refine W.fork rfl (fun _ => ?_) (fun _ => ?_) | refine WS.near rfl o_mov rfl ?_ | refine WS.near rfl o_notT rfl ?_ | refine WS.near rfl o_notF rfl ?_ | refine WS.near rfl o_lss rfl ?_ | refine WS.near rfl o_seql rfl ?_ | refine WS.near rfl o_sneq rfl ?_ | refine WS.near rfl o_faddr rfl ?_ | refine WS.near rfl o_loadF rfl ?_ | refine WS.near rfl (o_loadH rfl) rfl ?_ | refine WS.near rfl (o_boxH 0 rfl) rfl ?_ | refine WS.near rfl (o_boxH 1 rfl) rfl ?_ | refine WS.near rfl (o_add (by omega) (by omega)) rfl ?_ | refine WS.near rfl (o_faddrF (Nat.le_of_ble_eq_true rfl)) rfl ?_)
  · have hlt : i < r.a.make.length := by omega
    have hstep : ((r.a.make.drop i).any fun m => decide (m.name = v.name)) = (decide ((r.a.make.getD i default).name = v.name) || ((r.a.make.drop (i + 1)).any fun m => decide (m.name = v.name))) := by
      rw [List.drop_eq_getElem_cons hlt]
      simp only [List.any_cons, List.getD, List.getElem?_eq_getElem hlt, Option.getD_some]
    rw [hstep] at hr
    refine WS.near rfl (o_iaddrZ i r.hmk rfl (fz_at (d := default) i hlt) rfl) rfl ?_
    repeat' (first
        | refine W.seq ?_ | refine W.region ?_ | refine WS.nil ?_ | refine W.skip ?_ | refine W.block ?_ | refine W.ret ?_ | refine W.exit ?_ | refine W.yes rfl rfl ?_ | refine W.no rfl rfl ?_ | refine W.fork rfl (fun _ => ?_) (fun _ => ?_) | refine WS.near rfl o_mov rfl ?_ | refine WS.near rfl o_notT rfl ?_ | refine WS.near rfl o_notF rfl ?_ | refine WS.near rfl o_lss rfl ?_ | refine WS.near rfl o_seql rfl ?_ | refine WS.near rfl o_sneq rfl ?_ | refine WS.near rfl o_faddr rfl ?_ | refine WS.near rfl o_loadF rfl ?_ | refine WS.near rfl (o_loadH rfl) rfl ?_ | refine WS.near rfl (o_boxH 0 rfl) rfl ?_ | refine WS.near rfl (o_boxH 1 rfl) rfl ?_ | refine WS.near rfl (o_add (by omega) (by omega)) rfl ?_ | refine WS.near rfl (o_faddrF (Nat.le_of_ble_eq_true rfl)) rfl ?_)
    · rename_i he
      exact ⟨_, rfl, fin_bool (by rw [hres, hr, decide_eq_true he]; rfl)⟩
    · rename_i he
      have e1 : (i : Int) + 1 = ((i + 1 : Nat) : Int) := by omega
      exact ⟨i + 1, ⟨by omega, by rw [hr, decide_eq_false he]; rfl⟩, by show r.a.make.length - (i + 1) < r.a.make.length - i; omega, ⟨rfl, rfl, congrArg (fun z => some (V.int .i64 z)) e1, trivial⟩, rfl⟩
  · have hge : r.a.make.drop i = [] := List.drop_eq_nil_of_le (by omega)
    rw [hge] at hr
    exact ⟨_, rfl, fin_bool (by rw [hres, hr]; rfl)⟩
theorem turns_le (v : Var) (l : List Mk) : (turnsF l v).1 ≤ 9223372036854775807 := by
  have key : ∀ (l : List Mk) (p : Int × Bool), p.1 ≤ 9223372036854775807 → (l.foldl (moveS v) p).1 ≤ 9223372036854775807 := by
    intro l
    induction l with
    | nil => exact fun p h => h
    | cons m l ih =>
      intro p h
      refine ih _ ?_
      unfold moveS
      split
      · exact sat_le _
      · exact h
  exact key l (0, false) (by simp)
theorem turns_zero (v : Var) (l : List Mk) (h : (turnsF l v).2 = false) : (turnsF l v).1 = 0 := by
  have key : ∀ (l : List Mk) (s : Int), (l.foldl (moveS v) (s, false)).2 = false → (l.foldl (moveS v) (s, false)).1 = s := by
    intro l
    induction l with
    | nil => exact fun s _ => rfl
    | cons m l ih =>
      intro s h
      rw [List.foldl_cons] at h ⊢
      by_cases hm : m.name = v.name
      · exfalso
        rw [turns_any] at h
        unfold moveS at h
        rw [if_pos hm] at h
        simp at h
      · have e : moveS v (s, false) m = (s, false) := by unfold moveS; rw [if_neg hm]
        rw [e] at h ⊢
        exact ih s h
  exact key l 0 h
end Go.Proofs.YtpaadclighadaaaDoor.CodesG
