/- Keys, and the kinds of expressions without parts. -/
import Derived.Test.YtfbikhkmamdjmaaDoorWK2
namespace Go.Proofs.YtfbikhkmamdjmaaDoor.CodesK
open Go Go.Ab
set_option maxHeartbeats 4000000
set_option maxRecDepth 100000

structure KY where
  name : List Nat
  kind : Int
  sh : Bool
def KY.cells (k : KY) : List V := [.str k.name, i64 k.kind, .bool k.sh]
def KY.v (k : KY) : V := .agg k.cells
instance : Inhabited KY := ⟨⟨[], 0, false⟩⟩
/-- the place of the first key of a name; below 0: none -/
def firstK (s : List Nat) : Nat → List KY → Int
  | _, [] => -1
  | i, k :: r => if k.name = s then (i : Int) else firstK s (i + 1) r
theorem firstK_at {l : List KY} {i : Nat} (hi : i < l.length) (s : List Nat) : firstK s i (l.drop i) = if (l.getD i default).name = s then (i : Int) else firstK s (i + 1) (l.drop (i + 1)) := by
  rw [List.drop_eq_getElem_cons hi]
  simp [firstK, List.getD, List.getElem?_eq_getElem hi]
theorem firstK_lt (s : List Nat) : ∀ (l : List KY) (i : Nat), firstK s i l < ((i + l.length : Nat) : Int) ∧ (0 ≤ firstK s i l ∨ firstK s i l = -1)
  | [], i => ⟨by show (-1 : Int) < _; omega, .inr rfl⟩
  | k :: r, i => by
    have := firstK_lt s r (i + 1)
    unfold firstK
    simp only [List.length_cons]
    split
    · exact ⟨by omega, by omega⟩
    · exact ⟨by omega, this.2⟩
theorem KY.len {u : V} {l : List KY} {h : Heap} (hu : IsFz u (l.map KY.v)) : Does (.len 1 (.v u)) h (.int .i64 (l.length : Nat)) h := by
  have := o_lenZ (h0 := h) hu
  rw [List.length_map] at this
  exact this
theorem findKey_pu (u : V) (l : List KY) (hu : IsFz u (l.map KY.v)) (hl : l.length ≤ 30) (s : List Nat) : PuF D1 47 [u, .str s] (i64 (firstK s 0 l)) := by
  refine PuF.tidy rfl rfl rfl rfl rfl fun h hf => ?_
  repeat' (first
      | refine W.seq ?_ | refine W.region ?_ | refine WS.nil ?_ | refine W.skip ?_ | refine W.block ?_ | refine W.ret ?_ | refine W.exit ?_ | refine W.fork rfl (fun _ => ?_) (fun _ => ?_) | refine WS.near rfl o_mov rfl ?_ | refine WS.near rfl o_lss rfl ?_ | refine WS.near rfl o_eql rfl ?_ | refine WS.near rfl o_seql rfl ?_ | refine WS.near rfl o_faddr rfl ?_ | refine WS.near rfl o_loadF rfl ?_ | refine WS.near rfl (o_loadH rfl) rfl ?_ | refine WS.near rfl (o_boxH 0 rfl) rfl ?_ | refine WS.near rfl (o_add (by omega) (by omega)) rfl ?_ | refine WS.near rfl (o_faddrF (Nat.le_of_ble_eq_true rfl)) rfl ?_ | fail)
  refine W.loop (fun i : Nat => [(0, u), (1, .str s), (3, i64 i)]) (fun _ => hp h []) (fun i => i ≤ l.length ∧ firstK s 0 l = firstK s i (l.drop i)) (fun i => l.length - i) 0 ⟨Nat.zero_le _, rfl⟩ ⟨rfl, rfl, rfl, trivial⟩ rfl ?_
  rintro i ⟨hi, hs⟩
  repeat' (first
      | refine WS.near rfl (KY.len hu) rfl ?_ | refine W.seq ?_ | refine W.region ?_ | refine WS.nil ?_ | refine W.skip ?_ | refine W.block ?_ | refine W.ret ?_ | refine W.exit ?_ | refine W.fork rfl (fun _ => ?_) (fun _ => ?_) | refine WS.near rfl o_mov rfl ?_ | refine WS.near rfl o_lss rfl ?_ | refine WS.near rfl o_eql rfl ?_ | refine WS.near rfl o_seql rfl ?_ | refine WS.near rfl o_faddr rfl ?_ | refine WS.near rfl o_loadF rfl ?_ | refine WS.near rfl (o_loadH rfl) rfl ?_ | refine WS.near rfl (o_boxH 0 rfl) rfl ?_ | refine WS.near rfl (o_add (by omega) (by omega)) rfl ?_ | refine WS.near rfl (o_faddrF (Nat.le_of_ble_eq_true rfl)) rfl ?_ | fail)
  · rename_i hlt
    rw [firstK_at (by omega)] at hs
    refine WS.near rfl (o_iaddrZ i hu rfl (fz_at (d := default) i (by omega)) rfl) rfl ?_
    generalize l.getD i default = y at hs ⊢
    repeat' (first
        | refine W.seq ?_ | refine W.region ?_ | refine WS.nil ?_ | refine W.skip ?_ | refine W.block ?_ | refine W.ret ?_ | refine W.exit ?_ | refine W.fork rfl (fun _ => ?_) (fun _ => ?_) | refine WS.near rfl o_mov rfl ?_ | refine WS.near rfl o_lss rfl ?_ | refine WS.near rfl o_eql rfl ?_ | refine WS.near rfl o_seql rfl ?_ | refine WS.near rfl o_faddr rfl ?_ | refine WS.near rfl o_loadF rfl ?_ | refine WS.near rfl (o_loadH rfl) rfl ?_ | refine WS.near rfl (o_boxH 0 rfl) rfl ?_ | refine WS.near rfl (o_add (by omega) (by omega)) rfl ?_ | refine WS.near rfl (o_faddrF (Nat.le_of_ble_eq_true rfl)) rfl ?_ | fail)
    · rename_i he
      rw [if_pos he] at hs
      exact ⟨_, rfl, fin_int hs.symm⟩
    · rename_i he
      rw [if_neg he] at hs
      exact ⟨i + 1, ⟨by omega, hs⟩, by show l.length - (i + 1) < l.length - i; omega, ⟨rfl, rfl, rfl, trivial⟩, rfl⟩
  · rename_i hge
    rw [List.drop_eq_nil_of_le (by omega)] at hs
    exact ⟨_, rfl, fin_int hs.symm⟩
theorem o_loadA1 {h : Heap} {v : V} {id off : Nat} {l r : List V} (e : h.cellsOf id = some l) (d : l.drop off = v :: r) : Does (.load 1 false (.v (.mptr id off))) h v h := o_load1 e d
theorem keyF_pu (id : Nat) (s : List Nat) (y : KY) : PuC D1 173 [y.v, .mptr id 0] (.bool (decide (y.name = s))) (fun h => h.cellsOf id = some [.str s]) := by
  refine PuC.tidy (fun h hb => hb) rfl rfl rfl rfl rfl fun h hf hb => ?_
  repeat' (first
      | refine WS.near rfl (o_loadOld hf hb rfl) rfl ?_ | refine W.seq ?_ | refine W.region ?_ | refine WS.nil ?_ | refine W.skip ?_ | refine W.block ?_ | refine W.ret ?_ | refine W.exit ?_ | refine W.fork rfl (fun _ => ?_) (fun _ => ?_) | refine WS.near rfl o_mov rfl ?_ | refine WS.near rfl o_lss rfl ?_ | refine WS.near rfl o_eql rfl ?_ | refine WS.near rfl o_seql rfl ?_ | refine WS.near rfl o_faddr rfl ?_ | refine WS.near rfl o_loadF rfl ?_ | refine WS.near rfl (o_loadH rfl) rfl ?_ | refine WS.near rfl (o_boxH 0 rfl) rfl ?_ | refine WS.near rfl (o_add (by omega) (by omega)) rfl ?_ | refine WS.near rfl (o_faddrF (Nat.le_of_ble_eq_true rfl)) rfl ?_ | fail)
  exact ⟨_, rfl, fin_bool rfl⟩
theorem indexK_pu (id : Nat) (u : V) (l : List KY) (hu : IsFz u (l.map KY.v)) (hl : l.length ≤ 30) (s : List Nat) : PuC D1 172 [u, .fn 173 [] [.mptr id 0]] (i64 (firstK s 0 l)) (fun h => h.cellsOf id = some [.str s]) := by
  refine PuC.tidy (fun h hb => hb) rfl rfl rfl rfl rfl fun h hf hb => ?_
  repeat' (first
      | refine WS.near rfl (KY.len hu) rfl ?_ | refine W.seq ?_ | refine W.region ?_ | refine WS.nil ?_ | refine W.skip ?_ | refine W.block ?_ | refine W.ret ?_ | refine W.exit ?_ | refine W.fork rfl (fun _ => ?_) (fun _ => ?_) | refine WS.near rfl o_mov rfl ?_ | refine WS.near rfl o_lss rfl ?_ | refine WS.near rfl o_eql rfl ?_ | refine WS.near rfl o_seql rfl ?_ | refine WS.near rfl o_faddr rfl ?_ | refine WS.near rfl o_loadF rfl ?_ | refine WS.near rfl (o_loadH rfl) rfl ?_ | refine WS.near rfl (o_boxH 0 rfl) rfl ?_ | refine WS.near rfl (o_add (by omega) (by omega)) rfl ?_ | refine WS.near rfl (o_faddrF (Nat.le_of_ble_eq_true rfl)) rfl ?_ | fail)
  refine W.loop (fun i : Nat => [(0, u), (1, .fn 173 [] [.mptr id 0]), (4, i64 l.length), (5, i64 i)]) (fun _ => hp h []) (fun i => i ≤ l.length ∧ firstK s 0 l = firstK s i (l.drop i)) (fun i => l.length - i) 0 ⟨Nat.zero_le _, rfl⟩ ⟨rfl, rfl, rfl, rfl, trivial⟩ rfl ?_
  rintro i ⟨hi, hs⟩
  repeat' (first
      | refine W.seq ?_ | refine W.region ?_ | refine WS.nil ?_ | refine W.skip ?_ | refine W.block ?_ | refine W.ret ?_ | refine W.exit ?_ | refine W.fork rfl (fun _ => ?_) (fun _ => ?_) | refine WS.near rfl o_mov rfl ?_ | refine WS.near rfl o_lss rfl ?_ | refine WS.near rfl o_eql rfl ?_ | refine WS.near rfl o_seql rfl ?_ | refine WS.near rfl o_faddr rfl ?_ | refine WS.near rfl o_loadF rfl ?_ | refine WS.near rfl (o_loadH rfl) rfl ?_ | refine WS.near rfl (o_boxH 0 rfl) rfl ?_ | refine WS.near rfl (o_add (by omega) (by omega)) rfl ?_ | refine WS.near rfl (o_faddrF (Nat.le_of_ble_eq_true rfl)) rfl ?_ | fail)
  · rename_i hlt
    rw [firstK_at (by omega)] at hs
    refine WS.near rfl (o_iaddrZ i hu rfl (fz_at (d := default) i (by omega)) rfl) rfl ?_
    generalize l.getD i default = y at hs ⊢
    repeat' (first
        | refine WS.near rfl (o_loadA rfl) rfl ?_ | refine W.seq ?_ | refine W.region ?_ | refine WS.nil ?_ | refine W.skip ?_ | refine W.block ?_ | refine W.ret ?_ | refine W.exit ?_ | refine W.fork rfl (fun _ => ?_) (fun _ => ?_) | refine WS.near rfl o_mov rfl ?_ | refine WS.near rfl o_lss rfl ?_ | refine WS.near rfl o_eql rfl ?_ | refine WS.near rfl o_seql rfl ?_ | refine WS.near rfl o_faddr rfl ?_ | refine WS.near rfl o_loadF rfl ?_ | refine WS.near rfl (o_loadH rfl) rfl ?_ | refine WS.near rfl (o_boxH 0 rfl) rfl ?_ | refine WS.near rfl (o_add (by omega) (by omega)) rfl ?_ | refine WS.near rfl (o_faddrF (Nat.le_of_ble_eq_true rfl)) rfl ?_ | fail)
    refine WS.callv (C := fun v h' => v = .bool (decide (y.name = s)) ∧ h' = hp h []) rfl rfl rfl rfl (keyF_pu id s y _ (hp_fine hf) ((hp_old [] (cells_lt hb) hf).trans hb)) fun v h' hc => ?_
    obtain ⟨rfl, rfl⟩ := hc
    repeat' (first
        | refine W.seq ?_ | refine W.region ?_ | refine WS.nil ?_ | refine W.skip ?_ | refine W.block ?_ | refine W.ret ?_ | refine W.exit ?_ | refine W.fork rfl (fun _ => ?_) (fun _ => ?_) | refine WS.near rfl o_mov rfl ?_ | refine WS.near rfl o_lss rfl ?_ | refine WS.near rfl o_eql rfl ?_ | refine WS.near rfl o_seql rfl ?_ | refine WS.near rfl o_faddr rfl ?_ | refine WS.near rfl o_loadF rfl ?_ | refine WS.near rfl (o_loadH rfl) rfl ?_ | refine WS.near rfl (o_boxH 0 rfl) rfl ?_ | refine WS.near rfl (o_add (by omega) (by omega)) rfl ?_ | refine WS.near rfl (o_faddrF (Nat.le_of_ble_eq_true rfl)) rfl ?_ | fail)
    · rename_i he
      rw [if_pos he] at hs
      exact ⟨_, rfl, fin_int hs.symm⟩
    · rename_i he
      rw [if_neg he] at hs
      exact ⟨i + 1, ⟨by omega, hs⟩, by show l.length - (i + 1) < l.length - i; omega, ⟨rfl, rfl, rfl, rfl, trivial⟩, rfl⟩
  · rename_i hge
    rw [List.drop_eq_nil_of_le (by omega)] at hs
    exact ⟨_, rfl, fin_int hs.symm⟩
theorem key_pu (u : V) (l : List KY) (hu : IsFz u (l.map KY.v)) (hl : l.length ≤ 30) (s : List Nat) : PuF D1 119 [u, .str s] (i64 (firstK s 0 l)) := by
  refine PuF.tidy rfl rfl rfl rfl rfl fun h hf => ?_
  repeat' (first
      | refine W.seq ?_ | refine W.region ?_ | refine WS.nil ?_ | refine W.skip ?_ | refine W.block ?_ | refine W.ret ?_ | refine W.exit ?_ | refine W.fork rfl (fun _ => ?_) (fun _ => ?_) | refine WS.near rfl o_mov rfl ?_ | refine WS.near rfl o_lss rfl ?_ | refine WS.near rfl o_eql rfl ?_ | refine WS.near rfl o_seql rfl ?_ | refine WS.near rfl o_faddr rfl ?_ | refine WS.near rfl o_loadF rfl ?_ | refine WS.near rfl (o_loadH rfl) rfl ?_ | refine WS.near rfl (o_boxH 0 rfl) rfl ?_ | refine WS.near rfl (o_add (by omega) (by omega)) rfl ?_ | refine WS.near rfl (o_faddrF (Nat.le_of_ble_eq_true rfl)) rfl ?_ | fail)
  refine WS.near rfl (v := .fn 173 [] [.mptr (h.next + 0) 0]) ⟨rfl⟩ rfl ?_
  refine WS.puC hf (Pre := fun h' => h'.cellsOf (h.next + 0) = some [.str s]) (hp_cells h [some [.str s]] 0) rfl rfl (indexK_pu (h.next + 0) u l hu hl s) ?_
  repeat' (first
      | refine W.seq ?_ | refine W.region ?_ | refine WS.nil ?_ | refine W.skip ?_ | refine W.block ?_ | refine W.ret ?_ | refine W.exit ?_ | refine W.fork rfl (fun _ => ?_) (fun _ => ?_) | refine WS.near rfl o_mov rfl ?_ | refine WS.near rfl o_lss rfl ?_ | refine WS.near rfl o_eql rfl ?_ | refine WS.near rfl o_seql rfl ?_ | refine WS.near rfl o_faddr rfl ?_ | refine WS.near rfl o_loadF rfl ?_ | refine WS.near rfl (o_loadH rfl) rfl ?_ | refine WS.near rfl (o_boxH 0 rfl) rfl ?_ | refine WS.near rfl (o_add (by omega) (by omega)) rfl ?_ | refine WS.near rfl (o_faddrF (Nat.le_of_ble_eq_true rfl)) rfl ?_ | fail)
  exact ⟨_, rfl, fin_int rfl⟩
theorem fin_tup2 {h1 : Heap} {bs : List (Option (List V))} {a b a' b' : Int} (e1 : a = a') (e2 : b = b') : fin h1 (.tup [i64 a', i64 b']) (.tup [i64 a, i64 b]) (hp h1 bs) := ⟨bs, rfl, by rw [e1, e2]; rfl⟩
/-- the kind of an expression without parts, and why there is none -/
def plainF (x : EX) (l : List KY) : Int × Int :=
  if x.k = 1 then (1, 0) else if x.k = 4 then (2, 0) else if x.k = 3 then (3, 0) else if x.k = 2 then (if firstK x.name 0 l < 0 then (0, 5) else ((l.getD (firstK x.name 0 l).toNat default).kind, 0)) else (0, 0)
theorem plain_pu (x : EX) (u : V) (l : List KY) (hu : IsFz u (l.map KY.v)) (hl : l.length ≤ 30) : PuF D1 78 [x.v, u] (.tup [i64 (plainF x l).1, i64 (plainF x l).2]) := by
  have hk := firstK_lt x.name l 0
  refine PuF.tidy rfl rfl rfl rfl rfl fun h hf => ?_
  repeat' (first
      | refine WS.puF hf rfl rfl (key_pu u l hu hl x.name) ?_ | refine W.seq ?_ | refine W.region ?_ | refine WS.nil ?_ | refine W.skip ?_ | refine W.block ?_ | refine W.ret ?_ | refine W.exit ?_ | refine W.fork rfl (fun _ => ?_) (fun _ => ?_) | refine WS.near rfl o_mov rfl ?_ | refine WS.near rfl o_lss rfl ?_ | refine WS.near rfl o_eql rfl ?_ | refine WS.near rfl o_seql rfl ?_ | refine WS.near rfl o_faddr rfl ?_ | refine WS.near rfl o_loadF rfl ?_ | refine WS.near rfl (o_loadH rfl) rfl ?_ | refine WS.near rfl (o_boxH 0 rfl) rfl ?_ | refine WS.near rfl (o_add (by omega) (by omega)) rfl ?_ | refine WS.near rfl (o_faddrF (Nat.le_of_ble_eq_true rfl)) rfl ?_ | fail)
  · rename_i h1
    exact ⟨_, rfl, fin_tup2 (by simp [plainF, h1]) (by simp [plainF, h1])⟩
  · rename_i h1 h2
    exact ⟨_, rfl, fin_tup2 (by simp [plainF, h2]) (by simp [plainF, h2])⟩
  · rename_i h1 h2 h3
    exact ⟨_, rfl, fin_tup2 (by simp [plainF, h3]) (by simp [plainF, h3])⟩
  · rename_i h1 h2 h3 h4 h5
    exact ⟨_, rfl, fin_tup2 (by simp [plainF, h4, h5]) (by simp [plainF, h4, h5])⟩
  · rename_i h1 h2 h3 h4 h5
    refine WS.near rfl (o_iaddrZ (firstK x.name 0 l).toNat hu (by omega) (fz_at (d := default) _ (by omega)) rfl) rfl ?_
    repeat' (first
        | refine W.seq ?_ | refine W.region ?_ | refine WS.nil ?_ | refine W.skip ?_ | refine W.block ?_ | refine W.ret ?_ | refine W.exit ?_ | refine W.fork rfl (fun _ => ?_) (fun _ => ?_) | refine WS.near rfl o_mov rfl ?_ | refine WS.near rfl o_lss rfl ?_ | refine WS.near rfl o_eql rfl ?_ | refine WS.near rfl o_seql rfl ?_ | refine WS.near rfl o_faddr rfl ?_ | refine WS.near rfl o_loadF rfl ?_ | refine WS.near rfl (o_loadH rfl) rfl ?_ | refine WS.near rfl (o_boxH 0 rfl) rfl ?_ | refine WS.near rfl (o_add (by omega) (by omega)) rfl ?_ | refine WS.near rfl (o_faddrF (Nat.le_of_ble_eq_true rfl)) rfl ?_ | fail)
    exact ⟨_, rfl, fin_tup2 (by simp [plainF, h4, h5]) (by simp [plainF, h4, h5])⟩
  · rename_i h1 h2 h3 h4
    exact ⟨_, rfl, fin_tup2 (by simp [plainF, h1, h2, h3, h4]) (by simp [plainF, h1, h2, h3, h4])⟩
end Go.Proofs.YtfbikhkmamdjmaaDoor.CodesK
