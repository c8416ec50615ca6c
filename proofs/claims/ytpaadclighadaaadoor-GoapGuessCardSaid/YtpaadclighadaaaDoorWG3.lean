/- Plans: domains as the machine sees them; the place of a var. -/
import Derived.Test.YtpaadclighadaaaDoorWG2
namespace Go.Proofs.YtpaadclighadaaaDoor.CodesG
open Go Go.Ab Go.Goap
set_option maxHeartbeats 800000
set_option maxRecDepth 100000

/-! ### lists of whole numbers, shut or in memory -/

structure IntsAt (h : Heap) (v : V) (l : List Int) : Prop where
  row : h.row 1 v = some (intsV l)
  sl : v = .nilsl ∨ v = .esl ∨ (∃ c, v = .fsl (intsV l) c) ∨ ∃ id off len c, v = .msl id 1 off len c ∧ len = l.length
theorem IntsAt.shut {h : Heap} {v : V} {l : List Int} (i : IntsAt h v l) : IntsAt { h with floors := h.next :: h.floors } v l := ⟨i.row, i.sl⟩
theorem ints_len (l : List Int) : (intsV l).length = l.length := by simp [intsV]
theorem IntsAt.len {h : Heap} {v : V} {l : List Int} (i : IntsAt h v l) : lenOf v = some l.length := by
  rcases i.sl with rfl | rfl | ⟨c, rfl⟩ | ⟨id, off, len, c, rfl, rfl⟩
  · have := i.row
    simp only [Heap.row, Option.some.injEq] at this
    rw [← ints_len l, ← this]
    rfl
  · have := i.row
    simp only [Heap.row, Option.some.injEq] at this
    rw [← ints_len l, ← this]
    rfl
  · show some (intsV l).length = _
    rw [ints_len]
  · rfl
theorem o_lenA {h : Heap} {v : V} {l : List Int} (i : IntsAt h v l) : Does (.len 1 (.v v)) h (.int .i64 (l.length : Nat)) h := by
  refine ⟨?_⟩; rw [op1v]
  have hr := i.len
  rcases i.sl with rfl | rfl | ⟨c, rfl⟩ | ⟨id, off, len, c, rfl, rfl⟩ <;> (simp only [op1, ev, hr, if_true]; rfl)
theorem intsV_at {l : List Int} {n : Nat} (hn : n < l.length) : (intsV l)[n]? = some (.int .i64 (l.getD n 0)) := by simp [intsV, List.getD, List.getElem?_eq_getElem hn]
/-- the n-th of them -/
theorem o_at {h : Heap} {v : V} {l : List Int} {k : IntKind} {z : Int} (n : Nat) (i : IntsAt h v l) (hz : z = n) (hn : n < l.length) : ∃ a, Does (.iaddr 1 (.v v) (.v (.int k z))) h a h ∧ Does (.load 1 false (.v a)) h (.int .i64 (l.getD n 0)) h := by
  subst hz
  rcases i.sl with rfl | rfl | ⟨c, rfl⟩ | ⟨id, off, len, c, rfl, rfl⟩
  · have := i.len
    simp only [lenOf, Option.some.injEq] at this
    omega
  · have := i.len
    simp only [lenOf, Option.some.injEq] at this
    omega
  · exact ⟨_, o_iaddrF (v := .int .i64 (l.getD n 0)) rfl (intsV_at hn) rfl, o_loadF⟩
  · refine ⟨_, o_iaddrM rfl hn, ?_⟩
    have hr := i.row
    simp only [Heap.row, if_true] at hr
    split at hr
    · rename_i cs hcs
      split at hr
      · rename_i hle
        simp only [Nat.mul_one, Option.some.injEq] at hr hle
        rw [Nat.mul_one]
        have h1 : (cs.drop (off + n))[0]? = some (.int .i64 (l.getD n 0)) := by
          have h2 := intsV_at hn
          rw [← hr, List.getElem?_take_of_lt hn, List.getElem?_drop] at h2
          rw [List.getElem?_drop]
          exact h2
        cases hd : cs.drop (off + n) with
        | nil => rw [hd] at h1; cases h1
        | cons x r =>
          rw [hd] at h1
          cases h1
          exact o_load1 hcs hd
      · cases hr
    · cases hr
/-- old lists are as they were -/
theorem IntsAt.hp {h : Heap} {bs : List (Option (List V))} {v : V} {l : List Int} (hf : h.Fine) (i : IntsAt h v l) : IntsAt (hp h bs) v l := by
  refine ⟨?_, i.sl⟩
  have hr := i.row
  rcases i.sl with rfl | rfl | ⟨c, rfl⟩ | ⟨id, off, len, c, rfl, rfl⟩
  · exact hr
  · exact hr
  · exact hr
  · simp only [Heap.row, if_true] at hr ⊢
    split at hr
    · rename_i cs hcs
      rw [hp_old bs (cells_lt hcs) hf, hcs]
      exact hr
    · cases hr
theorem ints_shut {u : V} {l : List Int} {h : Heap} (hu : IsInts u l) : IntsAt h u l := by
  refine ⟨hu.row, ?_⟩
  rcases hu with ⟨rfl, rfl⟩ | ⟨rfl, rfl⟩ | ⟨rfl, _⟩
  · exact .inl rfl
  · exact .inr (.inl rfl)
  · exact .inr (.inr (.inl ⟨_, rfl⟩))

/-! ### domains -/

def varV (v : Var) : V := .agg [.str v.name, i64 v.low, i64 v.high]
def cdV (c : Cd) : V := .agg [.str c.name, i64 c.op, i64 c.n]
def mkV (m : Mk) : V := .agg [.str m.name, .bool m.add, i64 m.n]
structure AR where
  a : PAct
  nds : V
  mks : V
  hnd : IsFz nds (a.need.map cdV)
  hmk : IsFz mks (a.make.map mkV)
def AR.v (r : AR) : V := .agg [.str r.a.name, i64 r.a.cost, r.nds, r.mks]
structure DR where
  name : List Nat
  vars : List Var
  acts : List AR
  goal : List Cd
  vs : V
  acs : V
  gl : V
  hvs : IsFz vs (vars.map varV)
  has : IsFz acs (acts.map AR.v)
  hgl : IsFz gl (goal.map cdV)
def DR.cells (d : DR) : List V := [.str d.name, d.vs, d.acs, d.gl]
def DR.v (d : DR) : V := .agg d.cells
def DR.dom (d : DR) : Dom := ⟨d.name, d.vars, d.acts.map (·.a), d.goal⟩

theorem o_mkfn {f : Nat} {pre caps : List Opd} {h : Heap} : Does (.mkfn f pre caps) h (.fn f (pre.map vev) (caps.map vev)) h := ⟨rfl⟩
theorem o_loadA {n : Nat} {cs : List V} {h : Heap} (hn : Nat.beq (lenL cs) n = true) : Does (.load n true (.v (.fptr cs))) h (.agg cs) h := by
  have := Nat.eq_of_beq_eq_true hn
  rw [lenL_eq] at this
  subst this
  refine ⟨?_⟩; rw [op1v]
  simp [op1, ev, Heap.at, Go.Ab.part]
theorem fz_at {α : Type} {f : α → V} {l : List α} {d : α} (n : Nat) (hn : n < l.length) : (l.map f)[n]? = some (f (l.getD n d)) := by
  rw [List.getElem?_map, List.getElem?_eq_getElem hn]
  simp [List.getD, List.getElem?_eq_getElem hn]

def idxZ : Option Nat → Int
  | some i => (i : Nat)
  | none => -1
theorem varI_drop {vs : List Var} {s : List Nat} {i : Nat} (hi : i < vs.length) : varI (vs.drop i) s = if (vs.getD i default).name = s then some 0 else (varI (vs.drop (i + 1)) s).map (· + 1) := by
  rw [List.drop_eq_getElem_cons hi]
  simp only [varI, List.getD, List.getElem?_eq_getElem hi, Option.getD_some]

theorem same_pu (v : Var) (s : List Nat) (id : Nat) : PuC D1 63 [varV v, .mptr id 0] (.bool (decide (v.name = s))) (fun h => h.cellsOf id = some [.str s]) := by
  refine PuC.tidy (fun h hb => hb) rfl rfl rfl rfl rfl fun h hf hb => ?_
  repeat' (first
      | refine W.seq ?_ | refine W.region ?_ | refine WS.nil ?_ | refine W.skip ?_ | refine W.block ?_ | refine W.ret ?_ | refine W.exit ?_ | refine W.fork rfl (fun _ => ?_) (fun _ => ?_) | refine WS.near rfl o_mov rfl ?_ | refine WS.near rfl o_lss rfl ?_ | refine WS.near rfl o_seql rfl ?_ | refine WS.near rfl o_faddr rfl ?_ | refine WS.near rfl o_loadF rfl ?_ | refine WS.near rfl (o_loadH rfl) rfl ?_ | refine WS.near rfl (o_boxH 0 rfl) rfl ?_ | refine WS.near rfl (o_boxH 1 rfl) rfl ?_ | refine WS.near rfl (o_add (by omega) (by omega)) rfl ?_ | refine WS.near rfl (o_faddrF (Nat.le_of_ble_eq_true rfl)) rfl ?_)
  refine WS.near rfl (o_loadOld hf hb rfl) rfl ?_
  repeat' (first
      | refine W.seq ?_ | refine W.region ?_ | refine WS.nil ?_ | refine W.skip ?_ | refine W.block ?_ | refine W.ret ?_ | refine W.exit ?_ | refine W.fork rfl (fun _ => ?_) (fun _ => ?_) | refine WS.near rfl o_mov rfl ?_ | refine WS.near rfl o_lss rfl ?_ | refine WS.near rfl o_seql rfl ?_ | refine WS.near rfl o_faddr rfl ?_ | refine WS.near rfl o_loadF rfl ?_ | refine WS.near rfl (o_loadH rfl) rfl ?_ | refine WS.near rfl (o_boxH 0 rfl) rfl ?_ | refine WS.near rfl (o_boxH 1 rfl) rfl ?_ | refine WS.near rfl (o_add (by omega) (by omega)) rfl ?_ | refine WS.near rfl (o_faddrF (Nat.le_of_ble_eq_true rfl)) rfl ?_)
  exact ⟨_, rfl, fin_bool rfl⟩
theorem index_pu {u : V} {vs : List Var} {s : List Nat} {id : Nat} (hu : IsFz u (vs.map varV)) (hl : vs.length < 2 ^ 60) : PuC D1 62 [u, .fn 63 [] [.mptr id 0]] (.int .i64 (idxZ (varI vs s))) (fun h => h.cellsOf id = some [.str s]) := by
  refine PuC.tidy (fun h hb => hb) rfl rfl rfl rfl rfl fun h hf hb => ?_
  repeat' (first
      | refine WS.near rfl (o_lenZ hu) rfl ?_ | refine W.seq ?_ | refine W.region ?_ | refine WS.nil ?_ | refine W.skip ?_ | refine W.block ?_ | refine W.ret ?_ | refine W.exit ?_ | refine W.fork rfl (fun _ => ?_) (fun _ => ?_) | refine WS.near rfl o_mov rfl ?_ | refine WS.near rfl o_lss rfl ?_ | refine WS.near rfl o_seql rfl ?_ | refine WS.near rfl o_faddr rfl ?_ | refine WS.near rfl o_loadF rfl ?_ | refine WS.near rfl (o_loadH rfl) rfl ?_ | refine WS.near rfl (o_boxH 0 rfl) rfl ?_ | refine WS.near rfl (o_boxH 1 rfl) rfl ?_ | refine WS.near rfl (o_add (by omega) (by omega)) rfl ?_ | refine WS.near rfl (o_faddrF (Nat.le_of_ble_eq_true rfl)) rfl ?_)
  refine W.loop (fun i : Nat => [(0, u), (1, .fn 63 [] [.mptr id 0]), (4, .int .i64 ((vs.map varV).length : Nat)), (5, .int .i64 (i : Nat))]) (fun _ => hp h []) (fun i => i ≤ vs.length ∧ varI vs s = (varI (vs.drop i) s).map (· + i)) (fun i => vs.length - i)
    0 ⟨Nat.zero_le _, by rw [List.drop_zero]; cases varI vs s <;> rfl⟩ ⟨rfl, rfl, rfl, rfl, trivial⟩ rfl ?_
  rintro i ⟨hi, hv⟩
  have hml : (vs.map varV).length = vs.length := List.length_map ..
  repeat' (first
      | refine W.seq ?_ | refine W.region ?_ | refine WS.nil ?_ | refine W.skip ?_ | refine W.block ?_ | refine W.ret ?_ | refine W.exit ?_ | refine W.fork rfl (fun _ => ?_) (fun _ => ?_) | refine WS.near rfl o_mov rfl ?_ | refine WS.near rfl o_lss rfl ?_ | refine WS.near rfl o_seql rfl ?_ | refine WS.near rfl o_faddr rfl ?_ | refine WS.near rfl o_loadF rfl ?_ | refine WS.near rfl (o_loadH rfl) rfl ?_ | refine WS.near rfl (o_boxH 0 rfl) rfl ?_ | refine WS.near rfl (o_boxH 1 rfl) rfl ?_ | refine WS.near rfl (o_add (by omega) (by omega)) rfl ?_ | refine WS.near rfl (o_faddrF (Nat.le_of_ble_eq_true rfl)) rfl ?_)
  · have hlt : i < vs.length := by omega
    rw [varI_drop hlt] at hv
    refine WS.near rfl (o_iaddrZ i hu rfl (fz_at (d := default) i hlt) rfl) rfl ?_
    repeat' (first
        | refine WS.near rfl (o_loadA rfl) rfl ?_ | refine W.seq ?_ | refine W.region ?_ | refine WS.nil ?_ | refine W.skip ?_ | refine W.block ?_ | refine W.ret ?_ | refine W.exit ?_ | refine W.fork rfl (fun _ => ?_) (fun _ => ?_) | refine WS.near rfl o_mov rfl ?_ | refine WS.near rfl o_lss rfl ?_ | refine WS.near rfl o_seql rfl ?_ | refine WS.near rfl o_faddr rfl ?_ | refine WS.near rfl o_loadF rfl ?_ | refine WS.near rfl (o_loadH rfl) rfl ?_ | refine WS.near rfl (o_boxH 0 rfl) rfl ?_ | refine WS.near rfl (o_boxH 1 rfl) rfl ?_ | refine WS.near rfl (o_add (by omega) (by omega)) rfl ?_ | refine WS.near rfl (o_faddrF (Nat.le_of_ble_eq_true rfl)) rfl ?_)
    refine WS.callv (C := fun v h' => v = .bool (decide ((vs.getD i default).name = s)) ∧ h' = hp h []) rfl rfl rfl rfl (same_pu (vs.getD i default) s id _ (hp_fine hf) (by rw [hp_nil]; exact hb)) fun v h' hc => ?_
    obtain ⟨rfl, rfl⟩ := hc
    repeat' (first
        | refine W.seq ?_ | refine W.region ?_ | refine WS.nil ?_ | refine W.skip ?_ | refine W.block ?_ | refine W.ret ?_ | refine W.exit ?_ | refine W.fork rfl (fun _ => ?_) (fun _ => ?_) | refine WS.near rfl o_mov rfl ?_ | refine WS.near rfl o_lss rfl ?_ | refine WS.near rfl o_seql rfl ?_ | refine WS.near rfl o_faddr rfl ?_ | refine WS.near rfl o_loadF rfl ?_ | refine WS.near rfl (o_loadH rfl) rfl ?_ | refine WS.near rfl (o_boxH 0 rfl) rfl ?_ | refine WS.near rfl (o_boxH 1 rfl) rfl ?_ | refine WS.near rfl (o_add (by omega) (by omega)) rfl ?_ | refine WS.near rfl (o_faddrF (Nat.le_of_ble_eq_true rfl)) rfl ?_)
    · rename_i he
      rw [if_pos he] at hv
      exact ⟨_, rfl, fin_int (by rw [hv]; simp [idxZ])⟩
    · rename_i he
      rw [if_neg he] at hv
      have e1 : (i : Int) + 1 = ((i + 1 : Nat) : Int) := by omega
      refine ⟨i + 1, ⟨by omega, ?_⟩, by show vs.length - (i + 1) < vs.length - i; omega, ⟨rfl, rfl, rfl, congrArg (fun z => some (V.int .i64 z)) e1, trivial⟩, rfl⟩
      rw [hv]
      cases varI (vs.drop (i + 1)) s with
      | none => rfl
      | some j => simp only [Option.map_some, Option.some.injEq]; omega
  · have hge : vs.drop i = [] := List.drop_eq_nil_of_le (by omega)
    rw [hge] at hv
    exact ⟨_, rfl, fin_int (by rw [hv]; rfl)⟩
theorem variable_pu (d : DR) (s : List Nat) (hl : d.vars.length < 2 ^ 60) : PuF D1 32 [d.v, .str s] (.int .i64 (idxZ (varI d.vars s))) := by
  refine PuF.tidy rfl rfl rfl rfl rfl fun h hf => ?_
  repeat' (first
      | refine WS.near rfl o_mkfn rfl ?_ | refine W.seq ?_ | refine W.region ?_ | refine WS.nil ?_ | refine W.skip ?_ | refine W.block ?_ | refine W.ret ?_ | refine W.exit ?_ | refine W.fork rfl (fun _ => ?_) (fun _ => ?_) | refine WS.near rfl o_mov rfl ?_ | refine WS.near rfl o_lss rfl ?_ | refine WS.near rfl o_seql rfl ?_ | refine WS.near rfl o_faddr rfl ?_ | refine WS.near rfl o_loadF rfl ?_ | refine WS.near rfl (o_loadH rfl) rfl ?_ | refine WS.near rfl (o_boxH 0 rfl) rfl ?_ | refine WS.near rfl (o_boxH 1 rfl) rfl ?_ | refine WS.near rfl (o_add (by omega) (by omega)) rfl ?_ | refine WS.near rfl (o_faddrF (Nat.le_of_ble_eq_true rfl)) rfl ?_)
  refine WS.puC hf (by rw [hp_cells]; rfl) rfl rfl (index_pu (id := h.next + 1) d.hvs hl) ?_
  repeat' (first
      | refine W.seq ?_ | refine W.region ?_ | refine WS.nil ?_ | refine W.skip ?_ | refine W.block ?_ | refine W.ret ?_ | refine W.exit ?_ | refine W.fork rfl (fun _ => ?_) (fun _ => ?_) | refine WS.near rfl o_mov rfl ?_ | refine WS.near rfl o_lss rfl ?_ | refine WS.near rfl o_seql rfl ?_ | refine WS.near rfl o_faddr rfl ?_ | refine WS.near rfl o_loadF rfl ?_ | refine WS.near rfl (o_loadH rfl) rfl ?_ | refine WS.near rfl (o_boxH 0 rfl) rfl ?_ | refine WS.near rfl (o_boxH 1 rfl) rfl ?_ | refine WS.near rfl (o_add (by omega) (by omega)) rfl ?_ | refine WS.near rfl (o_faddrF (Nat.le_of_ble_eq_true rfl)) rfl ?_)
  exact ⟨_, rfl, fin_int rfl⟩
theorem variableR_pu (d : DR) (s : List Nat) (hl : d.vars.length < 2 ^ 60) : PuF D1 37 [d.v, .str s] (.int .i64 (idxZ (varI d.vars s))) := by
  refine PuF.tidy rfl rfl rfl rfl rfl fun h hf => ?_
  repeat' (first
      | refine W.seq ?_ | refine W.region ?_ | refine WS.nil ?_ | refine W.skip ?_ | refine W.block ?_ | refine W.ret ?_ | refine W.exit ?_ | refine W.fork rfl (fun _ => ?_) (fun _ => ?_) | refine WS.near rfl o_mov rfl ?_ | refine WS.near rfl o_lss rfl ?_ | refine WS.near rfl o_seql rfl ?_ | refine WS.near rfl o_faddr rfl ?_ | refine WS.near rfl o_loadF rfl ?_ | refine WS.near rfl (o_loadH rfl) rfl ?_ | refine WS.near rfl (o_boxH 0 rfl) rfl ?_ | refine WS.near rfl (o_boxH 1 rfl) rfl ?_ | refine WS.near rfl (o_add (by omega) (by omega)) rfl ?_ | refine WS.near rfl (o_faddrF (Nat.le_of_ble_eq_true rfl)) rfl ?_)
  refine W.loop (fun i : Nat => [(1, .str s), (2, .mptr (h.next + 0) 0), (4, .int .i64 (i : Nat))]) (fun _ => hp h [some d.cells]) (fun i => i ≤ d.vars.length ∧ varI d.vars s = (varI (d.vars.drop i) s).map (· + i)) (fun i => d.vars.length - i)
    0 ⟨Nat.zero_le _, by rw [List.drop_zero]; cases varI d.vars s <;> rfl⟩ ⟨rfl, rfl, rfl, trivial⟩ rfl ?_
  rintro i ⟨hi, hv⟩
  have hml : (d.vars.map varV).length = d.vars.length := List.length_map ..
  repeat' (first
      | refine WS.near rfl (o_lenZ d.hvs) rfl ?_ | refine W.seq ?_ | refine W.region ?_ | refine WS.nil ?_ | refine W.skip ?_ | refine W.block ?_ | refine W.ret ?_ | refine W.exit ?_ | refine W.fork rfl (fun _ => ?_) (fun _ => ?_) | refine WS.near rfl o_mov rfl ?_ | refine WS.near rfl o_lss rfl ?_ | refine WS.near rfl o_seql rfl ?_ | refine WS.near rfl o_faddr rfl ?_ | refine WS.near rfl o_loadF rfl ?_ | refine WS.near rfl (o_loadH rfl) rfl ?_ | refine WS.near rfl (o_boxH 0 rfl) rfl ?_ | refine WS.near rfl (o_boxH 1 rfl) rfl ?_ | refine WS.near rfl (o_add (by omega) (by omega)) rfl ?_ | refine WS.near rfl (o_faddrF (Nat.le_of_ble_eq_true rfl)) rfl ?_)
  · have hlt : i < d.vars.length := by omega
    rw [varI_drop hlt] at hv
    refine WS.near rfl (o_iaddrZ i d.hvs rfl (fz_at (d := default) i hlt) rfl) rfl ?_
    repeat' (first
        | refine W.seq ?_ | refine W.region ?_ | refine WS.nil ?_ | refine W.skip ?_ | refine W.block ?_ | refine W.ret ?_ | refine W.exit ?_ | refine W.fork rfl (fun _ => ?_) (fun _ => ?_) | refine WS.near rfl o_mov rfl ?_ | refine WS.near rfl o_lss rfl ?_ | refine WS.near rfl o_seql rfl ?_ | refine WS.near rfl o_faddr rfl ?_ | refine WS.near rfl o_loadF rfl ?_ | refine WS.near rfl (o_loadH rfl) rfl ?_ | refine WS.near rfl (o_boxH 0 rfl) rfl ?_ | refine WS.near rfl (o_boxH 1 rfl) rfl ?_ | refine WS.near rfl (o_add (by omega) (by omega)) rfl ?_ | refine WS.near rfl (o_faddrF (Nat.le_of_ble_eq_true rfl)) rfl ?_)
    · rename_i he
      rw [if_pos he] at hv
      exact ⟨_, rfl, fin_int (by rw [hv]; simp [idxZ])⟩
    · rename_i he
      rw [if_neg he] at hv
      have e1 : (i : Int) + 1 = ((i + 1 : Nat) : Int) := by omega
      refine ⟨i + 1, ⟨by omega, ?_⟩, by show d.vars.length - (i + 1) < d.vars.length - i; omega, ⟨rfl, rfl, congrArg (fun z => some (V.int .i64 z)) e1, trivial⟩, rfl⟩
      rw [hv]
      cases varI (d.vars.drop (i + 1)) s with
      | none => rfl
      | some j => simp only [Option.map_some, Option.some.injEq]; omega
  · have hge : d.vars.drop i = [] := List.drop_eq_nil_of_le (by omega)
    rw [hge] at hv
    exact ⟨_, rfl, fin_int (by rw [hv]; rfl)⟩
end Go.Proofs.YtpaadclighadaaaDoor.CodesG
