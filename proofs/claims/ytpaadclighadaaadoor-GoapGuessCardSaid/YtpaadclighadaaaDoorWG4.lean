/- Plans: conditions. -/
import Derived.Test.YtpaadclighadaaaDoorWG3
namespace Go.Proofs.YtpaadclighadaaaDoor.CodesG
open Go Go.Ab Go.Goap
set_option maxHeartbeats 800000
set_option maxRecDepth 100000

theorem o_notB {b : Bool} {h : Heap} : Does (.un .not (.v (.bool b))) h (.bool (!b)) h := ⟨rfl⟩
theorem o_loadOldN {h0 : Heap} {bs : List (Option (List V))} (hf : h0.Fine) {id off n : Nat} {l : List V} (e : h0.cellsOf id = some l) (hn : off + n ≤ l.length) : Does (.load n true (.v (.mptr id off))) (hp h0 bs) (.agg ((l.drop off).take n)) (hp h0 bs) :=
  o_loadN ((hp_old bs (cells_lt e) hf).trans e) hn

theorem holds_pu (d : DR) (c : Cd) {v : V} {l : List Int} (hl : d.vars.length < 2 ^ 60) (hll : l.length = d.vars.length) : PuC D1 61 [d.v, v, cdV c] (.bool (holdsF d.vars l c)) (fun h => IntsAt h v l) := by
  refine PuC.tidy (fun h hb => hb.shut) rfl rfl rfl rfl rfl fun h hf hb => ?_
  have hvp := variable_pu d c.name hl
  repeat' (first
      | refine W.seq ?_ | refine W.region ?_ | refine WS.nil ?_ | refine W.skip ?_ | refine W.block ?_ | refine W.ret ?_ | refine W.exit ?_ | refine W.yes rfl rfl ?_ | refine W.no rfl rfl ?_ | refine W.fork rfl (fun _ => ?_) (fun _ => ?_) | refine WS.guardT rfl ?_ | refine WS.guardF rfl rfl rfl ?_ | refine WS.guardK rfl (fun _ => ?_) (fun _ => ?_) | refine WS.near rfl o_mov rfl ?_ | refine WS.near rfl o_pickT rfl ?_ | refine WS.near rfl o_pickF rfl ?_ | refine WS.near rfl o_notT rfl ?_ | refine WS.near rfl o_notF rfl ?_ | refine WS.near rfl o_lss rfl ?_ | refine WS.near rfl o_leq rfl ?_ | refine WS.near rfl o_geq rfl ?_ | refine WS.near rfl o_eql rfl ?_ | refine WS.near rfl o_faddr rfl ?_ | refine WS.near rfl (o_loadH rfl) rfl ?_ | refine WS.near rfl (o_loadHN rfl rfl) rfl ?_ | refine WS.near rfl (o_boxH 0 rfl) rfl ?_ | refine WS.near rfl (o_boxH 1 rfl) rfl ?_
      | refine WS.near rfl (o_add (by omega) (by omega)) rfl ?_)
  refine WS.puF hf rfl rfl hvp ?_
  cases hv : varI d.vars c.name with
  | none =>
    repeat' (first
        | refine W.seq ?_ | refine W.region ?_ | refine WS.nil ?_ | refine W.skip ?_ | refine W.block ?_ | refine W.ret ?_ | refine W.exit ?_ | refine W.yes rfl rfl ?_ | refine W.no rfl rfl ?_ | refine W.fork rfl (fun _ => ?_) (fun _ => ?_) | refine WS.guardT rfl ?_ | refine WS.guardF rfl rfl rfl ?_ | refine WS.guardK rfl (fun _ => ?_) (fun _ => ?_) | refine WS.near rfl o_mov rfl ?_ | refine WS.near rfl o_pickT rfl ?_ | refine WS.near rfl o_pickF rfl ?_ | refine WS.near rfl o_notT rfl ?_ | refine WS.near rfl o_notF rfl ?_ | refine WS.near rfl o_lss rfl ?_ | refine WS.near rfl o_leq rfl ?_ | refine WS.near rfl o_geq rfl ?_ | refine WS.near rfl o_eql rfl ?_ | refine WS.near rfl o_faddr rfl ?_ | refine WS.near rfl (o_loadH rfl) rfl ?_ | refine WS.near rfl (o_loadHN rfl rfl) rfl ?_ | refine WS.near rfl (o_boxH 0 rfl) rfl ?_ | refine WS.near rfl (o_boxH 1 rfl) rfl ?_
        | refine WS.near rfl (o_add (by omega) (by omega)) rfl ?_)
    exact ⟨_, rfl, fin_bool (by unfold holdsF; rw [hv])⟩
  | some i =>
    have hi := (varI_lt hv).1
    have hres : holdsF d.vars l c = cmpF c.op (l.getD i 0) c.n := by unfold holdsF; rw [hv]
    obtain ⟨a, d1, d2⟩ := o_at (h := hp h [some d.cells, some [.str c.name, i64 c.op, i64 c.n]]) (k := .i64) i (hb.hp hf) rfl (by omega)
    repeat' (first
        | refine WS.near rfl d1 rfl ?_ | refine WS.near rfl d2 rfl ?_ | refine W.seq ?_ | refine W.region ?_ | refine WS.nil ?_ | refine W.skip ?_ | refine W.block ?_ | refine W.ret ?_ | refine W.exit ?_ | refine W.yes rfl rfl ?_ | refine W.no rfl rfl ?_ | refine W.fork rfl (fun _ => ?_) (fun _ => ?_) | refine WS.guardT rfl ?_ | refine WS.guardF rfl rfl rfl ?_ | refine WS.guardK rfl (fun _ => ?_) (fun _ => ?_) | refine WS.near rfl o_mov rfl ?_ | refine WS.near rfl o_pickT rfl ?_ | refine WS.near rfl o_pickF rfl ?_ | refine WS.near rfl o_notT rfl ?_ | refine WS.near rfl o_notF rfl ?_ | refine WS.near rfl o_lss rfl ?_ | refine WS.near rfl o_leq rfl ?_ | refine WS.near rfl o_geq rfl ?_ | refine WS.near rfl o_eql rfl ?_ | refine WS.near rfl o_faddr rfl ?_ | refine WS.near rfl (o_loadH rfl) rfl ?_ | refine WS.near rfl (o_loadHN rfl rfl) rfl ?_ | refine WS.near rfl (o_boxH 0 rfl) rfl ?_
        | refine WS.near rfl (o_boxH 1 rfl) rfl ?_ | refine WS.near rfl (o_add (by omega) (by omega)) rfl ?_)
    all_goals exact ⟨_, rfl, fin_bool (by rw [hres]; unfold cmpF; simp_all)⟩
theorem holdsR_pu (d : DR) (c : Cd) {v : V} {l : List Int} (hl : d.vars.length < 2 ^ 60) (hll : l.length = d.vars.length) : PuC D1 40 [d.v, v, cdV c] (.bool (holdsF d.vars l c)) (fun h => IntsAt h v l) := by
  refine PuC.tidy (fun h hb => hb.shut) rfl rfl rfl rfl rfl fun h hf hb => ?_
  have hvp := variableR_pu d c.name hl
  repeat' (first
      | refine W.seq ?_ | refine W.region ?_ | refine WS.nil ?_ | refine W.skip ?_ | refine W.block ?_ | refine W.ret ?_ | refine W.exit ?_ | refine W.yes rfl rfl ?_ | refine W.no rfl rfl ?_ | refine W.fork rfl (fun _ => ?_) (fun _ => ?_) | refine WS.guardT rfl ?_ | refine WS.guardF rfl rfl rfl ?_ | refine WS.guardK rfl (fun _ => ?_) (fun _ => ?_) | refine WS.near rfl o_mov rfl ?_ | refine WS.near rfl o_pickT rfl ?_ | refine WS.near rfl o_pickF rfl ?_ | refine WS.near rfl o_notT rfl ?_ | refine WS.near rfl o_notF rfl ?_ | refine WS.near rfl o_lss rfl ?_ | refine WS.near rfl o_leq rfl ?_ | refine WS.near rfl o_geq rfl ?_ | refine WS.near rfl o_eql rfl ?_ | refine WS.near rfl o_faddr rfl ?_ | refine WS.near rfl (o_loadH rfl) rfl ?_ | refine WS.near rfl (o_loadHN rfl rfl) rfl ?_ | refine WS.near rfl (o_boxH 0 rfl) rfl ?_ | refine WS.near rfl (o_boxH 1 rfl) rfl ?_
      | refine WS.near rfl (o_add (by omega) (by omega)) rfl ?_)
  refine WS.puF hf rfl rfl hvp ?_
  cases hv : varI d.vars c.name with
  | none =>
    repeat' (first
        | refine W.seq ?_ | refine W.region ?_ | refine WS.nil ?_ | refine W.skip ?_ | refine W.block ?_ | refine W.ret ?_ | refine W.exit ?_ | refine W.yes rfl rfl ?_ | refine W.no rfl rfl ?_ | refine W.fork rfl (fun _ => ?_) (fun _ => ?_) | refine WS.guardT rfl ?_ | refine WS.guardF rfl rfl rfl ?_ | refine WS.guardK rfl (fun _ => ?_) (fun _ => ?_) | refine WS.near rfl o_mov rfl ?_ | refine WS.near rfl o_pickT rfl ?_ | refine WS.near rfl o_pickF rfl ?_ | refine WS.near rfl o_notT rfl ?_ | refine WS.near rfl o_notF rfl ?_ | refine WS.near rfl o_lss rfl ?_ | refine WS.near rfl o_leq rfl ?_ | refine WS.near rfl o_geq rfl ?_ | refine WS.near rfl o_eql rfl ?_ | refine WS.near rfl o_faddr rfl ?_ | refine WS.near rfl (o_loadH rfl) rfl ?_ | refine WS.near rfl (o_loadHN rfl rfl) rfl ?_ | refine WS.near rfl (o_boxH 0 rfl) rfl ?_ | refine WS.near rfl (o_boxH 1 rfl) rfl ?_
        | refine WS.near rfl (o_add (by omega) (by omega)) rfl ?_)
    · exact ⟨_, rfl, fin_bool (by unfold holdsF; rw [hv])⟩
    all_goals rename_i hn _; exact absurd (by decide) hn
  | some i =>
    have hi := (varI_lt hv).1
    have hres : holdsF d.vars l c = cmpF c.op (l.getD i 0) c.n := by unfold holdsF; rw [hv]
    obtain ⟨a, d1, d2⟩ := o_at (h := hp h [some d.cells, some [.str c.name, i64 c.op, i64 c.n]]) (k := .i64) i (hb.hp hf) rfl (by omega)
    repeat' (first
        | refine WS.near rfl d1 rfl ?_ | refine WS.near rfl d2 rfl ?_ | refine W.seq ?_ | refine W.region ?_ | refine WS.nil ?_ | refine W.skip ?_ | refine W.block ?_ | refine W.ret ?_ | refine W.exit ?_ | refine W.yes rfl rfl ?_ | refine W.no rfl rfl ?_ | refine W.fork rfl (fun _ => ?_) (fun _ => ?_) | refine WS.guardT rfl ?_ | refine WS.guardF rfl rfl rfl ?_ | refine WS.guardK rfl (fun _ => ?_) (fun _ => ?_) | refine WS.near rfl o_mov rfl ?_ | refine WS.near rfl o_pickT rfl ?_ | refine WS.near rfl o_pickF rfl ?_ | refine WS.near rfl o_notT rfl ?_ | refine WS.near rfl o_notF rfl ?_ | refine WS.near rfl o_lss rfl ?_ | refine WS.near rfl o_leq rfl ?_ | refine WS.near rfl o_geq rfl ?_ | refine WS.near rfl o_eql rfl ?_ | refine WS.near rfl o_faddr rfl ?_ | refine WS.near rfl (o_loadH rfl) rfl ?_ | refine WS.near rfl (o_loadHN rfl rfl) rfl ?_ | refine WS.near rfl (o_boxH 0 rfl) rfl ?_
        | refine WS.near rfl (o_boxH 1 rfl) rfl ?_ | refine WS.near rfl (o_add (by omega) (by omega)) rfl ?_)
    all_goals exact ⟨_, rfl, fin_bool (by rw [hres]; unfold cmpF; simp_all)⟩

/-! ### all conditions -/

def firstI (p : Cd → Bool) : List Cd → Option Nat
  | [] => none
  | c :: r => if p c = true then some 0 else (firstI p r).map (· + 1)
theorem firstI_drop {p : Cd → Bool} {l : List Cd} {i : Nat} (hi : i < l.length) : firstI p (l.drop i) = if p (l.getD i ⟨[], 0, 0⟩) = true then some 0 else (firstI p (l.drop (i + 1))).map (· + 1) := by
  rw [List.drop_eq_getElem_cons hi]
  simp only [firstI, List.getD, List.getElem?_eq_getElem hi, Option.getD_some]
theorem firstI_iff {p : Cd → Bool} : ∀ l : List Cd, 0 ≤ idxZ (firstI p l) ↔ l.any p = true
  | [] => by simp [firstI, idxZ]
  | c :: r => by
    have ih := firstI_iff (p := p) r
    simp only [firstI, List.any_cons]
    by_cases hp : p c = true
    · rw [if_pos hp, hp]; simp [idxZ]
    · rw [if_neg hp, (by simpa using hp : p c = false), Bool.false_or, ← ih]
      cases firstI p r with
      | none => simp [idxZ]
      | some j => simp [idxZ]; omega
theorem firstI_any {p : Cd → Bool} (l : List Cd) : decide (0 ≤ idxZ (firstI p l)) = l.any p := by
  rw [Bool.eq_iff_iff, decide_eq_true_iff]
  exact firstI_iff l

structure AllPre (d : DR) (v : V) (l : List Int) (b1 b2 : Nat) (h : Heap) : Prop where
  dom : h.cellsOf b1 = some d.cells
  at0 : h.cellsOf b2 = some [v]
  ints : IntsAt h v l
theorem notHolds_pu (d : DR) (c : Cd) {v : V} {l : List Int} (b1 b2 : Nat) (hl : d.vars.length < 2 ^ 60) (hll : l.length = d.vars.length) : PuC D1 60 [cdV c, .mptr b1 0, .mptr b2 0] (.bool (!holdsF d.vars l c)) (AllPre d v l b1 b2) := by
  refine PuC.tidy (fun h hb => ⟨hb.dom, hb.at0, hb.ints.shut⟩) rfl rfl rfl rfl rfl fun h hf hb => ?_
  repeat' (first
      | refine W.seq ?_ | refine W.region ?_ | refine WS.nil ?_ | refine W.skip ?_ | refine W.block ?_ | refine W.ret ?_ | refine W.exit ?_ | refine W.yes rfl rfl ?_ | refine W.no rfl rfl ?_ | refine W.fork rfl (fun _ => ?_) (fun _ => ?_) | refine WS.guardT rfl ?_ | refine WS.guardF rfl rfl rfl ?_ | refine WS.guardK rfl (fun _ => ?_) (fun _ => ?_) | refine WS.near rfl o_mov rfl ?_ | refine WS.near rfl o_pickT rfl ?_ | refine WS.near rfl o_pickF rfl ?_ | refine WS.near rfl o_notT rfl ?_ | refine WS.near rfl o_notF rfl ?_ | refine WS.near rfl o_lss rfl ?_ | refine WS.near rfl o_leq rfl ?_ | refine WS.near rfl o_geq rfl ?_ | refine WS.near rfl o_eql rfl ?_ | refine WS.near rfl o_faddr rfl ?_ | refine WS.near rfl (o_loadH rfl) rfl ?_ | refine WS.near rfl (o_loadHN rfl rfl) rfl ?_ | refine WS.near rfl (o_boxH 0 rfl) rfl ?_ | refine WS.near rfl (o_boxH 1 rfl) rfl ?_
      | refine WS.near rfl (o_add (by omega) (by omega)) rfl ?_)
  refine WS.near rfl (o_loadOldN hf hb.dom (Nat.le_refl _)) rfl ?_
  refine WS.near rfl (o_loadOld hf hb.at0 rfl) rfl ?_
  repeat' (first
      | refine W.seq ?_ | refine W.region ?_ | refine WS.nil ?_ | refine W.skip ?_ | refine W.block ?_ | refine W.ret ?_ | refine W.exit ?_ | refine W.yes rfl rfl ?_ | refine W.no rfl rfl ?_ | refine W.fork rfl (fun _ => ?_) (fun _ => ?_) | refine WS.guardT rfl ?_ | refine WS.guardF rfl rfl rfl ?_ | refine WS.guardK rfl (fun _ => ?_) (fun _ => ?_) | refine WS.near rfl o_mov rfl ?_ | refine WS.near rfl o_pickT rfl ?_ | refine WS.near rfl o_pickF rfl ?_ | refine WS.near rfl o_notT rfl ?_ | refine WS.near rfl o_notF rfl ?_ | refine WS.near rfl o_lss rfl ?_ | refine WS.near rfl o_leq rfl ?_ | refine WS.near rfl o_geq rfl ?_ | refine WS.near rfl o_eql rfl ?_ | refine WS.near rfl o_faddr rfl ?_ | refine WS.near rfl (o_loadH rfl) rfl ?_ | refine WS.near rfl (o_loadHN rfl rfl) rfl ?_ | refine WS.near rfl (o_boxH 0 rfl) rfl ?_ | refine WS.near rfl (o_boxH 1 rfl) rfl ?_
      | refine WS.near rfl (o_add (by omega) (by omega)) rfl ?_)
  refine WS.puC hf (hb.ints.hp hf) rfl rfl (holds_pu d c hl hll) ?_
  repeat' (first
      | refine WS.near rfl o_notB rfl ?_ | refine W.seq ?_ | refine W.region ?_ | refine WS.nil ?_ | refine W.skip ?_ | refine W.block ?_ | refine W.ret ?_ | refine W.exit ?_ | refine W.yes rfl rfl ?_ | refine W.no rfl rfl ?_ | refine W.fork rfl (fun _ => ?_) (fun _ => ?_) | refine WS.guardT rfl ?_ | refine WS.guardF rfl rfl rfl ?_ | refine WS.guardK rfl (fun _ => ?_) (fun _ => ?_) | refine WS.near rfl o_mov rfl ?_ | refine WS.near rfl o_pickT rfl ?_ | refine WS.near rfl o_pickF rfl ?_ | refine WS.near rfl o_notT rfl ?_ | refine WS.near rfl o_notF rfl ?_ | refine WS.near rfl o_lss rfl ?_ | refine WS.near rfl o_leq rfl ?_ | refine WS.near rfl o_geq rfl ?_ | refine WS.near rfl o_eql rfl ?_ | refine WS.near rfl o_faddr rfl ?_ | refine WS.near rfl (o_loadH rfl) rfl ?_ | refine WS.near rfl (o_loadHN rfl rfl) rfl ?_ | refine WS.near rfl (o_boxH 0 rfl) rfl ?_
      | refine WS.near rfl (o_boxH 1 rfl) rfl ?_ | refine WS.near rfl (o_add (by omega) (by omega)) rfl ?_)
  exact ⟨_, rfl, fin_bool rfl⟩
theorem AllPre.hp {d : DR} {v : V} {l : List Int} {b1 b2 : Nat} {h : Heap} {bs : List (Option (List V))} (hf : h.Fine) (i : AllPre d v l b1 b2 h) : AllPre d v l b1 b2 (hp h bs) :=
  ⟨(hp_old bs (cells_lt i.dom) hf).trans i.dom, (hp_old bs (cells_lt i.at0) hf).trans i.at0, i.ints.hp hf⟩
theorem indexC_pu (d : DR) {u v : V} {cs : List Cd} {l : List Int} (b1 b2 : Nat) (hu : IsFz u (cs.map cdV)) (hc : cs.length < 2 ^ 60) (hl : d.vars.length < 2 ^ 60) (hll : l.length = d.vars.length) :
    PuC D1 115 [u, .fn 60 [] [.mptr b1 0, .mptr b2 0]] (.int .i64 (idxZ (firstI (fun c => !holdsF d.vars l c) cs))) (AllPre d v l b1 b2) := by
  refine PuC.tidy (fun h hb => ⟨hb.dom, hb.at0, hb.ints.shut⟩) rfl rfl rfl rfl rfl fun h hf hb => ?_
  repeat' (first
      | refine WS.near rfl (o_lenZ hu) rfl ?_ | refine W.seq ?_ | refine W.region ?_ | refine WS.nil ?_ | refine W.skip ?_ | refine W.block ?_ | refine W.ret ?_ | refine W.exit ?_ | refine W.yes rfl rfl ?_ | refine W.no rfl rfl ?_ | refine W.fork rfl (fun _ => ?_) (fun _ => ?_) | refine WS.guardT rfl ?_ | refine WS.guardF rfl rfl rfl ?_ | refine WS.guardK rfl (fun _ => ?_) (fun _ => ?_) | refine WS.near rfl o_mov rfl ?_ | refine WS.near rfl o_pickT rfl ?_ | refine WS.near rfl o_pickF rfl ?_ | refine WS.near rfl o_notT rfl ?_ | refine WS.near rfl o_notF rfl ?_ | refine WS.near rfl o_lss rfl ?_ | refine WS.near rfl o_leq rfl ?_ | refine WS.near rfl o_geq rfl ?_ | refine WS.near rfl o_eql rfl ?_ | refine WS.near rfl o_faddr rfl ?_ | refine WS.near rfl (o_loadH rfl) rfl ?_ | refine WS.near rfl (o_loadHN rfl rfl) rfl ?_ | refine WS.near rfl (o_boxH 0 rfl) rfl ?_
      | refine WS.near rfl (o_boxH 1 rfl) rfl ?_ | refine WS.near rfl (o_add (by omega) (by omega)) rfl ?_)
  refine W.loop (fun i : Nat => [(0, u), (1, .fn 60 [] [.mptr b1 0, .mptr b2 0]), (4, .int .i64 ((cs.map cdV).length : Nat)), (5, .int .i64 (i : Nat))]) (fun _ => Go.Ab.hp h []) (fun i => i ≤ cs.length ∧ firstI (fun c => !holdsF d.vars l c) cs = (firstI (fun c => !holdsF d.vars l c) (cs.drop i)).map (· + i)) (fun i => cs.length - i)
    0 ⟨Nat.zero_le _, by rw [List.drop_zero]; cases firstI (fun c => !holdsF d.vars l c) cs <;> rfl⟩ ⟨rfl, rfl, rfl, rfl, trivial⟩ rfl ?_
  rintro i ⟨hi, hv⟩
  have hml : (cs.map cdV).length = cs.length := List.length_map ..
  repeat' (first
      | refine W.seq ?_ | refine W.region ?_ | refine WS.nil ?_ | refine W.skip ?_ | refine W.block ?_ | refine W.ret ?_ | refine W.exit ?_ | refine W.yes rfl rfl ?_ | refine W.no rfl rfl ?_ | refine W.fork rfl (fun _ => ?_) (fun _ => ?_) | refine WS.guardT rfl ?_ | refine WS.guardF rfl rfl rfl ?_ | refine WS.guardK rfl (fun _ => ?_) (fun _ => ?_) | refine WS.near rfl o_mov rfl ?_ | refine WS.near rfl o_pickT rfl ?_ | refine WS.near rfl o_pickF rfl ?_ | refine WS.near rfl o_notT rfl ?_ | refine WS.near rfl o_notF rfl ?_ | refine WS.near rfl o_lss rfl ?_ | refine WS.near rfl o_leq rfl ?_ | refine WS.near rfl o_geq rfl ?_ | refine WS.near rfl o_eql rfl ?_ | refine WS.near rfl o_faddr rfl ?_ | refine WS.near rfl (o_loadH rfl) rfl ?_ | refine WS.near rfl (o_loadHN rfl rfl) rfl ?_ | refine WS.near rfl (o_boxH 0 rfl) rfl ?_ | refine WS.near rfl (o_boxH 1 rfl) rfl ?_
      | refine WS.near rfl (o_add (by omega) (by omega)) rfl ?_)
  · have hlt : i < cs.length := by omega
    rw [firstI_drop hlt] at hv
    refine WS.near rfl (o_iaddrZ i hu rfl (fz_at (d := ⟨[], 0, 0⟩) i hlt) rfl) rfl ?_
    repeat' (first
        | refine WS.near rfl (o_loadA rfl) rfl ?_ | refine W.seq ?_ | refine W.region ?_ | refine WS.nil ?_ | refine W.skip ?_ | refine W.block ?_ | refine W.ret ?_ | refine W.exit ?_ | refine W.yes rfl rfl ?_ | refine W.no rfl rfl ?_ | refine W.fork rfl (fun _ => ?_) (fun _ => ?_) | refine WS.guardT rfl ?_ | refine WS.guardF rfl rfl rfl ?_ | refine WS.guardK rfl (fun _ => ?_) (fun _ => ?_) | refine WS.near rfl o_mov rfl ?_ | refine WS.near rfl o_pickT rfl ?_ | refine WS.near rfl o_pickF rfl ?_ | refine WS.near rfl o_notT rfl ?_ | refine WS.near rfl o_notF rfl ?_ | refine WS.near rfl o_lss rfl ?_ | refine WS.near rfl o_leq rfl ?_ | refine WS.near rfl o_geq rfl ?_ | refine WS.near rfl o_eql rfl ?_ | refine WS.near rfl o_faddr rfl ?_ | refine WS.near rfl (o_loadH rfl) rfl ?_ | refine WS.near rfl (o_loadHN rfl rfl) rfl ?_ | refine WS.near rfl (o_boxH 0 rfl) rfl ?_
        | refine WS.near rfl (o_boxH 1 rfl) rfl ?_ | refine WS.near rfl (o_add (by omega) (by omega)) rfl ?_)
    refine WS.callv (C := fun v h' => v = .bool (!holdsF d.vars l (cs.getD i ⟨[], 0, 0⟩)) ∧ h' = Go.Ab.hp h []) rfl rfl rfl rfl (notHolds_pu d _ b1 b2 hl hll _ (hp_fine hf) (hb.hp hf)) fun v h' hc => ?_
    obtain ⟨rfl, rfl⟩ := hc
    cases hh : !holdsF d.vars l (cs.getD i ⟨[], 0, 0⟩) with
    | true =>
      rw [hh, if_pos rfl] at hv
      repeat' (first
          | refine W.seq ?_ | refine W.region ?_ | refine WS.nil ?_ | refine W.skip ?_ | refine W.block ?_ | refine W.ret ?_ | refine W.exit ?_ | refine W.yes rfl rfl ?_ | refine W.no rfl rfl ?_ | refine W.fork rfl (fun _ => ?_) (fun _ => ?_) | refine WS.guardT rfl ?_ | refine WS.guardF rfl rfl rfl ?_ | refine WS.guardK rfl (fun _ => ?_) (fun _ => ?_) | refine WS.near rfl o_mov rfl ?_ | refine WS.near rfl o_pickT rfl ?_ | refine WS.near rfl o_pickF rfl ?_ | refine WS.near rfl o_notT rfl ?_ | refine WS.near rfl o_notF rfl ?_ | refine WS.near rfl o_lss rfl ?_ | refine WS.near rfl o_leq rfl ?_ | refine WS.near rfl o_geq rfl ?_ | refine WS.near rfl o_eql rfl ?_ | refine WS.near rfl o_faddr rfl ?_ | refine WS.near rfl (o_loadH rfl) rfl ?_ | refine WS.near rfl (o_loadHN rfl rfl) rfl ?_ | refine WS.near rfl (o_boxH 0 rfl) rfl ?_ | refine WS.near rfl (o_boxH 1 rfl) rfl ?_
          | refine WS.near rfl (o_add (by omega) (by omega)) rfl ?_)
      exact ⟨_, rfl, fin_int (by rw [hv]; simp [idxZ])⟩
    | false =>
      rw [hh, if_neg (by simp)] at hv
      repeat' (first
          | refine W.seq ?_ | refine W.region ?_ | refine WS.nil ?_ | refine W.skip ?_ | refine W.block ?_ | refine W.ret ?_ | refine W.exit ?_ | refine W.yes rfl rfl ?_ | refine W.no rfl rfl ?_ | refine W.fork rfl (fun _ => ?_) (fun _ => ?_) | refine WS.guardT rfl ?_ | refine WS.guardF rfl rfl rfl ?_ | refine WS.guardK rfl (fun _ => ?_) (fun _ => ?_) | refine WS.near rfl o_mov rfl ?_ | refine WS.near rfl o_pickT rfl ?_ | refine WS.near rfl o_pickF rfl ?_ | refine WS.near rfl o_notT rfl ?_ | refine WS.near rfl o_notF rfl ?_ | refine WS.near rfl o_lss rfl ?_ | refine WS.near rfl o_leq rfl ?_ | refine WS.near rfl o_geq rfl ?_ | refine WS.near rfl o_eql rfl ?_ | refine WS.near rfl o_faddr rfl ?_ | refine WS.near rfl (o_loadH rfl) rfl ?_ | refine WS.near rfl (o_loadHN rfl rfl) rfl ?_ | refine WS.near rfl (o_boxH 0 rfl) rfl ?_ | refine WS.near rfl (o_boxH 1 rfl) rfl ?_
          | refine WS.near rfl (o_add (by omega) (by omega)) rfl ?_)
      have e1 : (i : Int) + 1 = ((i + 1 : Nat) : Int) := by omega
      refine ⟨i + 1, ⟨by omega, ?_⟩, by show cs.length - (i + 1) < cs.length - i; omega, ⟨rfl, rfl, rfl, congrArg (fun z => some (V.int .i64 z)) e1, trivial⟩, rfl⟩
      rw [hv]
      cases firstI (fun c => !holdsF d.vars l c) (cs.drop (i + 1)) with
      | none => rfl
      | some j => simp only [Option.map_some, Option.some.injEq]; omega
  · have hge : cs.drop i = [] := List.drop_eq_nil_of_le (by omega)
    rw [hge] at hv
    exact ⟨_, rfl, fin_int (by rw [hv]; rfl)⟩
theorem any_pu (d : DR) {u v : V} {cs : List Cd} {l : List Int} (b1 b2 : Nat) (hu : IsFz u (cs.map cdV)) (hc : cs.length < 2 ^ 60) (hl : d.vars.length < 2 ^ 60) (hll : l.length = d.vars.length) :
    PuC D1 59 [u, .fn 60 [] [.mptr b1 0, .mptr b2 0]] (.bool (cs.any fun c => !holdsF d.vars l c)) (AllPre d v l b1 b2) := by
  refine PuC.tidy (fun h hb => ⟨hb.dom, hb.at0, hb.ints.shut⟩) rfl rfl rfl rfl rfl fun h hf hb => ?_
  repeat' (first
      | refine W.seq ?_ | refine W.region ?_ | refine WS.nil ?_ | refine W.skip ?_ | refine W.block ?_ | refine W.ret ?_ | refine W.exit ?_ | refine W.yes rfl rfl ?_ | refine W.no rfl rfl ?_ | refine W.fork rfl (fun _ => ?_) (fun _ => ?_) | refine WS.guardT rfl ?_ | refine WS.guardF rfl rfl rfl ?_ | refine WS.guardK rfl (fun _ => ?_) (fun _ => ?_) | refine WS.near rfl o_mov rfl ?_ | refine WS.near rfl o_pickT rfl ?_ | refine WS.near rfl o_pickF rfl ?_ | refine WS.near rfl o_notT rfl ?_ | refine WS.near rfl o_notF rfl ?_ | refine WS.near rfl o_lss rfl ?_ | refine WS.near rfl o_leq rfl ?_ | refine WS.near rfl o_geq rfl ?_ | refine WS.near rfl o_eql rfl ?_ | refine WS.near rfl o_faddr rfl ?_ | refine WS.near rfl (o_loadH rfl) rfl ?_ | refine WS.near rfl (o_loadHN rfl rfl) rfl ?_ | refine WS.near rfl (o_boxH 0 rfl) rfl ?_ | refine WS.near rfl (o_boxH 1 rfl) rfl ?_
      | refine WS.near rfl (o_add (by omega) (by omega)) rfl ?_)
  refine WS.puC hf (hb.hp hf) rfl rfl (indexC_pu d b1 b2 hu hc hl hll) ?_
  repeat' (first
      | refine W.seq ?_ | refine W.region ?_ | refine WS.nil ?_ | refine W.skip ?_ | refine W.block ?_ | refine W.ret ?_ | refine W.exit ?_ | refine W.yes rfl rfl ?_ | refine W.no rfl rfl ?_ | refine W.fork rfl (fun _ => ?_) (fun _ => ?_) | refine WS.guardT rfl ?_ | refine WS.guardF rfl rfl rfl ?_ | refine WS.guardK rfl (fun _ => ?_) (fun _ => ?_) | refine WS.near rfl o_mov rfl ?_ | refine WS.near rfl o_pickT rfl ?_ | refine WS.near rfl o_pickF rfl ?_ | refine WS.near rfl o_notT rfl ?_ | refine WS.near rfl o_notF rfl ?_ | refine WS.near rfl o_lss rfl ?_ | refine WS.near rfl o_leq rfl ?_ | refine WS.near rfl o_geq rfl ?_ | refine WS.near rfl o_eql rfl ?_ | refine WS.near rfl o_faddr rfl ?_ | refine WS.near rfl (o_loadH rfl) rfl ?_ | refine WS.near rfl (o_loadHN rfl rfl) rfl ?_ | refine WS.near rfl (o_boxH 0 rfl) rfl ?_ | refine WS.near rfl (o_boxH 1 rfl) rfl ?_
      | refine WS.near rfl (o_add (by omega) (by omega)) rfl ?_)
  exact ⟨_, rfl, fin_bool (firstI_any cs)⟩
theorem all_any (vs : List Var) (l : List Int) (cs : List Cd) : (!(cs.any fun c => !holdsF vs l c)) = allF vs l cs := by
  unfold allF
  induction cs with
  | nil => rfl
  | cons c r ih => simp only [List.any_cons, List.all_cons, Bool.not_or, Bool.not_not, ih]
theorem all_pu (d : DR) {u v : V} {cs : List Cd} {l : List Int} (hu : IsFz u (cs.map cdV)) (hc : cs.length < 2 ^ 60) (hl : d.vars.length < 2 ^ 60) (hll : l.length = d.vars.length) :
    PuC D1 31 [d.v, v, u] (.bool (allF d.vars l cs)) (fun h => IntsAt h v l) := by
  refine PuC.tidy (fun h hb => hb.shut) rfl rfl rfl rfl rfl fun h hf hb => ?_
  have hone : v.cells = [v] := by rcases hb.sl with rfl | rfl | ⟨c, rfl⟩ | ⟨id, off, len, c, rfl, _⟩ <;> rfl
  repeat' (first
      | refine WS.near rfl o_mkfn rfl ?_ | refine W.seq ?_ | refine W.region ?_ | refine WS.nil ?_ | refine W.skip ?_ | refine W.block ?_ | refine W.ret ?_ | refine W.exit ?_ | refine W.yes rfl rfl ?_ | refine W.no rfl rfl ?_ | refine W.fork rfl (fun _ => ?_) (fun _ => ?_) | refine WS.guardT rfl ?_ | refine WS.guardF rfl rfl rfl ?_ | refine WS.guardK rfl (fun _ => ?_) (fun _ => ?_) | refine WS.near rfl o_mov rfl ?_ | refine WS.near rfl o_pickT rfl ?_ | refine WS.near rfl o_pickF rfl ?_ | refine WS.near rfl o_notT rfl ?_ | refine WS.near rfl o_notF rfl ?_ | refine WS.near rfl o_lss rfl ?_ | refine WS.near rfl o_leq rfl ?_ | refine WS.near rfl o_geq rfl ?_ | refine WS.near rfl o_eql rfl ?_ | refine WS.near rfl o_faddr rfl ?_ | refine WS.near rfl (o_loadH rfl) rfl ?_ | refine WS.near rfl (o_loadHN rfl rfl) rfl ?_ | refine WS.near rfl (o_boxH 0 rfl) rfl ?_
      | refine WS.near rfl (o_boxH 1 rfl) rfl ?_ | refine WS.near rfl (o_add (by omega) (by omega)) rfl ?_)
  refine WS.puC hf (Pre := AllPre d v l (h.next + 0) (h.next + 1)) ⟨by rw [hp_cells]; rfl, by rw [hp_cells, ← hone]; rfl, hb.hp hf⟩ rfl rfl (any_pu d _ _ hu hc hl hll) ?_
  repeat' (first
      | refine WS.near rfl o_notB rfl ?_ | refine W.seq ?_ | refine W.region ?_ | refine WS.nil ?_ | refine W.skip ?_ | refine W.block ?_ | refine W.ret ?_ | refine W.exit ?_ | refine W.yes rfl rfl ?_ | refine W.no rfl rfl ?_ | refine W.fork rfl (fun _ => ?_) (fun _ => ?_) | refine WS.guardT rfl ?_ | refine WS.guardF rfl rfl rfl ?_ | refine WS.guardK rfl (fun _ => ?_) (fun _ => ?_) | refine WS.near rfl o_mov rfl ?_ | refine WS.near rfl o_pickT rfl ?_ | refine WS.near rfl o_pickF rfl ?_ | refine WS.near rfl o_notT rfl ?_ | refine WS.near rfl o_notF rfl ?_ | refine WS.near rfl o_lss rfl ?_ | refine WS.near rfl o_leq rfl ?_ | refine WS.near rfl o_geq rfl ?_ | refine WS.near rfl o_eql rfl ?_ | refine WS.near rfl o_faddr rfl ?_ | refine WS.near rfl (o_loadH rfl) rfl ?_ | refine WS.near rfl (o_loadHN rfl rfl) rfl ?_ | refine WS.near rfl (o_boxH 0 rfl) rfl ?_
      | refine WS.near rfl (o_boxH 1 rfl) rfl ?_ | refine WS.near rfl (o_add (by omega) (by omega)) rfl ?_)
  exact ⟨_, rfl, fin_bool (all_any _ _ _)⟩
theorem allR_pu (d : DR) {u v : V} {cs : List Cd} {l : List Int} (hu : IsFz u (cs.map cdV)) (hc : cs.length < 2 ^ 60) (hl : d.vars.length < 2 ^ 60) (hll : l.length = d.vars.length) :
    PuC D1 36 [d.v, v, u] (.bool (allF d.vars l cs)) (fun h => IntsAt h v l) := by
  refine PuC.tidy (fun h hb => hb.shut) rfl rfl rfl rfl rfl fun h hf hb => ?_
  repeat' (first
      | refine W.seq ?_ | refine W.region ?_ | refine WS.nil ?_ | refine W.skip ?_ | refine W.block ?_ | refine W.ret ?_ | refine W.exit ?_ | refine W.yes rfl rfl ?_ | refine W.no rfl rfl ?_ | refine W.fork rfl (fun _ => ?_) (fun _ => ?_) | refine WS.guardT rfl ?_ | refine WS.guardF rfl rfl rfl ?_ | refine WS.guardK rfl (fun _ => ?_) (fun _ => ?_) | refine WS.near rfl o_mov rfl ?_ | refine WS.near rfl o_pickT rfl ?_ | refine WS.near rfl o_pickF rfl ?_ | refine WS.near rfl o_notT rfl ?_ | refine WS.near rfl o_notF rfl ?_ | refine WS.near rfl o_lss rfl ?_ | refine WS.near rfl o_leq rfl ?_ | refine WS.near rfl o_geq rfl ?_ | refine WS.near rfl o_eql rfl ?_ | refine WS.near rfl o_faddr rfl ?_ | refine WS.near rfl (o_loadH rfl) rfl ?_ | refine WS.near rfl (o_loadHN rfl rfl) rfl ?_ | refine WS.near rfl (o_boxH 0 rfl) rfl ?_ | refine WS.near rfl (o_boxH 1 rfl) rfl ?_
      | refine WS.near rfl (o_add (by omega) (by omega)) rfl ?_)
  refine W.loop (fun i : Nat => [(1, v), (2, u), (3, .mptr (h.next + 0) 0), (5, .int .i64 (i : Nat))]) (fun _ => hp h [some d.cells]) (fun i => i ≤ cs.length ∧ allF d.vars l cs = allF d.vars l (cs.drop i)) (fun i => cs.length - i)
    0 ⟨Nat.zero_le _, by rw [List.drop_zero]⟩ ⟨rfl, rfl, rfl, rfl, trivial⟩ rfl ?_
  rintro i ⟨hi, hv⟩
  have hml : (cs.map cdV).length = cs.length := List.length_map ..
  repeat' (first
      | refine WS.near rfl (o_lenZ hu) rfl ?_ | refine W.seq ?_ | refine W.region ?_ | refine WS.nil ?_ | refine W.skip ?_ | refine W.block ?_ | refine W.ret ?_ | refine W.exit ?_ | refine W.yes rfl rfl ?_ | refine W.no rfl rfl ?_ | refine W.fork rfl (fun _ => ?_) (fun _ => ?_) | refine WS.guardT rfl ?_ | refine WS.guardF rfl rfl rfl ?_ | refine WS.guardK rfl (fun _ => ?_) (fun _ => ?_) | refine WS.near rfl o_mov rfl ?_ | refine WS.near rfl o_pickT rfl ?_ | refine WS.near rfl o_pickF rfl ?_ | refine WS.near rfl o_notT rfl ?_ | refine WS.near rfl o_notF rfl ?_ | refine WS.near rfl o_lss rfl ?_ | refine WS.near rfl o_leq rfl ?_ | refine WS.near rfl o_geq rfl ?_ | refine WS.near rfl o_eql rfl ?_ | refine WS.near rfl o_faddr rfl ?_ | refine WS.near rfl (o_loadH rfl) rfl ?_ | refine WS.near rfl (o_loadHN rfl rfl) rfl ?_ | refine WS.near rfl (o_boxH 0 rfl) rfl ?_
      | refine WS.near rfl (o_boxH 1 rfl) rfl ?_ | refine WS.near rfl (o_add (by omega) (by omega)) rfl ?_)
  · have hlt : i < cs.length := by omega
    have hstep : allF d.vars l (cs.drop i) = (holdsF d.vars l (cs.getD i ⟨[], 0, 0⟩) && allF d.vars l (cs.drop (i + 1))) := by
      rw [List.drop_eq_getElem_cons hlt]
      simp only [allF, List.all_cons, List.getD, List.getElem?_eq_getElem hlt, Option.getD_some]
    refine WS.near rfl (o_iaddrZ i hu rfl (fz_at (d := ⟨[], 0, 0⟩) i hlt) rfl) rfl ?_
    repeat' (first
        | refine WS.near rfl (o_loadA rfl) rfl ?_ | refine W.seq ?_ | refine W.region ?_ | refine WS.nil ?_ | refine W.skip ?_ | refine W.block ?_ | refine W.ret ?_ | refine W.exit ?_ | refine W.yes rfl rfl ?_ | refine W.no rfl rfl ?_ | refine W.fork rfl (fun _ => ?_) (fun _ => ?_) | refine WS.guardT rfl ?_ | refine WS.guardF rfl rfl rfl ?_ | refine WS.guardK rfl (fun _ => ?_) (fun _ => ?_) | refine WS.near rfl o_mov rfl ?_ | refine WS.near rfl o_pickT rfl ?_ | refine WS.near rfl o_pickF rfl ?_ | refine WS.near rfl o_notT rfl ?_ | refine WS.near rfl o_notF rfl ?_ | refine WS.near rfl o_lss rfl ?_ | refine WS.near rfl o_leq rfl ?_ | refine WS.near rfl o_geq rfl ?_ | refine WS.near rfl o_eql rfl ?_ | refine WS.near rfl o_faddr rfl ?_ | refine WS.near rfl (o_loadH rfl) rfl ?_ | refine WS.near rfl (o_loadHN rfl rfl) rfl ?_ | refine WS.near rfl (o_boxH 0 rfl) rfl ?_
        | refine WS.near rfl (o_boxH 1 rfl) rfl ?_ | refine WS.near rfl (o_add (by omega) (by omega)) rfl ?_)
    refine WS.puC hf (hb.hp hf) rfl rfl (holdsR_pu d _ hl hll) ?_
    cases hh : holdsF d.vars l (cs.getD i ⟨[], 0, 0⟩) with
    | true =>
      repeat' (first
          | refine W.seq ?_ | refine W.region ?_ | refine WS.nil ?_ | refine W.skip ?_ | refine W.block ?_ | refine W.ret ?_ | refine W.exit ?_ | refine W.yes rfl rfl ?_ | refine W.no rfl rfl ?_ | refine W.fork rfl (fun _ => ?_) (fun _ => ?_) | refine WS.guardT rfl ?_ | refine WS.guardF rfl rfl rfl ?_ | refine WS.guardK rfl (fun _ => ?_) (fun _ => ?_) | refine WS.near rfl o_mov rfl ?_ | refine WS.near rfl o_pickT rfl ?_ | refine WS.near rfl o_pickF rfl ?_ | refine WS.near rfl o_notT rfl ?_ | refine WS.near rfl o_notF rfl ?_ | refine WS.near rfl o_lss rfl ?_ | refine WS.near rfl o_leq rfl ?_ | refine WS.near rfl o_geq rfl ?_ | refine WS.near rfl o_eql rfl ?_ | refine WS.near rfl o_faddr rfl ?_ | refine WS.near rfl (o_loadH rfl) rfl ?_ | refine WS.near rfl (o_loadHN rfl rfl) rfl ?_ | refine WS.near rfl (o_boxH 0 rfl) rfl ?_ | refine WS.near rfl (o_boxH 1 rfl) rfl ?_
          | refine WS.near rfl (o_add (by omega) (by omega)) rfl ?_)
      have e1 : (i : Int) + 1 = ((i + 1 : Nat) : Int) := by omega
      exact ⟨i + 1, ⟨by omega, by rw [hv, hstep, hh]; rfl⟩, by show cs.length - (i + 1) < cs.length - i; omega, ⟨rfl, rfl, rfl, congrArg (fun z => some (V.int .i64 z)) e1, trivial⟩, rfl⟩
    | false =>
      repeat' (first
          | refine W.seq ?_ | refine W.region ?_ | refine WS.nil ?_ | refine W.skip ?_ | refine W.block ?_ | refine W.ret ?_ | refine W.exit ?_ | refine W.yes rfl rfl ?_ | refine W.no rfl rfl ?_ | refine W.fork rfl (fun _ => ?_) (fun _ => ?_) | refine WS.guardT rfl ?_ | refine WS.guardF rfl rfl rfl ?_ | refine WS.guardK rfl (fun _ => ?_) (fun _ => ?_) | refine WS.near rfl o_mov rfl ?_ | refine WS.near rfl o_pickT rfl ?_ | refine WS.near rfl o_pickF rfl ?_ | refine WS.near rfl o_notT rfl ?_ | refine WS.near rfl o_notF rfl ?_ | refine WS.near rfl o_lss rfl ?_ | refine WS.near rfl o_leq rfl ?_ | refine WS.near rfl o_geq rfl ?_ | refine WS.near rfl o_eql rfl ?_ | refine WS.near rfl o_faddr rfl ?_ | refine WS.near rfl (o_loadH rfl) rfl ?_ | refine WS.near rfl (o_loadHN rfl rfl) rfl ?_ | refine WS.near rfl (o_boxH 0 rfl) rfl ?_ | refine WS.near rfl (o_boxH 1 rfl) rfl ?_
          | refine WS.near rfl (o_add (by omega) (by omega)) rfl ?_)
      exact ⟨_, rfl, fin_bool (by rw [hv, hstep, hh]; rfl)⟩
  · have hge : cs.drop i = [] := List.drop_eq_nil_of_le (by omega)
    rw [hge] at hv
    exact ⟨_, rfl, fin_bool (by rw [hv]; rfl)⟩
end Go.Proofs.YtpaadclighadaaaDoor.CodesG
