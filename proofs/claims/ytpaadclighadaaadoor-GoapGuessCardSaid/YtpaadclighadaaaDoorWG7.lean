/- Plans: what a goal costs at least. -/
import Derived.Test.YtpaadclighadaaaDoorWG6
namespace Go.Proofs.YtpaadclighadaaaDoor.CodesG
open Go Go.Ab Go.Goap
set_option maxHeartbeats 800000
set_option maxRecDepth 100000

instance : Inhabited AR := ⟨⟨default, .nilsl, .nilsl, .inl ⟨rfl, rfl⟩, .inl ⟨rfl, rfl⟩⟩⟩
structure DIn (d : DR) : Prop where
  vars : ∀ v ∈ d.vars, VarIn v
  acts : ∀ r ∈ d.acts, MksIn r
  nv : d.vars.length < 2 ^ 40
  na : d.acts.length < 2 ^ 40
def cdC (c : Cd) : List V := [.str c.name, i64 c.op, i64 c.n]
def stepA (v : Var) (p : Int × Int) (r : AR) : Int × Int := leastS v p r.a
theorem least_map (v : Var) (l : List AR) (p : Int × Int) : (l.map (·.a)).foldl (leastS v) p = l.foldl (stepA v) p := List.foldl_map ..

structure LS where
  k : Nat
  reach : Int
  least : Int
  junk : List (Option (List V))
theorem guess_pu (d : DR) (hd : DIn d) (c : Cd) {v : V} {l : List Int} (hc : In64 c.n) (hli : ∀ i, In64 (l.getD i 0)) (hll : l.length = d.vars.length) :
    PuC D1 39 [d.v, v, cdV c] (i64 (guessF d.vars (d.acts.map (·.a)) l c)) (fun h => IntsAt h v l) := by
  have hl : d.vars.length < 2 ^ 60 := by have := hd.nv; omega
  have hna := hd.na
  have hml : (d.acts.map AR.v).length = d.acts.length := List.length_map ..
  refine PuC.tidy (fun h hb => hb.shut) rfl rfl rfl rfl rfl fun h hf hb => ?_
  have hvp := variable_pu d c.name hl
  repeat' (first
      | refine W.seq ?_ | refine W.region ?_ | refine WS.nil ?_ | refine W.skip ?_ | refine W.block ?_ | refine W.ret ?_ | refine W.exit ?_ | refine W.yes rfl rfl ?_ | refine W.no rfl rfl ?_ | refine W.fork rfl (fun _ => ?_) (fun _ => ?_) | refine WS.guardT rfl ?_ | refine WS.guardF rfl rfl rfl ?_ | refine WS.guardV rfl rfl ?_ | refine WS.guardK rfl (fun _ => ?_) (fun _ => ?_) | refine WS.near rfl o_mov rfl ?_ | refine WS.near rfl o_pickT rfl ?_ | refine WS.near rfl o_pickF rfl ?_ | refine WS.near rfl o_lss rfl ?_ | refine WS.near rfl o_gtr rfl ?_ | refine WS.near rfl o_eql rfl ?_ | refine WS.near rfl o_faddr rfl ?_ | refine WS.near rfl (o_extract rfl) rfl ?_ | refine WS.near rfl (o_loadH rfl) rfl ?_ | refine WS.near rfl (o_loadHN rfl rfl) rfl ?_ | refine WS.near rfl (o_boxH 0 rfl) rfl ?_ | refine WS.near rfl (o_boxH 1 rfl) rfl ?_ | refine WS.near rfl (o_rem (by omega) (by omega)) rfl ?_
      | refine WS.near rfl (o_add (by omega) (by omega)) rfl ?_ | fail)
  refine WS.puF hf rfl rfl hvp ?_
  cases hv : varI d.vars c.name with
  | none =>
    repeat' (first
        | refine W.seq ?_ | refine W.region ?_ | refine WS.nil ?_ | refine W.skip ?_ | refine W.block ?_ | refine W.ret ?_ | refine W.exit ?_ | refine W.yes rfl rfl ?_ | refine W.no rfl rfl ?_ | refine W.fork rfl (fun _ => ?_) (fun _ => ?_) | refine WS.guardT rfl ?_ | refine WS.guardF rfl rfl rfl ?_ | refine WS.guardV rfl rfl ?_ | refine WS.guardK rfl (fun _ => ?_) (fun _ => ?_) | refine WS.near rfl o_mov rfl ?_ | refine WS.near rfl o_pickT rfl ?_ | refine WS.near rfl o_pickF rfl ?_ | refine WS.near rfl o_lss rfl ?_ | refine WS.near rfl o_gtr rfl ?_ | refine WS.near rfl o_eql rfl ?_ | refine WS.near rfl o_faddr rfl ?_ | refine WS.near rfl (o_extract rfl) rfl ?_ | refine WS.near rfl (o_loadH rfl) rfl ?_ | refine WS.near rfl (o_loadHN rfl rfl) rfl ?_ | refine WS.near rfl (o_boxH 0 rfl) rfl ?_ | refine WS.near rfl (o_boxH 1 rfl) rfl ?_ | refine WS.near rfl (o_rem (by omega) (by omega)) rfl ?_
        | refine WS.near rfl (o_add (by omega) (by omega)) rfl ?_ | fail)
    all_goals exact ⟨_, rfl, fin_int (by unfold guessF; rw [hv])⟩
  | some i =>
    have hi := (varI_lt hv).1
    have hres : guessF d.vars (d.acts.map (·.a)) l c = if c.op < 0 ∨ 2 < c.op ∨ cmpF c.op (l.getD i 0) c.n = true then 0 else valF (d.acts.map (·.a)) (d.vars.getD i default) (apartF (l.getD i 0) c.n) := by unfold guessF; rw [hv]
    have hhf : holdsF d.vars l c = cmpF c.op (l.getD i 0) c.n := by unfold holdsF; rw [hv]
    have hVI := hd.vars _ (getD_mem (d := default) hi)
    repeat' (first
        | refine W.seq ?_ | refine W.region ?_ | refine WS.nil ?_ | refine W.skip ?_ | refine W.block ?_ | refine W.ret ?_ | refine W.exit ?_ | refine W.yes rfl rfl ?_ | refine W.no rfl rfl ?_ | refine W.fork rfl (fun _ => ?_) (fun _ => ?_) | refine WS.guardT rfl ?_ | refine WS.guardF rfl rfl rfl ?_ | refine WS.guardV rfl rfl ?_ | refine WS.guardK rfl (fun _ => ?_) (fun _ => ?_) | refine WS.near rfl o_mov rfl ?_ | refine WS.near rfl o_pickT rfl ?_ | refine WS.near rfl o_pickF rfl ?_ | refine WS.near rfl o_lss rfl ?_ | refine WS.near rfl o_gtr rfl ?_ | refine WS.near rfl o_eql rfl ?_ | refine WS.near rfl o_faddr rfl ?_ | refine WS.near rfl (o_extract rfl) rfl ?_ | refine WS.near rfl (o_loadH rfl) rfl ?_ | refine WS.near rfl (o_loadHN rfl rfl) rfl ?_ | refine WS.near rfl (o_boxH 0 rfl) rfl ?_ | refine WS.near rfl (o_boxH 1 rfl) rfl ?_ | refine WS.near rfl (o_rem (by omega) (by omega)) rfl ?_
        | refine WS.near rfl (o_add (by omega) (by omega)) rfl ?_ | fail)
    · rename_i h1
      exact ⟨_, rfl, fin_int (by rw [hres, if_pos (.inl h1)])⟩
    · rename_i h1 h2
      exact ⟨_, rfl, fin_int (by rw [hres, if_pos (.inr (.inl h2))])⟩
    rename_i h1 h2
    refine WS.puC hf (hb.hp hf) rfl rfl (holds_pu d c hl hll) ?_
    cases hh : holdsF d.vars l c with
    | true =>
      repeat' (first
          | refine W.seq ?_ | refine W.region ?_ | refine WS.nil ?_ | refine W.skip ?_ | refine W.block ?_ | refine W.ret ?_ | refine W.exit ?_ | refine W.yes rfl rfl ?_ | refine W.no rfl rfl ?_ | refine W.fork rfl (fun _ => ?_) (fun _ => ?_) | refine WS.guardT rfl ?_ | refine WS.guardF rfl rfl rfl ?_ | refine WS.guardV rfl rfl ?_ | refine WS.guardK rfl (fun _ => ?_) (fun _ => ?_) | refine WS.near rfl o_mov rfl ?_ | refine WS.near rfl o_pickT rfl ?_ | refine WS.near rfl o_pickF rfl ?_ | refine WS.near rfl o_lss rfl ?_ | refine WS.near rfl o_gtr rfl ?_ | refine WS.near rfl o_eql rfl ?_ | refine WS.near rfl o_faddr rfl ?_ | refine WS.near rfl (o_extract rfl) rfl ?_ | refine WS.near rfl (o_loadH rfl) rfl ?_ | refine WS.near rfl (o_loadHN rfl rfl) rfl ?_ | refine WS.near rfl (o_boxH 0 rfl) rfl ?_ | refine WS.near rfl (o_boxH 1 rfl) rfl ?_ | refine WS.near rfl (o_rem (by omega) (by omega)) rfl ?_
          | refine WS.near rfl (o_add (by omega) (by omega)) rfl ?_ | fail)
      exact ⟨_, rfl, fin_int (by rw [hres, if_pos (.inr (.inr (by rw [← hhf]; exact hh)))])⟩
    | false =>
      have hnot : ¬ (c.op < 0 ∨ 2 < c.op ∨ cmpF c.op (l.getD i 0) c.n = true) := by rw [← hhf, hh]; simp; omega
      have hgap := cmpF_gap hnot
      have hgi : In64 (apartF (l.getD i 0) c.n) := sat_in _
      rw [if_neg hnot] at hres
      obtain ⟨a, d1, d2⟩ := o_at (h := hp h [some d.cells, some (cdC c)]) (k := .i64) i (hb.hp hf) rfl (by omega)
      repeat' (first
          | refine WS.near rfl d1 rfl ?_ | refine WS.near rfl d2 rfl ?_ | refine W.seq ?_ | refine W.region ?_ | refine WS.nil ?_ | refine W.skip ?_ | refine W.block ?_ | refine W.ret ?_ | refine W.exit ?_ | refine W.yes rfl rfl ?_ | refine W.no rfl rfl ?_ | refine W.fork rfl (fun _ => ?_) (fun _ => ?_) | refine WS.guardT rfl ?_ | refine WS.guardF rfl rfl rfl ?_ | refine WS.guardV rfl rfl ?_ | refine WS.guardK rfl (fun _ => ?_) (fun _ => ?_) | refine WS.near rfl o_mov rfl ?_ | refine WS.near rfl o_pickT rfl ?_ | refine WS.near rfl o_pickF rfl ?_ | refine WS.near rfl o_lss rfl ?_ | refine WS.near rfl o_gtr rfl ?_ | refine WS.near rfl o_eql rfl ?_ | refine WS.near rfl o_faddr rfl ?_ | refine WS.near rfl (o_extract rfl) rfl ?_ | refine WS.near rfl (o_loadH rfl) rfl ?_ | refine WS.near rfl (o_loadHN rfl rfl) rfl ?_ | refine WS.near rfl (o_boxH 0 rfl) rfl ?_ | refine WS.near rfl (o_boxH 1 rfl) rfl ?_
          | refine WS.near rfl (o_rem (by omega) (by omega)) rfl ?_ | refine WS.near rfl (o_add (by omega) (by omega)) rfl ?_ | fail)
      refine WS.puF hf rfl rfl (apart_pu (hli i) hc) ?_
      repeat' (first
          | refine WS.near rfl (o_lenZ d.has) rfl ?_ | refine W.seq ?_ | refine W.region ?_ | refine WS.nil ?_ | refine W.skip ?_ | refine W.block ?_ | refine W.ret ?_ | refine W.exit ?_ | refine W.yes rfl rfl ?_ | refine W.no rfl rfl ?_ | refine W.fork rfl (fun _ => ?_) (fun _ => ?_) | refine WS.guardT rfl ?_ | refine WS.guardF rfl rfl rfl ?_ | refine WS.guardV rfl rfl ?_ | refine WS.guardK rfl (fun _ => ?_) (fun _ => ?_) | refine WS.near rfl o_mov rfl ?_ | refine WS.near rfl o_pickT rfl ?_ | refine WS.near rfl o_pickF rfl ?_ | refine WS.near rfl o_lss rfl ?_ | refine WS.near rfl o_gtr rfl ?_ | refine WS.near rfl o_eql rfl ?_ | refine WS.near rfl o_faddr rfl ?_ | refine WS.near rfl (o_extract rfl) rfl ?_ | refine WS.near rfl (o_loadH rfl) rfl ?_ | refine WS.near rfl (o_loadHN rfl rfl) rfl ?_ | refine WS.near rfl (o_boxH 0 rfl) rfl ?_ | refine WS.near rfl (o_boxH 1 rfl) rfl ?_
          | refine WS.near rfl (o_rem (by omega) (by omega)) rfl ?_ | refine WS.near rfl (o_add (by omega) (by omega)) rfl ?_ | fail)
      refine W.loop (fun a : LS => [(3, .mptr (h.next + 0) 0), (6, .int .i64 (i : Nat)), (7, i64 (apartF (l.getD i 0) c.n)), (8, i64 a.reach), (9, i64 a.least), (34, d.acs), (35, .int .i64 ((d.acts.map AR.v).length : Nat)), (36, .int .i64 (a.k : Nat))]) (fun a => hp h (some d.cells :: some (cdC c) :: a.junk))
        (fun a => a.k ≤ d.acts.length ∧ (0 ≤ a.reach ∧ a.reach ≤ 9223372036854775807) ∧ (1 ≤ a.least ∧ a.least ≤ 1000) ∧ (d.acts.drop a.k).foldl (stepA (d.vars.getD i default)) (a.reach, a.least) = leastF (d.acts.map (·.a)) (d.vars.getD i default)) (fun a => d.acts.length - a.k)
        ⟨0, 0, 1000, []⟩ ⟨Nat.zero_le _, ⟨by show (0 : Int) ≤ 0; omega, by show (0 : Int) ≤ _; omega⟩, ⟨by show (1 : Int) ≤ 1000; omega, by show (1000 : Int) ≤ 1000; omega⟩, by rw [List.drop_zero]; exact (least_map _ _ _).symm⟩ ⟨rfl, rfl, rfl, rfl, rfl, rfl, rfl, rfl, trivial⟩ rfl ?_
      rintro ⟨k, reach, least, junk⟩ ⟨hk, ⟨r0, r1⟩, ⟨l0, l1⟩, hr⟩
      simp only at hk r0 r1 l0 l1 hr ⊢
      repeat' (first
          | refine W.seq ?_ | refine W.region ?_ | refine WS.nil ?_ | refine W.skip ?_ | refine W.block ?_ | refine W.ret ?_ | refine W.exit ?_ | refine W.yes rfl rfl ?_ | refine W.no rfl rfl ?_ | refine W.fork rfl (fun _ => ?_) (fun _ => ?_) | refine WS.guardT rfl ?_ | refine WS.guardF rfl rfl rfl ?_ | refine WS.guardV rfl rfl ?_ | refine WS.guardK rfl (fun _ => ?_) (fun _ => ?_) | refine WS.near rfl o_mov rfl ?_ | refine WS.near rfl o_pickT rfl ?_ | refine WS.near rfl o_pickF rfl ?_ | refine WS.near rfl o_lss rfl ?_ | refine WS.near rfl o_gtr rfl ?_ | refine WS.near rfl o_eql rfl ?_ | refine WS.near rfl o_faddr rfl ?_ | refine WS.near rfl (o_extract rfl) rfl ?_ | refine WS.near rfl (o_loadH rfl) rfl ?_ | refine WS.near rfl (o_loadHN rfl rfl) rfl ?_ | refine WS.near rfl (o_boxH 0 rfl) rfl ?_ | refine WS.near rfl (o_boxH 1 rfl) rfl ?_ | refine WS.near rfl (o_rem (by omega) (by omega)) rfl ?_
          | refine WS.near rfl (o_add (by omega) (by omega)) rfl ?_ | fail)
      · have hlt : k < d.acts.length := by omega
        rw [fold_drop (d := default) hlt] at hr
        have hMI := hd.acts _ (getD_mem (d := default) hlt)
        refine WS.near rfl (o_iaddrZ k d.has rfl (fz_at (d := default) k hlt) rfl) rfl ?_
        generalize d.acts.getD k default = r at hr hMI ⊢
        repeat' (first
            | refine WS.near rfl (o_loadA rfl) rfl ?_ | refine W.seq ?_ | refine W.region ?_ | refine WS.nil ?_ | refine W.skip ?_ | refine W.block ?_ | refine W.ret ?_ | refine W.exit ?_ | refine W.yes rfl rfl ?_ | refine W.no rfl rfl ?_ | refine W.fork rfl (fun _ => ?_) (fun _ => ?_) | refine WS.guardT rfl ?_ | refine WS.guardF rfl rfl rfl ?_ | refine WS.guardV rfl rfl ?_ | refine WS.guardK rfl (fun _ => ?_) (fun _ => ?_) | refine WS.near rfl o_mov rfl ?_ | refine WS.near rfl o_pickT rfl ?_ | refine WS.near rfl o_pickF rfl ?_ | refine WS.near rfl o_lss rfl ?_ | refine WS.near rfl o_gtr rfl ?_ | refine WS.near rfl o_eql rfl ?_ | refine WS.near rfl o_faddr rfl ?_ | refine WS.near rfl (o_extract rfl) rfl ?_ | refine WS.near rfl (o_loadH rfl) rfl ?_ | refine WS.near rfl (o_loadHN rfl rfl) rfl ?_ | refine WS.near rfl (o_boxH 0 rfl) rfl ?_ | refine WS.near rfl (o_boxH 1 rfl) rfl ?_
            | refine WS.near rfl (o_rem (by omega) (by omega)) rfl ?_ | refine WS.near rfl (o_add (by omega) (by omega)) rfl ?_ | fail)
        refine WS.near rfl o_allocS rfl ?_
        refine WS.near rfl (o_storeH hf (bget_badd (bs := some d.cells :: some (cdC c) :: junk)) rfl) rfl ?_
        obtain ⟨j2, hj2⟩ := keepA (b0 := some d.cells) (b1 := some (cdC c)) (junk := junk) (z := [.str [], .int .i64 0, .nilsl, .nilsl]) (cs := arC r) (n := 4)
        have g1 : bget (bput (badd (some d.cells :: some (cdC c) :: junk) [.str [], .int .i64 0, .nilsl, .nilsl]) (some d.cells :: some (cdC c) :: junk).length 0 4 (arC r)) (some d.cells :: some (cdC c) :: junk).length = some (arC r) := bget_bput (off := 0) (n := 4) (cs := arC r) (bget_badd (bs := some d.cells :: some (cdC c) :: junk) (c := [.str [], .int .i64 0, .nilsl, .nilsl]))
        rw [hj2] at g1
        change WS D1 (capOfD c39.dep) [] _ (hp h (bput (badd (some d.cells :: some (cdC c) :: junk) [.str [], .int .i64 0, .nilsl, .nilsl]) (some d.cells :: some (cdC c) :: junk).length 0 4 (arC r))) _
        rw [hj2]
        clear hj2
        generalize (some d.cells :: some (cdC c) :: junk).length = K at g1 ⊢
        have e1 : (k : Int) + 1 = ((k + 1 : Nat) : Int) := by omega
        have htp := turns_pu r (d.vars.getD i default) hMI hVI
        have htn := turns_nn (d.vars.getD i default) r.a.make (0, false) (by simp)
        have hti : (turnsF r.a.make (d.vars.getD i default)).1 ≤ 9223372036854775807 := turns_le _ _
        have hcost := cost_in r.a.cost
        repeat' (first
            | refine WS.near rfl (o_loadHN g1 rfl) rfl ?_ | refine WS.near rfl (o_iaddrZ i d.hvs rfl (fz_at (d := default) i hi) rfl) rfl ?_ | refine WS.near rfl (o_loadA rfl) rfl ?_ | refine W.seq ?_ | refine W.region ?_ | refine WS.nil ?_ | refine W.skip ?_ | refine W.block ?_ | refine W.ret ?_ | refine W.exit ?_ | refine W.yes rfl rfl ?_ | refine W.no rfl rfl ?_ | refine W.fork rfl (fun _ => ?_) (fun _ => ?_) | refine WS.guardT rfl ?_ | refine WS.guardF rfl rfl rfl ?_ | refine WS.guardV rfl rfl ?_ | refine WS.guardK rfl (fun _ => ?_) (fun _ => ?_) | refine WS.near rfl o_mov rfl ?_ | refine WS.near rfl o_pickT rfl ?_ | refine WS.near rfl o_pickF rfl ?_ | refine WS.near rfl o_lss rfl ?_ | refine WS.near rfl o_gtr rfl ?_ | refine WS.near rfl o_eql rfl ?_ | refine WS.near rfl o_faddr rfl ?_ | refine WS.near rfl (o_extract rfl) rfl ?_ | refine WS.near rfl (o_loadH rfl) rfl ?_
            | refine WS.near rfl (o_loadHN rfl rfl) rfl ?_ | refine WS.near rfl (o_boxH 0 rfl) rfl ?_ | refine WS.near rfl (o_boxH 1 rfl) rfl ?_ | refine WS.near rfl (o_rem (by omega) (by omega)) rfl ?_ | refine WS.near rfl (o_add (by omega) (by omega)) rfl ?_ | fail)
        cases hok : (turnsF r.a.make (d.vars.getD i default)).2 with
        | true =>
          rw [hok] at htp
          have hst : stepA (d.vars.getD i default) (reach, least) r = (max reach (turnsF r.a.make (d.vars.getD i default)).1, min least (costF r.a.cost)) := by unfold stepA leastS; rw [if_pos hok]
          rw [hst] at hr
          refine WS.puF hf rfl rfl htp ?_
          repeat' (first
              | refine WS.near rfl o_max rfl ?_ | refine WS.near rfl (o_loadHN g1 rfl) rfl ?_ | refine W.seq ?_ | refine W.region ?_ | refine WS.nil ?_ | refine W.skip ?_ | refine W.block ?_ | refine W.ret ?_ | refine W.exit ?_ | refine W.yes rfl rfl ?_ | refine W.no rfl rfl ?_ | refine W.fork rfl (fun _ => ?_) (fun _ => ?_) | refine WS.guardT rfl ?_ | refine WS.guardF rfl rfl rfl ?_ | refine WS.guardV rfl rfl ?_ | refine WS.guardK rfl (fun _ => ?_) (fun _ => ?_) | refine WS.near rfl o_mov rfl ?_ | refine WS.near rfl o_pickT rfl ?_ | refine WS.near rfl o_pickF rfl ?_ | refine WS.near rfl o_lss rfl ?_ | refine WS.near rfl o_gtr rfl ?_ | refine WS.near rfl o_eql rfl ?_ | refine WS.near rfl o_faddr rfl ?_ | refine WS.near rfl (o_extract rfl) rfl ?_ | refine WS.near rfl (o_loadH rfl) rfl ?_ | refine WS.near rfl (o_loadHN rfl rfl) rfl ?_ | refine WS.near rfl (o_boxH 0 rfl) rfl ?_
              | refine WS.near rfl (o_boxH 1 rfl) rfl ?_ | refine WS.near rfl (o_rem (by omega) (by omega)) rfl ?_ | refine WS.near rfl (o_add (by omega) (by omega)) rfl ?_ | fail)
          refine WS.puF hf rfl rfl (cost_pu (s := .str r.a.name) (nd := r.nds) (mk := r.mks) (n := r.a.cost)) ?_
          repeat' (first
              | refine WS.near rfl o_min rfl ?_ | refine W.seq ?_ | refine W.region ?_ | refine WS.nil ?_ | refine W.skip ?_ | refine W.block ?_ | refine W.ret ?_ | refine W.exit ?_ | refine W.yes rfl rfl ?_ | refine W.no rfl rfl ?_ | refine W.fork rfl (fun _ => ?_) (fun _ => ?_) | refine WS.guardT rfl ?_ | refine WS.guardF rfl rfl rfl ?_ | refine WS.guardV rfl rfl ?_ | refine WS.guardK rfl (fun _ => ?_) (fun _ => ?_) | refine WS.near rfl o_mov rfl ?_ | refine WS.near rfl o_pickT rfl ?_ | refine WS.near rfl o_pickF rfl ?_ | refine WS.near rfl o_lss rfl ?_ | refine WS.near rfl o_gtr rfl ?_ | refine WS.near rfl o_eql rfl ?_ | refine WS.near rfl o_faddr rfl ?_ | refine WS.near rfl (o_extract rfl) rfl ?_ | refine WS.near rfl (o_loadH rfl) rfl ?_ | refine WS.near rfl (o_loadHN rfl rfl) rfl ?_ | refine WS.near rfl (o_boxH 0 rfl) rfl ?_ | refine WS.near rfl (o_boxH 1 rfl) rfl ?_
              | refine WS.near rfl (o_rem (by omega) (by omega)) rfl ?_ | refine WS.near rfl (o_add (by omega) (by omega)) rfl ?_ | fail)
          exact ⟨⟨k + 1, max reach (turnsF r.a.make (d.vars.getD i default)).1, min least (costF r.a.cost), j2⟩, ⟨by show k + 1 ≤ d.acts.length; omega, ⟨by show 0 ≤ max _ _; omega, by show max _ _ ≤ _; omega⟩, ⟨by show 1 ≤ min _ _; omega, by show min _ _ ≤ _; omega⟩, hr⟩, by show d.acts.length - (k + 1) < d.acts.length - k; omega, ⟨rfl, rfl, rfl, rfl, rfl, rfl, rfl, congrArg (fun z => some (V.int .i64 z)) e1, trivial⟩, rfl⟩
        | false =>
          rw [hok] at htp
          have hst : stepA (d.vars.getD i default) (reach, least) r = (reach, least) := by unfold stepA leastS; rw [if_neg (by rw [hok]; simp)]
          rw [hst] at hr
          refine WS.puF hf rfl rfl htp ?_
          repeat' (first
              | refine W.seq ?_ | refine W.region ?_ | refine WS.nil ?_ | refine W.skip ?_ | refine W.block ?_ | refine W.ret ?_ | refine W.exit ?_ | refine W.yes rfl rfl ?_ | refine W.no rfl rfl ?_ | refine W.fork rfl (fun _ => ?_) (fun _ => ?_) | refine WS.guardT rfl ?_ | refine WS.guardF rfl rfl rfl ?_ | refine WS.guardV rfl rfl ?_ | refine WS.guardK rfl (fun _ => ?_) (fun _ => ?_) | refine WS.near rfl o_mov rfl ?_ | refine WS.near rfl o_pickT rfl ?_ | refine WS.near rfl o_pickF rfl ?_ | refine WS.near rfl o_lss rfl ?_ | refine WS.near rfl o_gtr rfl ?_ | refine WS.near rfl o_eql rfl ?_ | refine WS.near rfl o_faddr rfl ?_ | refine WS.near rfl (o_extract rfl) rfl ?_ | refine WS.near rfl (o_loadH rfl) rfl ?_ | refine WS.near rfl (o_loadHN rfl rfl) rfl ?_ | refine WS.near rfl (o_boxH 0 rfl) rfl ?_ | refine WS.near rfl (o_boxH 1 rfl) rfl ?_ | refine WS.near rfl (o_rem (by omega) (by omega)) rfl ?_
              | refine WS.near rfl (o_add (by omega) (by omega)) rfl ?_ | fail)
          exact ⟨⟨k + 1, reach, least, j2⟩, ⟨by show k + 1 ≤ d.acts.length; omega, ⟨r0, r1⟩, ⟨l0, l1⟩, hr⟩, by show d.acts.length - (k + 1) < d.acts.length - k; omega, ⟨rfl, rfl, rfl, rfl, rfl, rfl, rfl, congrArg (fun z => some (V.int .i64 z)) e1, trivial⟩, rfl⟩
      · have hge : d.acts.drop k = [] := List.drop_eq_nil_of_le (by omega)
        rw [hge] at hr
        have hr' : (reach, least) = leastF (d.acts.map (·.a)) (d.vars.getD i default) := hr
        unfold valF at hres
        rw [← hr'] at hres
        simp only at hres
        unfold In64 at hgi
        rename_i hz
        rw [if_pos hz] at hres
        exact ⟨_, rfl, fin_int hres.symm⟩
      · have hge : d.acts.drop k = [] := List.drop_eq_nil_of_le (by omega)
        rw [hge] at hr
        have hr' : (reach, least) = leastF (d.acts.map (·.a)) (d.vars.getD i default) := hr
        unfold valF at hres
        rw [← hr'] at hres
        simp only at hres
        unfold In64 at hgi
        rename_i hz
        rw [if_neg hz] at hres
        generalize apartF (l.getD i 0) c.n = g at hgap hgi hres ⊢
        have q0 : 0 ≤ (g - 1) / reach := Int.ediv_nonneg (by omega) (by omega)
        have q1 : (g - 1) / reach ≤ g - 1 := Int.ediv_le_self reach (by omega)
        refine WS.near rfl (o_sub (by omega) (by omega)) rfl ?_
        refine WS.near rfl (o_quo (by omega) (by omega) (by omega)) rfl ?_
        refine WS.near rfl (o_add (by omega) (by omega)) rfl ?_
        refine WS.puF hf rfl rfl (mul_pu (a := (g - 1) / reach + 1) (b := least) (by omega) (by unfold In64; omega) (by omega) l1) ?_
        repeat' (first
            | refine W.seq ?_ | refine W.region ?_ | refine WS.nil ?_ | refine W.skip ?_ | refine W.block ?_ | refine W.ret ?_ | refine W.exit ?_ | refine W.yes rfl rfl ?_ | refine W.no rfl rfl ?_ | refine W.fork rfl (fun _ => ?_) (fun _ => ?_) | refine WS.guardT rfl ?_ | refine WS.guardF rfl rfl rfl ?_ | refine WS.guardV rfl rfl ?_ | refine WS.guardK rfl (fun _ => ?_) (fun _ => ?_) | refine WS.near rfl o_mov rfl ?_ | refine WS.near rfl o_pickT rfl ?_ | refine WS.near rfl o_pickF rfl ?_ | refine WS.near rfl o_lss rfl ?_ | refine WS.near rfl o_gtr rfl ?_ | refine WS.near rfl o_eql rfl ?_ | refine WS.near rfl o_faddr rfl ?_ | refine WS.near rfl (o_extract rfl) rfl ?_ | refine WS.near rfl (o_loadH rfl) rfl ?_ | refine WS.near rfl (o_loadHN rfl rfl) rfl ?_ | refine WS.near rfl (o_boxH 0 rfl) rfl ?_ | refine WS.near rfl (o_boxH 1 rfl) rfl ?_ | refine WS.near rfl (o_rem (by omega) (by omega)) rfl ?_
            | refine WS.near rfl (o_add (by omega) (by omega)) rfl ?_ | fail)
        exact ⟨_, rfl, fin_int hres.symm⟩

/-! ### the document's -/

theorem size_sub {x n : Int} : sizeF (sat (x - n)) = apartF x n := by
  unfold sizeF apartF
  split
  · rename_i h; unfold sat at *; omega
  · rename_i h; unfold sat at *; omega
theorem ceil_eq {g m : Int} (_ : 1 ≤ g) (hm : 1 ≤ m) : (g - 1) / m + 1 = if 0 < g % m then g / m + 1 else g / m := by
  have h1 := Int.emod_nonneg g (by omega : m ≠ 0)
  have h2 := Int.emod_lt_of_pos g (by omega : 0 < m)
  have h3 := Int.emod_add_mul_ediv g m
  generalize g / m = q at *
  generalize g % m = r at *
  split
  · have : (g - 1) / m = q := by
      rw [Int.ediv_eq_iff_of_pos (by omega)] 
      constructor
      · rw [Int.mul_comm]; omega
      · rw [Int.mul_comm q m]; omega
    omega
  · have : (g - 1) / m = q - 1 := by
      rw [Int.ediv_eq_iff_of_pos (by omega)]
      constructor
      · rw [Int.sub_mul, Int.mul_comm]; omega
      · rw [Int.sub_mul, Int.one_mul, Int.mul_comm q m]; omega
    omega

structure KS where
  k : Nat
  reach : Int
  most : Int
  least : Int
theorem guessR_pu (d : DR) (hd : DIn d) (c : Cd) {v : V} {l : List Int} (hc : In64 c.n) (hli : ∀ i, In64 (l.getD i 0)) (hll : l.length = d.vars.length) (hnh : holdsF d.vars l c = false) :
    PuC D1 41 [d.v, v, cdV c] (i64 (guessF d.vars (d.acts.map (·.a)) l c)) (fun h => IntsAt h v l) := by
  have hl : d.vars.length < 2 ^ 60 := by have := hd.nv; omega
  have hna := hd.na
  have hml : (d.acts.map AR.v).length = d.acts.length := List.length_map ..
  refine PuC.tidy (fun h hb => hb.shut) rfl rfl rfl rfl rfl fun h hf hb => ?_
  have hvp := variableR_pu d c.name hl
  repeat' (first
      | refine W.seq ?_ | refine W.region ?_ | refine WS.nil ?_ | refine W.skip ?_ | refine W.block ?_ | refine W.ret ?_ | refine W.exit ?_ | refine W.yes rfl rfl ?_ | refine W.no rfl rfl ?_ | refine W.fork rfl (fun _ => ?_) (fun _ => ?_) | refine WS.guardT rfl ?_ | refine WS.guardF rfl rfl rfl ?_ | refine WS.guardV rfl rfl ?_ | refine WS.guardK rfl (fun _ => ?_) (fun _ => ?_) | refine WS.near rfl o_mov rfl ?_ | refine WS.near rfl o_pickT rfl ?_ | refine WS.near rfl o_pickF rfl ?_ | refine WS.near rfl o_lss rfl ?_ | refine WS.near rfl o_gtr rfl ?_ | refine WS.near rfl o_eql rfl ?_ | refine WS.near rfl o_faddr rfl ?_ | refine WS.near rfl (o_extract rfl) rfl ?_ | refine WS.near rfl (o_loadH rfl) rfl ?_ | refine WS.near rfl (o_loadHN rfl rfl) rfl ?_ | refine WS.near rfl (o_boxH 0 rfl) rfl ?_ | refine WS.near rfl (o_boxH 1 rfl) rfl ?_ | refine WS.near rfl (o_rem (by omega) (by omega)) rfl ?_
      | refine WS.near rfl (o_add (by omega) (by omega)) rfl ?_ | fail)
  refine WS.puF hf rfl rfl hvp ?_
  cases hv : varI d.vars c.name with
  | none =>
    repeat' (first
        | refine W.seq ?_ | refine W.region ?_ | refine WS.nil ?_ | refine W.skip ?_ | refine W.block ?_ | refine W.ret ?_ | refine W.exit ?_ | refine W.yes rfl rfl ?_ | refine W.no rfl rfl ?_ | refine W.fork rfl (fun _ => ?_) (fun _ => ?_) | refine WS.guardT rfl ?_ | refine WS.guardF rfl rfl rfl ?_ | refine WS.guardV rfl rfl ?_ | refine WS.guardK rfl (fun _ => ?_) (fun _ => ?_) | refine WS.near rfl o_mov rfl ?_ | refine WS.near rfl o_pickT rfl ?_ | refine WS.near rfl o_pickF rfl ?_ | refine WS.near rfl o_lss rfl ?_ | refine WS.near rfl o_gtr rfl ?_ | refine WS.near rfl o_eql rfl ?_ | refine WS.near rfl o_faddr rfl ?_ | refine WS.near rfl (o_extract rfl) rfl ?_ | refine WS.near rfl (o_loadH rfl) rfl ?_ | refine WS.near rfl (o_loadHN rfl rfl) rfl ?_ | refine WS.near rfl (o_boxH 0 rfl) rfl ?_ | refine WS.near rfl (o_boxH 1 rfl) rfl ?_ | refine WS.near rfl (o_rem (by omega) (by omega)) rfl ?_
        | refine WS.near rfl (o_add (by omega) (by omega)) rfl ?_ | fail)
    all_goals exact ⟨_, rfl, fin_int (by unfold guessF; rw [hv])⟩
  | some i =>
    have hi := (varI_lt hv).1
    have hres : guessF d.vars (d.acts.map (·.a)) l c = if c.op < 0 ∨ 2 < c.op ∨ cmpF c.op (l.getD i 0) c.n = true then 0 else valF (d.acts.map (·.a)) (d.vars.getD i default) (apartF (l.getD i 0) c.n) := by unfold guessF; rw [hv]
    have hhf : holdsF d.vars l c = cmpF c.op (l.getD i 0) c.n := by unfold holdsF; rw [hv]
    have hVI := hd.vars _ (getD_mem (d := default) hi)
    repeat' (first
        | refine W.seq ?_ | refine W.region ?_ | refine WS.nil ?_ | refine W.skip ?_ | refine W.block ?_ | refine W.ret ?_ | refine W.exit ?_ | refine W.yes rfl rfl ?_ | refine W.no rfl rfl ?_ | refine W.fork rfl (fun _ => ?_) (fun _ => ?_) | refine WS.guardT rfl ?_ | refine WS.guardF rfl rfl rfl ?_ | refine WS.guardV rfl rfl ?_ | refine WS.guardK rfl (fun _ => ?_) (fun _ => ?_) | refine WS.near rfl o_mov rfl ?_ | refine WS.near rfl o_pickT rfl ?_ | refine WS.near rfl o_pickF rfl ?_ | refine WS.near rfl o_lss rfl ?_ | refine WS.near rfl o_gtr rfl ?_ | refine WS.near rfl o_eql rfl ?_ | refine WS.near rfl o_faddr rfl ?_ | refine WS.near rfl (o_extract rfl) rfl ?_ | refine WS.near rfl (o_loadH rfl) rfl ?_ | refine WS.near rfl (o_loadHN rfl rfl) rfl ?_ | refine WS.near rfl (o_boxH 0 rfl) rfl ?_ | refine WS.near rfl (o_boxH 1 rfl) rfl ?_ | refine WS.near rfl (o_rem (by omega) (by omega)) rfl ?_
        | refine WS.near rfl (o_add (by omega) (by omega)) rfl ?_ | fail)
    · rename_i h1
      exact ⟨_, rfl, fin_int (by rw [hres, if_pos (.inl h1)])⟩
    · rename_i h1 h2
      exact ⟨_, rfl, fin_int (by rw [hres, if_pos (.inr (.inl h2))])⟩
    rename_i h1 h2
    have hnot : ¬ (c.op < 0 ∨ 2 < c.op ∨ cmpF c.op (l.getD i 0) c.n = true) := by rw [← hhf, hnh]; simp; omega
    have hgap := cmpF_gap hnot
    have hgi : In64 (apartF (l.getD i 0) c.n) := sat_in _
    rw [if_neg hnot] at hres
    obtain ⟨a, d1, d2⟩ := o_at (h := hp h [some d.cells, some (cdC c)]) (k := .i64) i (hb.hp hf) rfl (by omega)
    repeat' (first
        | refine WS.near rfl d1 rfl ?_ | refine WS.near rfl d2 rfl ?_ | refine W.seq ?_ | refine W.region ?_ | refine WS.nil ?_ | refine W.skip ?_ | refine W.block ?_ | refine W.ret ?_ | refine W.exit ?_ | refine W.yes rfl rfl ?_ | refine W.no rfl rfl ?_ | refine W.fork rfl (fun _ => ?_) (fun _ => ?_) | refine WS.guardT rfl ?_ | refine WS.guardF rfl rfl rfl ?_ | refine WS.guardV rfl rfl ?_ | refine WS.guardK rfl (fun _ => ?_) (fun _ => ?_) | refine WS.near rfl o_mov rfl ?_ | refine WS.near rfl o_pickT rfl ?_ | refine WS.near rfl o_pickF rfl ?_ | refine WS.near rfl o_lss rfl ?_ | refine WS.near rfl o_gtr rfl ?_ | refine WS.near rfl o_eql rfl ?_ | refine WS.near rfl o_faddr rfl ?_ | refine WS.near rfl (o_extract rfl) rfl ?_ | refine WS.near rfl (o_loadH rfl) rfl ?_ | refine WS.near rfl (o_loadHN rfl rfl) rfl ?_ | refine WS.near rfl (o_boxH 0 rfl) rfl ?_ | refine WS.near rfl (o_boxH 1 rfl) rfl ?_
        | refine WS.near rfl (o_rem (by omega) (by omega)) rfl ?_ | refine WS.near rfl (o_add (by omega) (by omega)) rfl ?_ | fail)
    refine WS.puF hf rfl rfl (subR_pu (hli i) hc) ?_
    repeat' (first
        | refine W.seq ?_ | refine W.region ?_ | refine WS.nil ?_ | refine W.skip ?_ | refine W.block ?_ | refine W.ret ?_ | refine W.exit ?_ | refine W.yes rfl rfl ?_ | refine W.no rfl rfl ?_ | refine W.fork rfl (fun _ => ?_) (fun _ => ?_) | refine WS.guardT rfl ?_ | refine WS.guardF rfl rfl rfl ?_ | refine WS.guardV rfl rfl ?_ | refine WS.guardK rfl (fun _ => ?_) (fun _ => ?_) | refine WS.near rfl o_mov rfl ?_ | refine WS.near rfl o_pickT rfl ?_ | refine WS.near rfl o_pickF rfl ?_ | refine WS.near rfl o_lss rfl ?_ | refine WS.near rfl o_gtr rfl ?_ | refine WS.near rfl o_eql rfl ?_ | refine WS.near rfl o_faddr rfl ?_ | refine WS.near rfl (o_extract rfl) rfl ?_ | refine WS.near rfl (o_loadH rfl) rfl ?_ | refine WS.near rfl (o_loadHN rfl rfl) rfl ?_ | refine WS.near rfl (o_boxH 0 rfl) rfl ?_ | refine WS.near rfl (o_boxH 1 rfl) rfl ?_ | refine WS.near rfl (o_rem (by omega) (by omega)) rfl ?_
        | refine WS.near rfl (o_add (by omega) (by omega)) rfl ?_ | fail)
    refine WS.puF hf rfl rfl (sizeR_pu (sat_in _)) ?_
    rw [size_sub]
    repeat' (first
        | refine W.seq ?_ | refine W.region ?_ | refine WS.nil ?_ | refine W.skip ?_ | refine W.block ?_ | refine W.ret ?_ | refine W.exit ?_ | refine W.yes rfl rfl ?_ | refine W.no rfl rfl ?_ | refine W.fork rfl (fun _ => ?_) (fun _ => ?_) | refine WS.guardT rfl ?_ | refine WS.guardF rfl rfl rfl ?_ | refine WS.guardV rfl rfl ?_ | refine WS.guardK rfl (fun _ => ?_) (fun _ => ?_) | refine WS.near rfl o_mov rfl ?_ | refine WS.near rfl o_pickT rfl ?_ | refine WS.near rfl o_pickF rfl ?_ | refine WS.near rfl o_lss rfl ?_ | refine WS.near rfl o_gtr rfl ?_ | refine WS.near rfl o_eql rfl ?_ | refine WS.near rfl o_faddr rfl ?_ | refine WS.near rfl (o_extract rfl) rfl ?_ | refine WS.near rfl (o_loadH rfl) rfl ?_ | refine WS.near rfl (o_loadHN rfl rfl) rfl ?_ | refine WS.near rfl (o_boxH 0 rfl) rfl ?_ | refine WS.near rfl (o_boxH 1 rfl) rfl ?_ | refine WS.near rfl (o_rem (by omega) (by omega)) rfl ?_
        | refine WS.near rfl (o_add (by omega) (by omega)) rfl ?_ | fail)
    refine W.loop (fun a : KS => [(3, .mptr (h.next + 0) 0), (6, .int .i64 (i : Nat)), (7, i64 (apartF (l.getD i 0) c.n)), (8, i64 a.reach), (9, i64 a.least), (10, .int .i64 (a.k : Nat))]) (fun _ => hp h [some d.cells, some (cdC c)])
      (fun a => a.k ≤ d.acts.length ∧ (0 ≤ a.reach ∧ a.reach ≤ 9223372036854775807) ∧ (1 ≤ a.most ∧ a.most ≤ 1000) ∧ ((a.least = 0 ∧ a.reach = 0 ∧ a.most = 1000) ∨ a.least = a.most) ∧ (d.acts.drop a.k).foldl (stepA (d.vars.getD i default)) (a.reach, a.most) = leastF (d.acts.map (·.a)) (d.vars.getD i default)) (fun a => d.acts.length - a.k)
      ⟨0, 0, 1000, 0⟩ ⟨Nat.zero_le _, ⟨by show (0 : Int) ≤ 0; omega, by show (0 : Int) ≤ _; omega⟩, ⟨by show (1 : Int) ≤ 1000; omega, by show (1000 : Int) ≤ 1000; omega⟩, .inl ⟨rfl, rfl, rfl⟩, by rw [List.drop_zero]; exact (least_map _ _ _).symm⟩ ⟨rfl, rfl, rfl, rfl, rfl, rfl, trivial⟩ rfl ?_
    rintro ⟨k, reach, most, least⟩ ⟨hk, ⟨r0, r1⟩, ⟨l0, l1⟩, hle, hr⟩
    simp only at hk r0 r1 l0 l1 hle hr ⊢
    repeat' (first
        | refine WS.near rfl (o_lenZ d.has) rfl ?_ | refine W.seq ?_ | refine W.region ?_ | refine WS.nil ?_ | refine W.skip ?_ | refine W.block ?_ | refine W.ret ?_ | refine W.exit ?_ | refine W.yes rfl rfl ?_ | refine W.no rfl rfl ?_ | refine W.fork rfl (fun _ => ?_) (fun _ => ?_) | refine WS.guardT rfl ?_ | refine WS.guardF rfl rfl rfl ?_ | refine WS.guardV rfl rfl ?_ | refine WS.guardK rfl (fun _ => ?_) (fun _ => ?_) | refine WS.near rfl o_mov rfl ?_ | refine WS.near rfl o_pickT rfl ?_ | refine WS.near rfl o_pickF rfl ?_ | refine WS.near rfl o_lss rfl ?_ | refine WS.near rfl o_gtr rfl ?_ | refine WS.near rfl o_eql rfl ?_ | refine WS.near rfl o_faddr rfl ?_ | refine WS.near rfl (o_extract rfl) rfl ?_ | refine WS.near rfl (o_loadH rfl) rfl ?_ | refine WS.near rfl (o_loadHN rfl rfl) rfl ?_ | refine WS.near rfl (o_boxH 0 rfl) rfl ?_ | refine WS.near rfl (o_boxH 1 rfl) rfl ?_
        | refine WS.near rfl (o_rem (by omega) (by omega)) rfl ?_ | refine WS.near rfl (o_add (by omega) (by omega)) rfl ?_ | fail)
    · have hlt : k < d.acts.length := by omega
      rw [fold_drop (d := default) hlt] at hr
      have hMI := hd.acts _ (getD_mem (d := default) hlt)
      have hat : ∀ {H : Heap}, Does (.iaddr 4 (.v d.acs) (.v (.int .i64 (k : Nat)))) H (.fptr (arC (d.acts.getD k default))) H := o_iaddrZ k d.has rfl (fz_at (d := default) k hlt) rfl
      generalize d.acts.getD k default = r at hr hMI hat ⊢
      have e1 : (k : Int) + 1 = ((k + 1 : Nat) : Int) := by omega
      have htn := turns_nn (d.vars.getD i default) r.a.make (0, false) (by simp)
      have hti : (turnsF r.a.make (d.vars.getD i default)).1 ≤ 9223372036854775807 := turns_le _ _
      have hcost := cost_in r.a.cost
      repeat' (first
          | refine WS.near rfl hat rfl ?_ | refine WS.near rfl (o_loadA rfl) rfl ?_ | refine WS.near rfl (o_iaddrZ i d.hvs rfl (fz_at (d := default) i hi) rfl) rfl ?_ | refine W.seq ?_ | refine W.region ?_ | refine WS.nil ?_ | refine W.skip ?_ | refine W.block ?_ | refine W.ret ?_ | refine W.exit ?_ | refine W.yes rfl rfl ?_ | refine W.no rfl rfl ?_ | refine W.fork rfl (fun _ => ?_) (fun _ => ?_) | refine WS.guardT rfl ?_ | refine WS.guardF rfl rfl rfl ?_ | refine WS.guardV rfl rfl ?_ | refine WS.guardK rfl (fun _ => ?_) (fun _ => ?_) | refine WS.near rfl o_mov rfl ?_ | refine WS.near rfl o_pickT rfl ?_ | refine WS.near rfl o_pickF rfl ?_ | refine WS.near rfl o_lss rfl ?_ | refine WS.near rfl o_gtr rfl ?_ | refine WS.near rfl o_eql rfl ?_ | refine WS.near rfl o_faddr rfl ?_ | refine WS.near rfl (o_extract rfl) rfl ?_ | refine WS.near rfl (o_loadH rfl) rfl ?_
          | refine WS.near rfl (o_loadHN rfl rfl) rfl ?_ | refine WS.near rfl (o_boxH 0 rfl) rfl ?_ | refine WS.near rfl (o_boxH 1 rfl) rfl ?_ | refine WS.near rfl (o_rem (by omega) (by omega)) rfl ?_ | refine WS.near rfl (o_add (by omega) (by omega)) rfl ?_ | fail)
      refine WS.puF hf rfl rfl (reachR_pu r (d.vars.getD i default) hMI hVI) ?_
      have htp := touchesR_pu r (d.vars.getD i default) hMI.2
      have htz := turns_zero (d.vars.getD i default) r.a.make
      have hst : stepA (d.vars.getD i default) (reach, most) r = if (turnsF r.a.make (d.vars.getD i default)).2 then (max reach (turnsF r.a.make (d.vars.getD i default)).1, min most (costF r.a.cost)) else (reach, most) := rfl
      rw [hst] at hr
      clear hst
      change 0 ≤ (turnsF r.a.make (d.vars.getD i default)).1 at htn
      generalize (turnsF r.a.make (d.vars.getD i default)).1 = tn at htn hti htz hr ⊢
      generalize (turnsF r.a.make (d.vars.getD i default)).2 = ok at htz htp hr
      repeat' (first
          | refine WS.near rfl hat rfl ?_ | refine WS.near rfl (o_loadA rfl) rfl ?_ | refine WS.near rfl (o_iaddrZ i d.hvs rfl (fz_at (d := default) i hi) rfl) rfl ?_ | refine W.seq ?_ | refine W.region ?_ | refine WS.nil ?_ | refine W.skip ?_ | refine W.block ?_ | refine W.ret ?_ | refine W.exit ?_ | refine W.yes rfl rfl ?_ | refine W.no rfl rfl ?_ | refine W.fork rfl (fun _ => ?_) (fun _ => ?_) | refine WS.guardT rfl ?_ | refine WS.guardF rfl rfl rfl ?_ | refine WS.guardV rfl rfl ?_ | refine WS.guardK rfl (fun _ => ?_) (fun _ => ?_) | refine WS.near rfl o_mov rfl ?_ | refine WS.near rfl o_pickT rfl ?_ | refine WS.near rfl o_pickF rfl ?_ | refine WS.near rfl o_lss rfl ?_ | refine WS.near rfl o_gtr rfl ?_ | refine WS.near rfl o_eql rfl ?_ | refine WS.near rfl o_faddr rfl ?_ | refine WS.near rfl (o_extract rfl) rfl ?_ | refine WS.near rfl (o_loadH rfl) rfl ?_
          | refine WS.near rfl (o_loadHN rfl rfl) rfl ?_ | refine WS.near rfl (o_boxH 0 rfl) rfl ?_ | refine WS.near rfl (o_boxH 1 rfl) rfl ?_ | refine WS.near rfl (o_rem (by omega) (by omega)) rfl ?_ | refine WS.near rfl (o_add (by omega) (by omega)) rfl ?_ | fail)
      · rename_i hbig
        cases ok with
        | false =>
          have hz := htz rfl
          simp only [Bool.false_eq_true, if_false] at hr
          exfalso; omega
        | true =>
          simp only [if_true] at hr
          have hmx : max reach tn = tn := by omega
          rw [hmx] at hr
          refine WS.puF hf rfl rfl htp ?_
          repeat' (first
              | refine WS.near rfl hat rfl ?_ | refine WS.near rfl (o_loadA rfl) rfl ?_ | refine WS.near rfl (o_iaddrZ i d.hvs rfl (fz_at (d := default) i hi) rfl) rfl ?_ | refine W.seq ?_ | refine W.region ?_ | refine WS.nil ?_ | refine W.skip ?_ | refine W.block ?_ | refine W.ret ?_ | refine W.exit ?_ | refine W.yes rfl rfl ?_ | refine W.no rfl rfl ?_ | refine W.fork rfl (fun _ => ?_) (fun _ => ?_) | refine WS.guardT rfl ?_ | refine WS.guardF rfl rfl rfl ?_ | refine WS.guardV rfl rfl ?_ | refine WS.guardK rfl (fun _ => ?_) (fun _ => ?_) | refine WS.near rfl o_mov rfl ?_ | refine WS.near rfl o_pickT rfl ?_ | refine WS.near rfl o_pickF rfl ?_ | refine WS.near rfl o_lss rfl ?_ | refine WS.near rfl o_gtr rfl ?_ | refine WS.near rfl o_eql rfl ?_ | refine WS.near rfl o_faddr rfl ?_ | refine WS.near rfl (o_extract rfl) rfl ?_ | refine WS.near rfl (o_loadH rfl) rfl ?_
              | refine WS.near rfl (o_loadHN rfl rfl) rfl ?_ | refine WS.near rfl (o_boxH 0 rfl) rfl ?_ | refine WS.near rfl (o_boxH 1 rfl) rfl ?_ | refine WS.near rfl (o_rem (by omega) (by omega)) rfl ?_ | refine WS.near rfl (o_add (by omega) (by omega)) rfl ?_ | fail)
          · rename_i h0
            have hmn : min most (costF r.a.cost) = costF r.a.cost := by omega
            rw [hmn] at hr
            refine WS.puF hf rfl rfl (costR_pu (s := .str r.a.name) (nd := r.nds) (mk := r.mks) (n := r.a.cost)) ?_
            repeat' (first
                | refine W.seq ?_ | refine W.region ?_ | refine WS.nil ?_ | refine W.skip ?_ | refine W.block ?_ | refine W.ret ?_ | refine W.exit ?_ | refine W.yes rfl rfl ?_ | refine W.no rfl rfl ?_ | refine W.fork rfl (fun _ => ?_) (fun _ => ?_) | refine WS.guardT rfl ?_ | refine WS.guardF rfl rfl rfl ?_ | refine WS.guardV rfl rfl ?_ | refine WS.guardK rfl (fun _ => ?_) (fun _ => ?_) | refine WS.near rfl o_mov rfl ?_ | refine WS.near rfl o_pickT rfl ?_ | refine WS.near rfl o_pickF rfl ?_ | refine WS.near rfl o_lss rfl ?_ | refine WS.near rfl o_gtr rfl ?_ | refine WS.near rfl o_eql rfl ?_ | refine WS.near rfl o_faddr rfl ?_ | refine WS.near rfl (o_extract rfl) rfl ?_ | refine WS.near rfl (o_loadH rfl) rfl ?_ | refine WS.near rfl (o_loadHN rfl rfl) rfl ?_ | refine WS.near rfl (o_boxH 0 rfl) rfl ?_ | refine WS.near rfl (o_boxH 1 rfl) rfl ?_ | refine WS.near rfl (o_rem (by omega) (by omega)) rfl ?_
                | refine WS.near rfl (o_add (by omega) (by omega)) rfl ?_ | fail)
            exact ⟨⟨k + 1, tn, costF r.a.cost, costF r.a.cost⟩, ⟨by show k + 1 ≤ d.acts.length; omega, ⟨by show 0 ≤ tn; omega, by show tn ≤ _; omega⟩, ⟨by show 1 ≤ costF r.a.cost; omega, by show costF r.a.cost ≤ _; omega⟩, .inr rfl, hr⟩, by show d.acts.length - (k + 1) < d.acts.length - k; omega, ⟨rfl, rfl, rfl, rfl, rfl, congrArg (fun z => some (V.int .i64 z)) e1, trivial⟩, rfl⟩
          · rename_i h0
            refine WS.puF hf rfl rfl (costR_pu (s := .str r.a.name) (nd := r.nds) (mk := r.mks) (n := r.a.cost)) ?_
            repeat' (first
                | refine WS.near rfl hat rfl ?_ | refine WS.near rfl (o_loadA rfl) rfl ?_ | refine WS.near rfl (o_iaddrZ i d.hvs rfl (fz_at (d := default) i hi) rfl) rfl ?_ | refine W.seq ?_ | refine W.region ?_ | refine WS.nil ?_ | refine W.skip ?_ | refine W.block ?_ | refine W.ret ?_ | refine W.exit ?_ | refine W.yes rfl rfl ?_ | refine W.no rfl rfl ?_ | refine W.fork rfl (fun _ => ?_) (fun _ => ?_) | refine WS.guardT rfl ?_ | refine WS.guardF rfl rfl rfl ?_ | refine WS.guardV rfl rfl ?_ | refine WS.guardK rfl (fun _ => ?_) (fun _ => ?_) | refine WS.near rfl o_mov rfl ?_ | refine WS.near rfl o_pickT rfl ?_ | refine WS.near rfl o_pickF rfl ?_ | refine WS.near rfl o_lss rfl ?_ | refine WS.near rfl o_gtr rfl ?_ | refine WS.near rfl o_eql rfl ?_ | refine WS.near rfl o_faddr rfl ?_ | refine WS.near rfl (o_extract rfl) rfl ?_ | refine WS.near rfl (o_loadH rfl) rfl ?_
                | refine WS.near rfl (o_loadHN rfl rfl) rfl ?_ | refine WS.near rfl (o_boxH 0 rfl) rfl ?_ | refine WS.near rfl (o_boxH 1 rfl) rfl ?_ | refine WS.near rfl (o_rem (by omega) (by omega)) rfl ?_ | refine WS.near rfl (o_add (by omega) (by omega)) rfl ?_ | fail)
            · rename_i h3
              have hmn : min most (costF r.a.cost) = costF r.a.cost := by omega
              rw [hmn] at hr
              refine WS.puF hf rfl rfl (costR_pu (s := .str r.a.name) (nd := r.nds) (mk := r.mks) (n := r.a.cost)) ?_
              repeat' (first
                  | refine W.seq ?_ | refine W.region ?_ | refine WS.nil ?_ | refine W.skip ?_ | refine W.block ?_ | refine W.ret ?_ | refine W.exit ?_ | refine W.yes rfl rfl ?_ | refine W.no rfl rfl ?_ | refine W.fork rfl (fun _ => ?_) (fun _ => ?_) | refine WS.guardT rfl ?_ | refine WS.guardF rfl rfl rfl ?_ | refine WS.guardV rfl rfl ?_ | refine WS.guardK rfl (fun _ => ?_) (fun _ => ?_) | refine WS.near rfl o_mov rfl ?_ | refine WS.near rfl o_pickT rfl ?_ | refine WS.near rfl o_pickF rfl ?_ | refine WS.near rfl o_lss rfl ?_ | refine WS.near rfl o_gtr rfl ?_ | refine WS.near rfl o_eql rfl ?_ | refine WS.near rfl o_faddr rfl ?_ | refine WS.near rfl (o_extract rfl) rfl ?_ | refine WS.near rfl (o_loadH rfl) rfl ?_ | refine WS.near rfl (o_loadHN rfl rfl) rfl ?_ | refine WS.near rfl (o_boxH 0 rfl) rfl ?_ | refine WS.near rfl (o_boxH 1 rfl) rfl ?_ | refine WS.near rfl (o_rem (by omega) (by omega)) rfl ?_
                  | refine WS.near rfl (o_add (by omega) (by omega)) rfl ?_ | fail)
              exact ⟨⟨k + 1, tn, costF r.a.cost, costF r.a.cost⟩, ⟨by show k + 1 ≤ d.acts.length; omega, ⟨by show 0 ≤ tn; omega, by show tn ≤ _; omega⟩, ⟨by show 1 ≤ costF r.a.cost; omega, by show costF r.a.cost ≤ _; omega⟩, .inr rfl, hr⟩, by show d.acts.length - (k + 1) < d.acts.length - k; omega, ⟨rfl, rfl, rfl, rfl, rfl, congrArg (fun z => some (V.int .i64 z)) e1, trivial⟩, rfl⟩
            · rename_i h3
              have hmn : min most (costF r.a.cost) = most := by omega
              rw [hmn] at hr
              exact ⟨⟨k + 1, tn, most, least⟩, ⟨by show k + 1 ≤ d.acts.length; omega, ⟨by show 0 ≤ tn; omega, by show tn ≤ _; omega⟩, ⟨by show 1 ≤ most; omega, by show most ≤ _; omega⟩, .inr (by show least = most; omega), hr⟩, by show d.acts.length - (k + 1) < d.acts.length - k; omega, ⟨rfl, rfl, rfl, rfl, rfl, congrArg (fun z => some (V.int .i64 z)) e1, trivial⟩, rfl⟩
      · rename_i hbig
        cases ok with
        | false =>
          have hz := htz rfl
          simp only [Bool.false_eq_true, if_false] at hr
          refine WS.puF hf rfl rfl htp ?_
          repeat' (first
              | refine W.seq ?_ | refine W.region ?_ | refine WS.nil ?_ | refine W.skip ?_ | refine W.block ?_ | refine W.ret ?_ | refine W.exit ?_ | refine W.yes rfl rfl ?_ | refine W.no rfl rfl ?_ | refine W.fork rfl (fun _ => ?_) (fun _ => ?_) | refine WS.guardT rfl ?_ | refine WS.guardF rfl rfl rfl ?_ | refine WS.guardV rfl rfl ?_ | refine WS.guardK rfl (fun _ => ?_) (fun _ => ?_) | refine WS.near rfl o_mov rfl ?_ | refine WS.near rfl o_pickT rfl ?_ | refine WS.near rfl o_pickF rfl ?_ | refine WS.near rfl o_lss rfl ?_ | refine WS.near rfl o_gtr rfl ?_ | refine WS.near rfl o_eql rfl ?_ | refine WS.near rfl o_faddr rfl ?_ | refine WS.near rfl (o_extract rfl) rfl ?_ | refine WS.near rfl (o_loadH rfl) rfl ?_ | refine WS.near rfl (o_loadHN rfl rfl) rfl ?_ | refine WS.near rfl (o_boxH 0 rfl) rfl ?_ | refine WS.near rfl (o_boxH 1 rfl) rfl ?_ | refine WS.near rfl (o_rem (by omega) (by omega)) rfl ?_
              | refine WS.near rfl (o_add (by omega) (by omega)) rfl ?_ | fail)
          exact ⟨⟨k + 1, reach, most, least⟩, ⟨by show k + 1 ≤ d.acts.length; omega, ⟨by show 0 ≤ reach; omega, by show reach ≤ _; omega⟩, ⟨by show 1 ≤ most; omega, by show most ≤ _; omega⟩, hle, hr⟩, by show d.acts.length - (k + 1) < d.acts.length - k; omega, ⟨rfl, rfl, rfl, rfl, rfl, congrArg (fun z => some (V.int .i64 z)) e1, trivial⟩, rfl⟩
        | true =>
          simp only [if_true] at hr
          have hmx : max reach tn = reach := by omega
          rw [hmx] at hr
          refine WS.puF hf rfl rfl htp ?_
          repeat' (first
              | refine WS.near rfl hat rfl ?_ | refine WS.near rfl (o_loadA rfl) rfl ?_ | refine WS.near rfl (o_iaddrZ i d.hvs rfl (fz_at (d := default) i hi) rfl) rfl ?_ | refine W.seq ?_ | refine W.region ?_ | refine WS.nil ?_ | refine W.skip ?_ | refine W.block ?_ | refine W.ret ?_ | refine W.exit ?_ | refine W.yes rfl rfl ?_ | refine W.no rfl rfl ?_ | refine W.fork rfl (fun _ => ?_) (fun _ => ?_) | refine WS.guardT rfl ?_ | refine WS.guardF rfl rfl rfl ?_ | refine WS.guardV rfl rfl ?_ | refine WS.guardK rfl (fun _ => ?_) (fun _ => ?_) | refine WS.near rfl o_mov rfl ?_ | refine WS.near rfl o_pickT rfl ?_ | refine WS.near rfl o_pickF rfl ?_ | refine WS.near rfl o_lss rfl ?_ | refine WS.near rfl o_gtr rfl ?_ | refine WS.near rfl o_eql rfl ?_ | refine WS.near rfl o_faddr rfl ?_ | refine WS.near rfl (o_extract rfl) rfl ?_ | refine WS.near rfl (o_loadH rfl) rfl ?_
              | refine WS.near rfl (o_loadHN rfl rfl) rfl ?_ | refine WS.near rfl (o_boxH 0 rfl) rfl ?_ | refine WS.near rfl (o_boxH 1 rfl) rfl ?_ | refine WS.near rfl (o_rem (by omega) (by omega)) rfl ?_ | refine WS.near rfl (o_add (by omega) (by omega)) rfl ?_ | fail)
          · rename_i h0
            have hmn : min most (costF r.a.cost) = costF r.a.cost := by omega
            rw [hmn] at hr
            refine WS.puF hf rfl rfl (costR_pu (s := .str r.a.name) (nd := r.nds) (mk := r.mks) (n := r.a.cost)) ?_
            repeat' (first
                | refine W.seq ?_ | refine W.region ?_ | refine WS.nil ?_ | refine W.skip ?_ | refine W.block ?_ | refine W.ret ?_ | refine W.exit ?_ | refine W.yes rfl rfl ?_ | refine W.no rfl rfl ?_ | refine W.fork rfl (fun _ => ?_) (fun _ => ?_) | refine WS.guardT rfl ?_ | refine WS.guardF rfl rfl rfl ?_ | refine WS.guardV rfl rfl ?_ | refine WS.guardK rfl (fun _ => ?_) (fun _ => ?_) | refine WS.near rfl o_mov rfl ?_ | refine WS.near rfl o_pickT rfl ?_ | refine WS.near rfl o_pickF rfl ?_ | refine WS.near rfl o_lss rfl ?_ | refine WS.near rfl o_gtr rfl ?_ | refine WS.near rfl o_eql rfl ?_ | refine WS.near rfl o_faddr rfl ?_ | refine WS.near rfl (o_extract rfl) rfl ?_ | refine WS.near rfl (o_loadH rfl) rfl ?_ | refine WS.near rfl (o_loadHN rfl rfl) rfl ?_ | refine WS.near rfl (o_boxH 0 rfl) rfl ?_ | refine WS.near rfl (o_boxH 1 rfl) rfl ?_ | refine WS.near rfl (o_rem (by omega) (by omega)) rfl ?_
                | refine WS.near rfl (o_add (by omega) (by omega)) rfl ?_ | fail)
            exact ⟨⟨k + 1, reach, costF r.a.cost, costF r.a.cost⟩, ⟨by show k + 1 ≤ d.acts.length; omega, ⟨by show 0 ≤ reach; omega, by show reach ≤ _; omega⟩, ⟨by show 1 ≤ costF r.a.cost; omega, by show costF r.a.cost ≤ _; omega⟩, .inr rfl, hr⟩, by show d.acts.length - (k + 1) < d.acts.length - k; omega, ⟨rfl, rfl, rfl, rfl, rfl, congrArg (fun z => some (V.int .i64 z)) e1, trivial⟩, rfl⟩
          · rename_i h0
            refine WS.puF hf rfl rfl (costR_pu (s := .str r.a.name) (nd := r.nds) (mk := r.mks) (n := r.a.cost)) ?_
            repeat' (first
                | refine WS.near rfl hat rfl ?_ | refine WS.near rfl (o_loadA rfl) rfl ?_ | refine WS.near rfl (o_iaddrZ i d.hvs rfl (fz_at (d := default) i hi) rfl) rfl ?_ | refine W.seq ?_ | refine W.region ?_ | refine WS.nil ?_ | refine W.skip ?_ | refine W.block ?_ | refine W.ret ?_ | refine W.exit ?_ | refine W.yes rfl rfl ?_ | refine W.no rfl rfl ?_ | refine W.fork rfl (fun _ => ?_) (fun _ => ?_) | refine WS.guardT rfl ?_ | refine WS.guardF rfl rfl rfl ?_ | refine WS.guardV rfl rfl ?_ | refine WS.guardK rfl (fun _ => ?_) (fun _ => ?_) | refine WS.near rfl o_mov rfl ?_ | refine WS.near rfl o_pickT rfl ?_ | refine WS.near rfl o_pickF rfl ?_ | refine WS.near rfl o_lss rfl ?_ | refine WS.near rfl o_gtr rfl ?_ | refine WS.near rfl o_eql rfl ?_ | refine WS.near rfl o_faddr rfl ?_ | refine WS.near rfl (o_extract rfl) rfl ?_ | refine WS.near rfl (o_loadH rfl) rfl ?_
                | refine WS.near rfl (o_loadHN rfl rfl) rfl ?_ | refine WS.near rfl (o_boxH 0 rfl) rfl ?_ | refine WS.near rfl (o_boxH 1 rfl) rfl ?_ | refine WS.near rfl (o_rem (by omega) (by omega)) rfl ?_ | refine WS.near rfl (o_add (by omega) (by omega)) rfl ?_ | fail)
            · rename_i h3
              have hmn : min most (costF r.a.cost) = costF r.a.cost := by omega
              rw [hmn] at hr
              refine WS.puF hf rfl rfl (costR_pu (s := .str r.a.name) (nd := r.nds) (mk := r.mks) (n := r.a.cost)) ?_
              repeat' (first
                  | refine W.seq ?_ | refine W.region ?_ | refine WS.nil ?_ | refine W.skip ?_ | refine W.block ?_ | refine W.ret ?_ | refine W.exit ?_ | refine W.yes rfl rfl ?_ | refine W.no rfl rfl ?_ | refine W.fork rfl (fun _ => ?_) (fun _ => ?_) | refine WS.guardT rfl ?_ | refine WS.guardF rfl rfl rfl ?_ | refine WS.guardV rfl rfl ?_ | refine WS.guardK rfl (fun _ => ?_) (fun _ => ?_) | refine WS.near rfl o_mov rfl ?_ | refine WS.near rfl o_pickT rfl ?_ | refine WS.near rfl o_pickF rfl ?_ | refine WS.near rfl o_lss rfl ?_ | refine WS.near rfl o_gtr rfl ?_ | refine WS.near rfl o_eql rfl ?_ | refine WS.near rfl o_faddr rfl ?_ | refine WS.near rfl (o_extract rfl) rfl ?_ | refine WS.near rfl (o_loadH rfl) rfl ?_ | refine WS.near rfl (o_loadHN rfl rfl) rfl ?_ | refine WS.near rfl (o_boxH 0 rfl) rfl ?_ | refine WS.near rfl (o_boxH 1 rfl) rfl ?_ | refine WS.near rfl (o_rem (by omega) (by omega)) rfl ?_
                  | refine WS.near rfl (o_add (by omega) (by omega)) rfl ?_ | fail)
              exact ⟨⟨k + 1, reach, costF r.a.cost, costF r.a.cost⟩, ⟨by show k + 1 ≤ d.acts.length; omega, ⟨by show 0 ≤ reach; omega, by show reach ≤ _; omega⟩, ⟨by show 1 ≤ costF r.a.cost; omega, by show costF r.a.cost ≤ _; omega⟩, .inr rfl, hr⟩, by show d.acts.length - (k + 1) < d.acts.length - k; omega, ⟨rfl, rfl, rfl, rfl, rfl, congrArg (fun z => some (V.int .i64 z)) e1, trivial⟩, rfl⟩
            · rename_i h3
              have hmn : min most (costF r.a.cost) = most := by omega
              rw [hmn] at hr
              exact ⟨⟨k + 1, reach, most, least⟩, ⟨by show k + 1 ≤ d.acts.length; omega, ⟨by show 0 ≤ reach; omega, by show reach ≤ _; omega⟩, ⟨by show 1 ≤ most; omega, by show most ≤ _; omega⟩, .inr (by show least = most; omega), hr⟩, by show d.acts.length - (k + 1) < d.acts.length - k; omega, ⟨rfl, rfl, rfl, rfl, rfl, congrArg (fun z => some (V.int .i64 z)) e1, trivial⟩, rfl⟩
    · rename_i hz
      have hge : d.acts.drop k = [] := List.drop_eq_nil_of_le (by omega)
      rw [hge] at hr
      have hr' : (reach, most) = leastF (d.acts.map (·.a)) (d.vars.getD i default) := hr
      unfold valF at hres
      rw [← hr'] at hres
      simp only at hres
      unfold In64 at hgi
      rw [if_pos hz] at hres
      exact ⟨_, rfl, fin_int hres.symm⟩
    · rename_i hz
      have hge : d.acts.drop k = [] := List.drop_eq_nil_of_le (by omega)
      rw [hge] at hr
      have hr' : (reach, most) = leastF (d.acts.map (·.a)) (d.vars.getD i default) := hr
      unfold valF at hres
      rw [← hr'] at hres
      simp only at hres
      unfold In64 at hgi
      rw [if_neg hz] at hres
      have hlm : least = most := by omega
      subst hlm
      generalize apartF (l.getD i 0) c.n = g at hgap hgi hres ⊢
      have q0 : 0 ≤ g / reach := Int.ediv_nonneg (by omega) (by omega)
      have q1 : g / reach ≤ g := Int.ediv_le_self reach (by omega)
      have hce := ceil_eq (g := g) (m := reach) hgap (by omega)
      rw [hce] at hres
      refine WS.near rfl (o_quo (by omega) (by omega) (by omega)) rfl ?_
      repeat' (first
          | refine W.seq ?_ | refine W.region ?_ | refine WS.nil ?_ | refine W.skip ?_ | refine W.block ?_ | refine W.ret ?_ | refine W.exit ?_ | refine W.yes rfl rfl ?_ | refine W.no rfl rfl ?_ | refine W.fork rfl (fun _ => ?_) (fun _ => ?_) | refine WS.guardT rfl ?_ | refine WS.guardF rfl rfl rfl ?_ | refine WS.guardV rfl rfl ?_ | refine WS.guardK rfl (fun _ => ?_) (fun _ => ?_) | refine WS.near rfl o_mov rfl ?_ | refine WS.near rfl o_pickT rfl ?_ | refine WS.near rfl o_pickF rfl ?_ | refine WS.near rfl o_lss rfl ?_ | refine WS.near rfl o_gtr rfl ?_ | refine WS.near rfl o_eql rfl ?_ | refine WS.near rfl o_faddr rfl ?_ | refine WS.near rfl (o_extract rfl) rfl ?_ | refine WS.near rfl (o_loadH rfl) rfl ?_ | refine WS.near rfl (o_loadHN rfl rfl) rfl ?_ | refine WS.near rfl (o_boxH 0 rfl) rfl ?_ | refine WS.near rfl (o_boxH 1 rfl) rfl ?_ | refine WS.near rfl (o_rem (by omega) (by omega)) rfl ?_
          | refine WS.near rfl (o_add (by omega) (by omega)) rfl ?_ | fail)
      · rename_i hrem
        rw [if_pos hrem] at hres hce
        have q2 : 0 ≤ (g - 1) / reach := Int.ediv_nonneg (by omega) (by omega)
        have q3 : (g - 1) / reach ≤ g - 1 := Int.ediv_le_self reach (by omega)
        repeat' (first
            | refine W.seq ?_ | refine W.region ?_ | refine WS.nil ?_ | refine W.skip ?_ | refine W.block ?_ | refine W.ret ?_ | refine W.exit ?_ | refine W.yes rfl rfl ?_ | refine W.no rfl rfl ?_ | refine W.fork rfl (fun _ => ?_) (fun _ => ?_) | refine WS.guardT rfl ?_ | refine WS.guardF rfl rfl rfl ?_ | refine WS.guardV rfl rfl ?_ | refine WS.guardK rfl (fun _ => ?_) (fun _ => ?_) | refine WS.near rfl o_mov rfl ?_ | refine WS.near rfl o_pickT rfl ?_ | refine WS.near rfl o_pickF rfl ?_ | refine WS.near rfl o_lss rfl ?_ | refine WS.near rfl o_gtr rfl ?_ | refine WS.near rfl o_eql rfl ?_ | refine WS.near rfl o_faddr rfl ?_ | refine WS.near rfl (o_extract rfl) rfl ?_ | refine WS.near rfl (o_loadH rfl) rfl ?_ | refine WS.near rfl (o_loadHN rfl rfl) rfl ?_ | refine WS.near rfl (o_boxH 0 rfl) rfl ?_ | refine WS.near rfl (o_boxH 1 rfl) rfl ?_ | refine WS.near rfl (o_rem (by omega) (by omega)) rfl ?_
            | refine WS.near rfl (o_add (by omega) (by omega)) rfl ?_ | fail)
        refine WS.puF hf rfl rfl (mulR_pu (a := g / reach + 1) (b := least) (by omega) (by unfold In64; omega) (by omega) l1) ?_
        repeat' (first
            | refine W.seq ?_ | refine W.region ?_ | refine WS.nil ?_ | refine W.skip ?_ | refine W.block ?_ | refine W.ret ?_ | refine W.exit ?_ | refine W.yes rfl rfl ?_ | refine W.no rfl rfl ?_ | refine W.fork rfl (fun _ => ?_) (fun _ => ?_) | refine WS.guardT rfl ?_ | refine WS.guardF rfl rfl rfl ?_ | refine WS.guardV rfl rfl ?_ | refine WS.guardK rfl (fun _ => ?_) (fun _ => ?_) | refine WS.near rfl o_mov rfl ?_ | refine WS.near rfl o_pickT rfl ?_ | refine WS.near rfl o_pickF rfl ?_ | refine WS.near rfl o_lss rfl ?_ | refine WS.near rfl o_gtr rfl ?_ | refine WS.near rfl o_eql rfl ?_ | refine WS.near rfl o_faddr rfl ?_ | refine WS.near rfl (o_extract rfl) rfl ?_ | refine WS.near rfl (o_loadH rfl) rfl ?_ | refine WS.near rfl (o_loadHN rfl rfl) rfl ?_ | refine WS.near rfl (o_boxH 0 rfl) rfl ?_ | refine WS.near rfl (o_boxH 1 rfl) rfl ?_ | refine WS.near rfl (o_rem (by omega) (by omega)) rfl ?_
            | refine WS.near rfl (o_add (by omega) (by omega)) rfl ?_ | fail)
        exact ⟨_, rfl, fin_int hres.symm⟩
      · rename_i hrem
        rw [if_neg hrem] at hres hce
        have q2 : 0 ≤ (g - 1) / reach := Int.ediv_nonneg (by omega) (by omega)
        refine WS.puF hf rfl rfl (mulR_pu (a := g / reach) (b := least) (by omega) (by unfold In64; omega) (by omega) l1) ?_
        repeat' (first
            | refine W.seq ?_ | refine W.region ?_ | refine WS.nil ?_ | refine W.skip ?_ | refine W.block ?_ | refine W.ret ?_ | refine W.exit ?_ | refine W.yes rfl rfl ?_ | refine W.no rfl rfl ?_ | refine W.fork rfl (fun _ => ?_) (fun _ => ?_) | refine WS.guardT rfl ?_ | refine WS.guardF rfl rfl rfl ?_ | refine WS.guardV rfl rfl ?_ | refine WS.guardK rfl (fun _ => ?_) (fun _ => ?_) | refine WS.near rfl o_mov rfl ?_ | refine WS.near rfl o_pickT rfl ?_ | refine WS.near rfl o_pickF rfl ?_ | refine WS.near rfl o_lss rfl ?_ | refine WS.near rfl o_gtr rfl ?_ | refine WS.near rfl o_eql rfl ?_ | refine WS.near rfl o_faddr rfl ?_ | refine WS.near rfl (o_extract rfl) rfl ?_ | refine WS.near rfl (o_loadH rfl) rfl ?_ | refine WS.near rfl (o_loadHN rfl rfl) rfl ?_ | refine WS.near rfl (o_boxH 0 rfl) rfl ?_ | refine WS.near rfl (o_boxH 1 rfl) rfl ?_ | refine WS.near rfl (o_rem (by omega) (by omega)) rfl ?_
            | refine WS.near rfl (o_add (by omega) (by omega)) rfl ?_ | fail)
        exact ⟨_, rfl, fin_int hres.symm⟩
end Go.Proofs.YtpaadclighadaaaDoor.CodesG
