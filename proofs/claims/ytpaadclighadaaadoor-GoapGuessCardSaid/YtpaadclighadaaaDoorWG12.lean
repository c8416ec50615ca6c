/- GoapGuess: whatever the domain, the state and the act. -/
import Derived.Test.YtpaadclighadaaaDoorWG11
namespace Go.Proofs.YtpaadclighadaaaDoor.CodesG
open Go Go.Ab Go.Goap
set_option maxHeartbeats 800000
set_option maxRecDepth 100000

theorem state_some {d : DR} {l : List Int} {act : Int} {L : List Int} (h : stateF d l act = some L) : ∃ k : Nat, act = k ∧ k < d.acts.length ∧ afterF d.dom l (d.acts.getD k default).a = some L := by
  unfold stateF at h
  split at h
  · rename_i hc
    obtain ⟨k, rfl⟩ := Int.eq_ofNat_of_zero_le hc.1
    exact ⟨k, rfl, by omega, h⟩
  · cases h
theorem after_in {d : DR} (hf : Few d.vars) {l L : List Int} {a : PAct} (h : afterF d.dom l a = some L) (i : Nat) : In64 (L.getD i 0) := by
  unfold afterF at h
  split at h
  · cases h
    have hl := cut_len d.vars l
    by_cases hi : i < d.vars.length
    · have h1 := makes_in hf a.make (cutF d.vars l) hl (fun i hi => by
        rw [cut_at d.vars l i hi]
        have := (hf i hi).2.2
        unfold cutIn
        omega) i hi
      have h2 := hf i hi
      show In64 ((makesF d.vars (cutF d.vars l) a.make).getD i 0)
      unfold In64
      omega
    · have : (makesF d.vars (cutF d.vars l) a.make).getD i 0 = 0 := by
        have h3 := makes_len d.vars a.make (cutF d.vars l)
        simp [List.getD, List.getElem?_eq_none (by omega : (makesF d.vars (cutF d.vars l) a.make).length ≤ i)]
      show In64 ((makesF d.vars (cutF d.vars l) a.make).getD i 0)
      rw [this]
      exact in0
  · cases h
theorem guessLaw_pu (d : DR) (hd : DLit d) (hv : d.vars.length ≤ 9223372036854775807) (ha : d.acts.length ≤ 9223372036854775807) {v : V} {l : List Int} (hu : IsInts v l) (hli : ∀ i, In64 (l.getD i 0)) (act : Int) : PuF D1 4 [d.v, v, i64 act] (.bool true) := by
  have hvm : (d.vars.map varV).length = d.vars.length := List.length_map ..
  have ham : (d.acts.map AR.v).length = d.acts.length := List.length_map ..
  have hgm : (d.goal.map cdV).length = d.goal.length := List.length_map ..
  have hfew := few_pu d hv ha
  refine PuF.tidy rfl rfl rfl rfl rfl fun h hf => ?_
  repeat' (first
      | refine W.seq ?_ | refine W.region ?_ | refine WS.nil ?_ | refine W.skip ?_ | refine W.block ?_ | refine W.ret ?_ | refine W.exit ?_ | refine W.yes rfl rfl ?_ | refine W.no rfl rfl ?_ | refine W.fork rfl (fun _ => ?_) (fun _ => ?_) | refine WS.guardT rfl ?_ | refine WS.guardF rfl rfl rfl ?_ | refine WS.guardK rfl (fun _ => ?_) (fun _ => ?_) | refine WS.near rfl o_mov rfl ?_ | refine WS.near rfl o_pickT rfl ?_ | refine WS.near rfl o_pickF rfl ?_ | refine WS.near rfl o_notT rfl ?_ | refine WS.near rfl o_notF rfl ?_ | refine WS.near rfl o_lss rfl ?_ | refine WS.near rfl o_leq rfl ?_ | refine WS.near rfl o_gtr rfl ?_ | refine WS.near rfl o_geq rfl ?_ | refine WS.near rfl o_faddr rfl ?_ | refine WS.near rfl o_loadF rfl ?_ | refine WS.near rfl (o_extract rfl) rfl ?_ | refine WS.near rfl (o_loadH rfl) rfl ?_ | refine WS.near rfl (o_loadHN rfl rfl) rfl ?_
      | refine WS.near rfl (o_boxH 0 rfl) rfl ?_ | refine WS.near rfl (o_add (by omega) (by omega)) rfl ?_ | refine WS.near rfl (o_faddrF (Nat.le_of_ble_eq_true rfl)) rfl ?_)
  refine WS.puF hf rfl rfl alive_pu ?_
  cases hfb : fewB d with
  | false =>
    rw [hfb] at hfew
    repeat' (first
        | refine W.seq ?_ | refine W.region ?_ | refine WS.nil ?_ | refine W.skip ?_ | refine W.block ?_ | refine W.ret ?_ | refine W.exit ?_ | refine W.yes rfl rfl ?_ | refine W.no rfl rfl ?_ | refine W.fork rfl (fun _ => ?_) (fun _ => ?_) | refine WS.guardT rfl ?_ | refine WS.guardF rfl rfl rfl ?_ | refine WS.guardK rfl (fun _ => ?_) (fun _ => ?_) | refine WS.near rfl o_mov rfl ?_ | refine WS.near rfl o_pickT rfl ?_ | refine WS.near rfl o_pickF rfl ?_ | refine WS.near rfl o_notT rfl ?_ | refine WS.near rfl o_notF rfl ?_ | refine WS.near rfl o_lss rfl ?_ | refine WS.near rfl o_leq rfl ?_ | refine WS.near rfl o_gtr rfl ?_ | refine WS.near rfl o_geq rfl ?_ | refine WS.near rfl o_faddr rfl ?_ | refine WS.near rfl o_loadF rfl ?_ | refine WS.near rfl (o_extract rfl) rfl ?_ | refine WS.near rfl (o_loadH rfl) rfl ?_ | refine WS.near rfl (o_loadHN rfl rfl) rfl ?_
        | refine WS.near rfl (o_boxH 0 rfl) rfl ?_ | refine WS.near rfl (o_add (by omega) (by omega)) rfl ?_ | refine WS.near rfl (o_faddrF (Nat.le_of_ble_eq_true rfl)) rfl ?_)
    refine WS.puF hf rfl rfl hfew ?_
    repeat' (first
        | refine W.seq ?_ | refine W.region ?_ | refine WS.nil ?_ | refine W.skip ?_ | refine W.block ?_ | refine W.ret ?_ | refine W.exit ?_ | refine W.yes rfl rfl ?_ | refine W.no rfl rfl ?_ | refine W.fork rfl (fun _ => ?_) (fun _ => ?_) | refine WS.guardT rfl ?_ | refine WS.guardF rfl rfl rfl ?_ | refine WS.guardK rfl (fun _ => ?_) (fun _ => ?_) | refine WS.near rfl o_mov rfl ?_ | refine WS.near rfl o_pickT rfl ?_ | refine WS.near rfl o_pickF rfl ?_ | refine WS.near rfl o_notT rfl ?_ | refine WS.near rfl o_notF rfl ?_ | refine WS.near rfl o_lss rfl ?_ | refine WS.near rfl o_leq rfl ?_ | refine WS.near rfl o_gtr rfl ?_ | refine WS.near rfl o_geq rfl ?_ | refine WS.near rfl o_faddr rfl ?_ | refine WS.near rfl o_loadF rfl ?_ | refine WS.near rfl (o_extract rfl) rfl ?_ | refine WS.near rfl (o_loadH rfl) rfl ?_ | refine WS.near rfl (o_loadHN rfl rfl) rfl ?_
        | refine WS.near rfl (o_boxH 0 rfl) rfl ?_ | refine WS.near rfl (o_add (by omega) (by omega)) rfl ?_ | refine WS.near rfl (o_faddrF (Nat.le_of_ble_eq_true rfl)) rfl ?_)
    exact ⟨_, rfl, fin_bool rfl⟩
  | true =>
    rw [hfb] at hfew
    obtain ⟨hF, hA, hvn, han, hgn⟩ := few_spec hfb
    repeat' (first
        | refine W.seq ?_ | refine W.region ?_ | refine WS.nil ?_ | refine W.skip ?_ | refine W.block ?_ | refine W.ret ?_ | refine W.exit ?_ | refine W.yes rfl rfl ?_ | refine W.no rfl rfl ?_ | refine W.fork rfl (fun _ => ?_) (fun _ => ?_) | refine WS.guardT rfl ?_ | refine WS.guardF rfl rfl rfl ?_ | refine WS.guardK rfl (fun _ => ?_) (fun _ => ?_) | refine WS.near rfl o_mov rfl ?_ | refine WS.near rfl o_pickT rfl ?_ | refine WS.near rfl o_pickF rfl ?_ | refine WS.near rfl o_notT rfl ?_ | refine WS.near rfl o_notF rfl ?_ | refine WS.near rfl o_lss rfl ?_ | refine WS.near rfl o_leq rfl ?_ | refine WS.near rfl o_gtr rfl ?_ | refine WS.near rfl o_geq rfl ?_ | refine WS.near rfl o_faddr rfl ?_ | refine WS.near rfl o_loadF rfl ?_ | refine WS.near rfl (o_extract rfl) rfl ?_ | refine WS.near rfl (o_loadH rfl) rfl ?_ | refine WS.near rfl (o_loadHN rfl rfl) rfl ?_
        | refine WS.near rfl (o_boxH 0 rfl) rfl ?_ | refine WS.near rfl (o_add (by omega) (by omega)) rfl ?_ | refine WS.near rfl (o_faddrF (Nat.le_of_ble_eq_true rfl)) rfl ?_)
    refine WS.puF hf rfl rfl hfew ?_
    repeat' (first
        | refine WS.near rfl (o_lenA (ints_shut hu)) rfl ?_ | refine W.seq ?_ | refine W.region ?_ | refine WS.nil ?_ | refine W.skip ?_ | refine W.block ?_ | refine W.ret ?_ | refine W.exit ?_ | refine W.yes rfl rfl ?_ | refine W.no rfl rfl ?_ | refine W.fork rfl (fun _ => ?_) (fun _ => ?_) | refine WS.guardT rfl ?_ | refine WS.guardF rfl rfl rfl ?_ | refine WS.guardK rfl (fun _ => ?_) (fun _ => ?_) | refine WS.near rfl o_mov rfl ?_ | refine WS.near rfl o_pickT rfl ?_ | refine WS.near rfl o_pickF rfl ?_ | refine WS.near rfl o_notT rfl ?_ | refine WS.near rfl o_notF rfl ?_ | refine WS.near rfl o_lss rfl ?_ | refine WS.near rfl o_leq rfl ?_ | refine WS.near rfl o_gtr rfl ?_ | refine WS.near rfl o_geq rfl ?_ | refine WS.near rfl o_faddr rfl ?_ | refine WS.near rfl o_loadF rfl ?_ | refine WS.near rfl (o_extract rfl) rfl ?_ | refine WS.near rfl (o_loadH rfl) rfl ?_
        | refine WS.near rfl (o_loadHN rfl rfl) rfl ?_ | refine WS.near rfl (o_boxH 0 rfl) rfl ?_ | refine WS.near rfl (o_add (by omega) (by omega)) rfl ?_ | refine WS.near rfl (o_faddrF (Nat.le_of_ble_eq_true rfl)) rfl ?_)
    · exact ⟨_, rfl, fin_bool rfl⟩
    refine W.loop (fun i : Nat => [(1, v), (2, i64 act), (3, .mptr (h.next + 0) 0), (6, .int .i64 (i : Nat))]) (fun _ => hp h [some d.cells])
      (fun i => i ≤ d.goal.length ∧ ∀ j, j < i → -1000 ≤ (d.goal.getD j default).n ∧ (d.goal.getD j default).n ≤ 1000) (fun i => d.goal.length - i)
      0 ⟨Nat.zero_le _, fun j hj => absurd hj (Nat.not_lt_zero _)⟩ ⟨rfl, rfl, rfl, rfl, trivial⟩ rfl ?_
    rintro i ⟨hi, hs⟩
    repeat' (first
        | refine WS.near rfl (o_lenZ d.hgl) rfl ?_ | refine W.seq ?_ | refine W.region ?_ | refine WS.nil ?_ | refine W.skip ?_ | refine W.block ?_ | refine W.ret ?_ | refine W.exit ?_ | refine W.yes rfl rfl ?_ | refine W.no rfl rfl ?_ | refine W.fork rfl (fun _ => ?_) (fun _ => ?_) | refine WS.guardT rfl ?_ | refine WS.guardF rfl rfl rfl ?_ | refine WS.guardK rfl (fun _ => ?_) (fun _ => ?_) | refine WS.near rfl o_mov rfl ?_ | refine WS.near rfl o_pickT rfl ?_ | refine WS.near rfl o_pickF rfl ?_ | refine WS.near rfl o_notT rfl ?_ | refine WS.near rfl o_notF rfl ?_ | refine WS.near rfl o_lss rfl ?_ | refine WS.near rfl o_leq rfl ?_ | refine WS.near rfl o_gtr rfl ?_ | refine WS.near rfl o_geq rfl ?_ | refine WS.near rfl o_faddr rfl ?_ | refine WS.near rfl o_loadF rfl ?_ | refine WS.near rfl (o_extract rfl) rfl ?_ | refine WS.near rfl (o_loadH rfl) rfl ?_
        | refine WS.near rfl (o_loadHN rfl rfl) rfl ?_ | refine WS.near rfl (o_boxH 0 rfl) rfl ?_ | refine WS.near rfl (o_add (by omega) (by omega)) rfl ?_ | refine WS.near rfl (o_faddrF (Nat.le_of_ble_eq_true rfl)) rfl ?_)
    · have hlt : i < d.goal.length := by omega
      have hsi : ∀ x, (d.goal.getD i default).n = x → -1000 ≤ x → x ≤ 1000 → ∀ j, j < i + 1 → -1000 ≤ (d.goal.getD j default).n ∧ (d.goal.getD j default).n ≤ 1000 := fun x hx h1 h2 j hj => by
        by_cases hji : j = i
        · subst hji; omega
        · exact hs j (by omega)
      have hat : ∀ {H : Heap}, Does (.iaddr 3 (.v d.gl) (.v (.int .i64 (i : Nat)))) H (.fptr (cdC (d.goal.getD i default))) H := o_iaddrZ i d.hgl rfl (fz_at (d := default) i hlt) rfl
      generalize d.goal.getD i default = r at hsi hat
      have e1 : (i : Int) + 1 = ((i + 1 : Nat) : Int) := by omega
      repeat' (first
          | refine WS.near rfl hat rfl ?_ | refine W.seq ?_ | refine W.region ?_ | refine WS.nil ?_ | refine W.skip ?_ | refine W.block ?_ | refine W.ret ?_ | refine W.exit ?_ | refine W.yes rfl rfl ?_ | refine W.no rfl rfl ?_ | refine W.fork rfl (fun _ => ?_) (fun _ => ?_) | refine WS.guardT rfl ?_ | refine WS.guardF rfl rfl rfl ?_ | refine WS.guardK rfl (fun _ => ?_) (fun _ => ?_) | refine WS.near rfl o_mov rfl ?_ | refine WS.near rfl o_pickT rfl ?_ | refine WS.near rfl o_pickF rfl ?_ | refine WS.near rfl o_notT rfl ?_ | refine WS.near rfl o_notF rfl ?_ | refine WS.near rfl o_lss rfl ?_ | refine WS.near rfl o_leq rfl ?_ | refine WS.near rfl o_gtr rfl ?_ | refine WS.near rfl o_geq rfl ?_ | refine WS.near rfl o_faddr rfl ?_ | refine WS.near rfl o_loadF rfl ?_ | refine WS.near rfl (o_extract rfl) rfl ?_ | refine WS.near rfl (o_loadH rfl) rfl ?_ | refine WS.near rfl (o_loadHN rfl rfl) rfl ?_
          | refine WS.near rfl (o_boxH 0 rfl) rfl ?_ | refine WS.near rfl (o_add (by omega) (by omega)) rfl ?_ | refine WS.near rfl (o_faddrF (Nat.le_of_ble_eq_true rfl)) rfl ?_)
      all_goals first | exact ⟨_, rfl, fin_bool rfl⟩ | skip
      exact ⟨i + 1, ⟨by omega, hsi _ rfl (by omega) (by omega)⟩, by show d.goal.length - (i + 1) < d.goal.length - i; omega, ⟨rfl, rfl, rfl, congrArg (fun z => some (V.int .i64 z)) e1, trivial⟩, rfl⟩
    · have hin : i = d.goal.length := by omega
      have hgl : ∀ c ∈ d.goal, -1000 ≤ c.n ∧ c.n ≤ 1000 := fun c hc => by
        obtain ⟨j, hj, e⟩ := List.mem_iff_getElem.1 hc
        have := hs j (by omega)
        simp only [List.getD, List.getElem?_eq_getElem hj, Option.getD_some, e] at this
        exact this
      have hD : DIn d := ⟨hd.vars, fun r hr => ⟨hd.makes r hr, by have := (hA r hr).2; omega⟩, by omega, by omega⟩
      have hN : NIn d := ⟨fun r hr => by have := (hA r hr).1; omega⟩
      have hb0 : bget [some d.cells] 0 = some d.cells := rfl
      repeat' (first
          | refine W.seq ?_ | refine W.region ?_ | refine WS.nil ?_ | refine W.skip ?_ | refine W.block ?_ | refine W.ret ?_ | refine W.exit ?_ | refine W.yes rfl rfl ?_ | refine W.no rfl rfl ?_ | refine W.fork rfl (fun _ => ?_) (fun _ => ?_) | refine WS.guardT rfl ?_ | refine WS.guardF rfl rfl rfl ?_ | refine WS.guardK rfl (fun _ => ?_) (fun _ => ?_) | refine WS.near rfl o_mov rfl ?_ | refine WS.near rfl o_pickT rfl ?_ | refine WS.near rfl o_pickF rfl ?_ | refine WS.near rfl o_notT rfl ?_ | refine WS.near rfl o_notF rfl ?_ | refine WS.near rfl o_lss rfl ?_ | refine WS.near rfl o_leq rfl ?_ | refine WS.near rfl o_gtr rfl ?_ | refine WS.near rfl o_geq rfl ?_ | refine WS.near rfl o_faddr rfl ?_ | refine WS.near rfl o_loadF rfl ?_ | refine WS.near rfl (o_extract rfl) rfl ?_ | refine WS.near rfl (o_loadH rfl) rfl ?_ | refine WS.near rfl (o_loadHN rfl rfl) rfl ?_
          | refine WS.near rfl (o_boxH 0 rfl) rfl ?_ | refine WS.near rfl (o_add (by omega) (by omega)) rfl ?_ | refine WS.near rfl (o_faddrF (Nat.le_of_ble_eq_true rfl)) rfl ?_)
      refine WS.call rfl rfl (After_w d hD hN hli act _ (hp_fine hf) (ints_shut hu)) fun r h' he => ?_
      obtain ⟨b2, u1, ok1, rfl, rfl, hok1, hu1, _⟩ := ends_ints he
      have hb2 : bget ([some d.cells] ++ b2) 0 = some d.cells := bget_old hb0
      generalize [some d.cells] ++ b2 = bs at hb2 hu1 ⊢
      subst hok1
      cases hst : stateF d l act with
      | none =>
        repeat' (first
            | refine WS.near rfl (o_loadH (hload_of hb2 rfl)) rfl ?_ | refine WS.near rfl (o_lenZ d.has) rfl ?_ | refine W.seq ?_ | refine W.region ?_ | refine WS.nil ?_ | refine W.skip ?_ | refine W.block ?_ | refine W.ret ?_ | refine W.exit ?_ | refine W.yes rfl rfl ?_ | refine W.no rfl rfl ?_ | refine W.fork rfl (fun _ => ?_) (fun _ => ?_) | refine WS.guardT rfl ?_ | refine WS.guardF rfl rfl rfl ?_ | refine WS.guardK rfl (fun _ => ?_) (fun _ => ?_) | refine WS.near rfl o_mov rfl ?_ | refine WS.near rfl o_pickT rfl ?_ | refine WS.near rfl o_pickF rfl ?_ | refine WS.near rfl o_notT rfl ?_ | refine WS.near rfl o_notF rfl ?_ | refine WS.near rfl o_lss rfl ?_ | refine WS.near rfl o_leq rfl ?_ | refine WS.near rfl o_gtr rfl ?_ | refine WS.near rfl o_geq rfl ?_ | refine WS.near rfl o_faddr rfl ?_ | refine WS.near rfl o_loadF rfl ?_ | refine WS.near rfl (o_extract rfl) rfl ?_
            | refine WS.near rfl (o_loadH rfl) rfl ?_ | refine WS.near rfl (o_loadHN rfl rfl) rfl ?_ | refine WS.near rfl (o_boxH 0 rfl) rfl ?_ | refine WS.near rfl (o_add (by omega) (by omega)) rfl ?_ | refine WS.near rfl (o_faddrF (Nat.le_of_ble_eq_true rfl)) rfl ?_)
        all_goals exact ⟨_, rfl, fin_bool rfl⟩
      | some L =>
        rw [hst] at hu1
        obtain ⟨k, rfl, hk, haft⟩ := state_some hst
        have hat : ∀ {H : Heap}, Does (.iaddr 4 (.v d.acs) (.v (.int .i64 (k : Nat)))) H (.fptr (arC (d.acts.getD k default))) H := o_iaddrZ k d.has rfl (fz_at (d := default) k hk) rfl
        have hmem : (d.acts.getD k default).a ∈ d.dom.acts := List.mem_map_of_mem (getD_mem hk)
        have hstep := Guess_step (d := d.dom) hF hmem haft
        have b1 := Guess_le (d := d.dom) hF hgl l
        have b3 := Guess_le (d := d.dom) hF hgl L
        have hc := cost_in (d.acts.getD k default).a.cost
        have hLi := after_in hF haft
        have hgi : ∀ c ∈ d.goal, In64 c.n := hd.goal
        have hg1 := Guess_pu d hD hgi (by omega) hli _ (hp_fine (bs := bs) hf) (ints_shut hu)
        have hg2 := Guess_pu d hD hgi (by omega) hLi _ (hp_fine (bs := bs) hf) hu1
        generalize d.acts.getD k default = r at *
        generalize GuessF d.dom l = g1 at *
        generalize GuessF d.dom L = g2 at *
        repeat' (first
            | refine WS.near rfl (o_loadHN hb2 rfl) rfl ?_ | refine WS.near rfl hat rfl ?_ | refine WS.near rfl (o_loadH (hload_of hb2 rfl)) rfl ?_ | refine WS.near rfl (o_lenZ d.has) rfl ?_ | refine W.seq ?_ | refine W.region ?_ | refine WS.nil ?_ | refine W.skip ?_ | refine W.block ?_ | refine W.ret ?_ | refine W.exit ?_ | refine W.yes rfl rfl ?_ | refine W.no rfl rfl ?_ | refine W.fork rfl (fun _ => ?_) (fun _ => ?_) | refine WS.guardT rfl ?_ | refine WS.guardF rfl rfl rfl ?_ | refine WS.guardK rfl (fun _ => ?_) (fun _ => ?_) | refine WS.near rfl o_mov rfl ?_ | refine WS.near rfl o_pickT rfl ?_ | refine WS.near rfl o_pickF rfl ?_ | refine WS.near rfl o_notT rfl ?_ | refine WS.near rfl o_notF rfl ?_ | refine WS.near rfl o_lss rfl ?_ | refine WS.near rfl o_leq rfl ?_ | refine WS.near rfl o_gtr rfl ?_ | refine WS.near rfl o_geq rfl ?_ | refine WS.near rfl o_faddr rfl ?_
            | refine WS.near rfl o_loadF rfl ?_ | refine WS.near rfl (o_extract rfl) rfl ?_ | refine WS.near rfl (o_loadH rfl) rfl ?_ | refine WS.near rfl (o_loadHN rfl rfl) rfl ?_ | refine WS.near rfl (o_boxH 0 rfl) rfl ?_ | refine WS.near rfl (o_add (by omega) (by omega)) rfl ?_ | refine WS.near rfl (o_faddrF (Nat.le_of_ble_eq_true rfl)) rfl ?_)
        · exfalso; omega
        refine WS.callC rfl rfl hg1 fun v' h' hv' => ?_
        obtain ⟨rfl, rfl⟩ := hv'
        refine ⟨⟨⟨_, _, _, rfl, o_loadF, rfl⟩, ⟨_, _, _, rfl, o_loadH (hload_of hb2 rfl), rfl⟩, ⟨_, _, _, rfl, o_loadHN hb2 rfl, rfl⟩, trivial⟩, ?_⟩
        refine WS.callC rfl rfl hg2 fun v' h' hv' => ?_
        obtain ⟨rfl, rfl⟩ := hv'
        refine ⟨⟨⟨_, _, _, rfl, o_loadF, rfl⟩, ⟨_, _, _, rfl, o_loadH (hload_of hb2 rfl), rfl⟩, trivial⟩, ?_⟩
        refine WS.puF hf rfl rfl (withinR_pu r.a.cost 1 1000) ?_
        change 1 ≤ cutIn r.a.cost 1 1000 ∧ cutIn r.a.cost 1 1000 ≤ 1000 at hc
        change g1 ≤ g2 + cutIn r.a.cost 1 1000 at hstep
        generalize cutIn r.a.cost 1 1000 = x at *
        repeat' (first
            | refine W.seq ?_ | refine W.region ?_ | refine WS.nil ?_ | refine W.skip ?_ | refine W.block ?_ | refine W.ret ?_ | refine W.exit ?_ | refine W.yes rfl rfl ?_ | refine W.no rfl rfl ?_ | refine W.fork rfl (fun _ => ?_) (fun _ => ?_) | refine WS.guardT rfl ?_ | refine WS.guardF rfl rfl rfl ?_ | refine WS.guardK rfl (fun _ => ?_) (fun _ => ?_) | refine WS.near rfl o_mov rfl ?_ | refine WS.near rfl o_pickT rfl ?_ | refine WS.near rfl o_pickF rfl ?_ | refine WS.near rfl o_notT rfl ?_ | refine WS.near rfl o_notF rfl ?_ | refine WS.near rfl o_lss rfl ?_ | refine WS.near rfl o_leq rfl ?_ | refine WS.near rfl o_gtr rfl ?_ | refine WS.near rfl o_geq rfl ?_ | refine WS.near rfl o_faddr rfl ?_ | refine WS.near rfl o_loadF rfl ?_ | refine WS.near rfl (o_extract rfl) rfl ?_ | refine WS.near rfl (o_loadH rfl) rfl ?_ | refine WS.near rfl (o_loadHN rfl rfl) rfl ?_
            | refine WS.near rfl (o_boxH 0 rfl) rfl ?_ | refine WS.near rfl (o_add (by omega) (by omega)) rfl ?_ | refine WS.near rfl (o_faddrF (Nat.le_of_ble_eq_true rfl)) rfl ?_)
        exact ⟨_, rfl, fin_bool (decide_eq_true hstep)⟩
end Go.Proofs.YtpaadclighadaaaDoor.CodesG
