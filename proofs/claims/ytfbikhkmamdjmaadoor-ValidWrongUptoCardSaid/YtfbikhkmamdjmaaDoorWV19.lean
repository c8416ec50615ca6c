/- Whether a flat list can be run: by the program. -/
import Derived.Test.YtfbikhkmamdjmaaDoorWV18
import Derived.Test.YtfbikhkmamdjmaaDoorWV7n
namespace Go.Proofs.YtfbikhkmamdjmaaDoor.CodesK
open Go Go.Ab
set_option maxHeartbeats 3200000
set_option maxRecDepth 100000

theorem bl_from (step : Nat → RT × Int) (e : Nat) : ∀ (g to : Nat) (acc : List RT) (y : RT), y ∈ (bl step e g to acc).1 → y ∈ acc ∨ ∃ to', y = (step to').1
  | 0, _, _, _, h => .inl h
  | g + 1, to, acc, y, h => by
    unfold bl at h
    split at h
    · split at h
      · exact .inl h
      · rcases bl_from step e g _ _ y h with h | h
        · rcases List.mem_append.1 h with h | h
          · exact .inl h
          · exact .inr ⟨to, List.mem_singleton.1 h⟩
        · exact .inr h
    · exact .inl h
theorem bk_deep (l : List FL) : ∀ (f at' : Nat) (par : Int), (bk l f at' par).1.deep ≤ f + 1
  | 0, _, _ => Nat.le_refl _
  | f + 1, at', par => by
    rw [bk_succ]
    by_cases hb : badRow l at' par
    · rw [if_pos hb]; show RT.deeps [] + 1 ≤ _; simp [RT.deeps]
    · rw [if_neg hb]
      show RT.deeps _ + 1 ≤ _
      have := RT.deeps_le (bl (fun to => bk l f to (at' : Nat)) (rowAt l at').e.toNat (l.length - at') (at' + 1) []).1 (f + 1) fun t ht => by
        rcases bl_from _ _ _ _ _ _ ht with h | ⟨to', h⟩
        · cases h
        · rw [h]; exact bk_deep l f to' (at' : Nat)
      omega
theorem start_deep {l : List FL} {t : RT} (h : start l = some t) : t.deep ≤ l.length + 1 := by
  rw [start_eq] at h
  by_cases h0 : 0 < l.length ∧ (bk l l.length 0 (-1)).2 = (l.length : Int)
  · rw [if_pos h0] at h
    cases h
    exact bk_deep l _ _ _
  · rw [if_neg h0] at h; cases h
mutual
theorem pr_deep : ∀ t : RT, t.pr.deep = t.deep
  | .mk r l => by rw [RT.pr, ND.deep, RT.deep, prs_deep l]
theorem prs_deep : ∀ l : List RT, ND.deeps (RT.prs l) = RT.deeps l
  | [] => rfl
  | t :: r => by rw [RT.prs, ND.deeps, RT.deeps, pr_deep t, prs_deep r]
end
theorem pr_cells (t : RT) : t.pr.cells = ndC t.r (slV ((t.kids.map RT.pr).map ND.v)) := by
  obtain ⟨r, k⟩ := t
  have := pr_v r k
  injection this
theorem pr_still (t : RT) : ∀ u ∈ t.pr.cells, V.still u = true := fun u h => by
  rw [pr_cells] at h
  simp only [ndC, List.mem_cons, List.not_mem_nil, or_false] at h
  rcases h with rfl | rfl | rfl | rfl | rfl | rfl | rfl | rfl | rfl | rfl <;> first | rfl | exact slV_still _
theorem tree_pc (u : V) (l : List FL) (hu : IsFz u (l.map FL.v)) (hok : ∀ r ∈ l, r.Ok) (hl : l.length < 2 ^ 60) : PuC D1 41 [u] (backV (if runF l = true then (start l).map RT.pr else none)) NoMap := by
  have hum : ∀ h0 : Heap, Does (.len 1 (.v u)) h0 (.int .i64 (l.length : Nat)) h0 := fun h0 => by have := o_lenZ (h0 := h0) hu; rwa [List.length_map] at this
  by_cases h4 : l.length ≤ 4000
  · have hb := back_pc u l hu hok h4
    have hrun : runF l = match start l with
      | some t => decide (l.length ≤ 4000) && (decide (t.rf.deep ≤ 40) && nodeF t.rf)
      | none => false := rfl
    cases hs : start l with
    | none =>
      rw [hs] at hb hrun
      rw [show runF l = false from hrun, if_neg (by simp)]
      refine PuC.tidy (fun h hm => hm) rfl rfl rfl rfl rfl fun h hf hm => ?_
      repeat' (first
          | refine WS.near rfl (hum _) rfl ?_ | refine WS.puC hf (hm.hp _) rfl rfl hb ?_ | refine WS.near rfl (o_build (cs := zN) rfl) rfl ?_ | refine W.seq ?_ | refine W.region ?_ | refine WS.nil ?_ | refine W.skip ?_ | refine W.ret ?_ | refine W.yes rfl rfl ?_ | refine W.fork rfl (fun _ => ?_) (fun _ => ?_) | refine WS.guardF rfl rfl rfl ?_ | refine WS.near rfl o_mov rfl ?_ | refine WS.near rfl o_pickT rfl ?_ | refine WS.near rfl o_notF rfl ?_ | refine WS.near rfl o_gtr rfl ?_ | refine WS.near rfl (o_extract rfl) rfl ?_ | refine WS.near rfl (o_storeH (by assumption) rfl rfl) rfl ?_ | refine WS.near rfl (o_allocH 0 rfl) rfl ?_ | refine WS.near rfl (o_allocH 1 rfl) rfl ?_ | fail)
      · exfalso; omega
      · exact ⟨_, resK_cell (k := 0) rfl rfl rfl rfl, ⟨_, rfl, none_end _ _⟩⟩
    | some t =>
      rw [hs] at hb hrun
      have hrun : runF l = (decide (l.length ≤ 4000) && (decide (t.rf.deep ≤ 40) && nodeF t.rf)) := hrun
      have hg := start_good hok hs
      have hpo := pr_ok (by omega) t hg
      have hde := start_deep hs
      have hpd := pr_deep t
      have hdp := depth_pu _ t.pr (Nat.le_refl _) hpo (by omega)
      have hnp := node_pu _ t.pr (Nat.le_refl _) hpo
      have hds := deep_same t
      have hns := node_same t
      have hst := pr_still t
      rw [← hds, ← hns, decide_eq_true h4, Bool.true_and] at hrun
      refine PuC.tidy (fun h hm => hm) rfl rfl rfl rfl rfl fun h hf hm => ?_
      cases hN : nodeF t.pr <;> rw [hN] at hnp hrun
      all_goals
        repeat' (first
            | refine WS.near rfl (hum _) rfl ?_ | refine WS.puC hf (hm.hp _) rfl rfl hb ?_ | refine WS.near rfl (o_build (cs := zN) rfl) rfl ?_ | refine WS.puF hf rfl rfl hdp ?_ | refine WS.puF hf rfl rfl hnp ?_ | refine W.seq ?_ | refine W.region ?_ | refine WS.nil ?_ | refine W.skip ?_ | refine W.ret ?_ | refine W.yes rfl rfl ?_ | refine W.no rfl rfl ?_ | refine W.fork rfl (fun _ => ?_) (fun _ => ?_) | refine WS.guardT rfl ?_ | refine WS.guardF rfl rfl rfl ?_ | refine WS.guardK rfl (fun _ => ?_) (fun _ => ?_) | refine WS.near rfl o_mov rfl ?_ | refine WS.near rfl o_pickT rfl ?_ | refine WS.near rfl o_pickF rfl ?_ | refine WS.near rfl o_notT rfl ?_ | refine WS.near rfl o_notF rfl ?_ | refine WS.near rfl o_gtr rfl ?_ | refine WS.near rfl (o_extract rfl) rfl ?_ | refine WS.near rfl (o_loadHN rfl rfl) rfl ?_ | refine WS.near rfl (o_storeH (by assumption) rfl rfl) rfl ?_
            | refine WS.near rfl (o_allocH 0 rfl) rfl ?_ | refine WS.near rfl (o_allocH 1 rfl) rfl ?_ | fail)
        all_goals first
          | (exfalso; omega)
          | (rw [show runF l = false by rw [hrun, Bool.and_false], if_neg (by simp)]
             exact ⟨_, resK_cell (k := 0) rfl rfl rfl rfl, ⟨_, rfl, none_end _ _⟩⟩)
          | (rw [show runF l = false by rw [hrun, decide_eq_false (by omega), Bool.false_and], if_neg (by simp)]
             exact ⟨_, resK_cell (k := 0) rfl rfl rfl rfl, ⟨_, rfl, none_end _ _⟩⟩)
          | (rw [show runF l = true by rw [hrun, decide_eq_true (by omega), Bool.true_and], if_pos rfl]
             exact ⟨_, resK_cell (k := 0) rfl rfl rfl rfl, ⟨_, rfl, freeze_tup2b (agg_still (k := 999999999999997) (cs := t.pr.cells) hst (by show 10 < 999999999999997; omega))⟩⟩)
          | fail
  · have hr : runF l = false := by
      unfold runF
      rw [decide_eq_false h4]
      cases start l <;> rfl
    rw [hr, if_neg (by simp)]
    refine PuC.tidy (fun h hm => hm) rfl rfl rfl rfl rfl fun h hf hm => ?_
    refine W.seq ?_
    repeat' (first
        | refine W.region ?_ | refine WS.nil ?_ | refine WS.near rfl o_mov rfl ?_ | refine WS.near rfl (o_allocH 0 rfl) rfl ?_ | fail)
    refine W.seq ?_
    refine W.seq ?_
    repeat' (first
        | refine WS.near rfl (hum _) rfl ?_ | refine W.region ?_ | refine WS.nil ?_ | refine W.skip ?_ | refine W.fork rfl (fun _ => ?_) (fun _ => ?_) | refine WS.near rfl o_gtr rfl ?_ | fail)
    all_goals first
      | (exfalso; omega)
      | skip
    repeat' (first
        | refine WS.near rfl (o_build (cs := zN) rfl) rfl ?_ | refine W.seq ?_ | refine W.region ?_ | refine WS.nil ?_ | refine W.ret ?_ | refine WS.near rfl o_mov rfl ?_ | refine WS.near rfl (o_storeH (by assumption) rfl rfl) rfl ?_ | fail)
    exact ⟨_, resK_cell (k := 0) rfl rfl rfl rfl, ⟨_, rfl, none_end _ _⟩⟩
theorem right_pc (u : V) (l : List FL) (hu : IsFz u (l.map FL.v)) (hok : ∀ r ∈ l, r.Ok) (hl : l.length < 2 ^ 60) : PuC D1 16 [u] (.bool (runF l)) NoMap := by
  have hb := tree_pc u l hu hok hl
  refine PuC.tidy (fun h hm => hm) rfl rfl rfl rfl rfl fun h hf hm => ?_
  have hval : ∃ cs : List V, cs.length = 10 ∧ backV (if runF l = true then (start l).map RT.pr else none) = .tup [.agg cs, .bool (runF l)] := by
    cases hr : runF l with
    | false => exact ⟨zN, rfl, by rw [if_neg (by simp)]; rfl⟩
    | true =>
      rw [if_pos rfl]
      unfold runF at hr
      cases hs : start l with
      | none => rw [hs] at hr; cases hr
      | some t => exact ⟨t.pr.cells, rfl, rfl⟩
  obtain ⟨cs, hc, hv⟩ := hval
  rw [hv] at hb
  repeat' (first
      | refine WS.puC hf (hm.hp _) rfl rfl hb ?_ | refine WS.near rfl (o_storeR hf rfl hc (Nat.le_refl _)) rfl ?_ | refine W.seq ?_ | refine W.region ?_ | refine WS.nil ?_ | refine W.ret ?_ | refine WS.near rfl o_mov rfl ?_ | refine WS.near rfl (o_extract rfl) rfl ?_ | refine WS.near rfl (o_allocH 0 rfl) rfl ?_ | fail)
  exact ⟨_, rfl, fin_bool rfl⟩
end Go.Proofs.YtfbikhkmamdjmaaDoor.CodesK
