/- Whether a flat list can be run: by the document. -/
import Derived.Test.YtfbikhkmamdjmaaDoorWV13
import Derived.Test.YtfbikhkmamdjmaaDoorWV12
namespace Go.Proofs.YtfbikhkmamdjmaaDoor.CodesK
open Go Go.Ab
set_option maxHeartbeats 6400000
set_option maxRecDepth 100000

/-- a tree of rows that are in order, not too wide -/
inductive RT.Good (N : Nat) : RT → Prop
  | mk {t : RT} (hr : t.r.Ok) (hl : t.kids.length ≤ N) (h : ∀ y ∈ t.kids, RT.Good N y) : RT.Good N t
theorem bl_good {N : Nat} (step : Nat → RT × Int) (e : Nat) (hs : ∀ to, to < e → RT.Good N (step to).1) (hs2 : ∀ to, to < e → (step to).2 < 0 ∨ (to : Int) < (step to).2) : ∀ (g to : Nat) (acc : List RT), to ≤ e → (∀ y ∈ acc, RT.Good N y) →
    (∀ y ∈ (bl step e g to acc).1, RT.Good N y) ∧ (bl step e g to acc).1.length ≤ acc.length + (e - to)
  | 0, _, acc, _, h => ⟨h, Nat.le_add_right _ _⟩
  | g + 1, to, acc, hto, h => by
    unfold bl
    by_cases h1 : to < e
    · rw [if_pos h1]
      by_cases h2 : (step to).2 < 0 ∨ (e : Int) < (step to).2
      · rw [if_pos h2]; exact ⟨h, Nat.le_add_right _ _⟩
      · rw [if_neg h2]
        have h3 := hs2 to h1
        have ih := bl_good step e hs hs2 g (step to).2.toNat (acc ++ [(step to).1]) (by omega) (fun y hy => by
          rcases List.mem_append.1 hy with hy | hy
          · exact h y hy
          · rw [List.mem_singleton] at hy; subst hy; exact hs to h1)
        refine ⟨ih.1, Nat.le_trans ih.2 ?_⟩
        rw [List.length_append]
        simp only [List.length_cons, List.length_nil]
        omega
    · rw [if_neg h1]; exact ⟨h, Nat.le_add_right _ _⟩
theorem bk_good (l : List FL) (hok : ∀ r ∈ l, r.Ok) : ∀ (f at' : Nat) (par : Int), at' < l.length → RT.Good l.length (bk l f at' par).1
  | 0, at', _, h => .mk (hok _ (getD_mem h)) (Nat.zero_le _) (fun y hy => by cases hy)
  | f + 1, at', par, h => by
    rw [bk_succ]
    by_cases hb : badRow l at' par
    · rw [if_pos hb]; exact .mk (hok _ (getD_mem h)) (Nat.zero_le _) (fun y hy => by cases hy)
    · rw [if_neg hb]
      unfold badRow at hb
      have := bl_good (N := l.length) (fun to => bk l f to (at' : Nat)) (rowAt l at').e.toNat (fun to hto => bk_good l hok f to (at' : Nat) (by omega)) (fun to hto => by
        rcases bk_end l f to (at' : Nat) with hh | ⟨hh, h3⟩
        · left; show (bk l f to _).2 < 0; omega
        · right
          unfold badRow at h3
          show (to : Int) < (bk l f to _).2
          omega) (l.length - at') (at' + 1) [] (by omega) (fun y hy => by cases hy)
      refine .mk (hok _ (getD_mem h)) ?_ this.1
      refine Nat.le_trans this.2 ?_
      simp only [List.length_nil]
      omega
theorem start_good {l : List FL} (hok : ∀ r ∈ l, r.Ok) {t : RT} (h : start l = some t) : RT.Good l.length t := by
  rw [start_eq] at h
  by_cases h0 : 0 < l.length ∧ (bk l l.length 0 (-1)).2 = (l.length : Int)
  · rw [if_pos h0] at h
    cases h
    exact bk_good l hok _ _ _ h0.1
  · rw [if_neg h0] at h; cases h
mutual
theorem rf_ok {N : Nat} (hN : N < 2 ^ 24) : ∀ t : RT, RT.Good N t → t.rf.Ok
  | .mk r l, h => by
    have hr : r.Ok := by cases h; assumption
    have hl : l.length ≤ N := by cases h; assumption
    have hk : ∀ y ∈ l, RT.Good N y := by cases h; assumption
    have ih := rfs_ok hN l hk
    rw [RT.rf]
    exact .mk hr.k hr.a hr.b hr.s hr.x (slV_fz _) hr.w hr.ws hr.xm hr.wl hr.wm (by show (RT.rfs l).length < 2 ^ 24; rw [rfs_len]; omega) ih
theorem rfs_ok {N : Nat} (hN : N < 2 ^ 24) : ∀ l : List RT, (∀ y ∈ l, RT.Good N y) → ∀ n ∈ RT.rfs l, n.Ok
  | [], _, n, hn => by cases hn
  | t :: r, h, n, hn => by
    rw [RT.rfs, List.mem_cons] at hn
    rcases hn with rfl | hn
    · exact rf_ok hN t (h t List.mem_cons_self)
    · exact rfs_ok hN r (fun y hy => h y (List.mem_cons_of_mem _ hy)) n hn
end
mutual
theorem pr_ok {N : Nat} (hN : N < 2 ^ 24) : ∀ t : RT, RT.Good N t → t.pr.Ok
  | .mk r l, h => by
    have hr : r.Ok := by cases h; assumption
    have hl : l.length ≤ N := by cases h; assumption
    have hk : ∀ y ∈ l, RT.Good N y := by cases h; assumption
    have ih := prs_ok hN l hk
    rw [RT.pr]
    refine .mk hr.k hr.a hr.b hr.s (EX.Ok.cp _ hr.x) (slV_fz _) (slV_fz _) (fun y hy => ?_) (EX.Sm.cp _ hr.xm) (by show (r.ws.map EX.cp).length * 56 ≤ _; rw [List.length_map]; exact hr.wl) (fun y hy => ?_) (by show (RT.prs l).length < 2 ^ 24; rw [prs_len]; omega) ih
    · obtain ⟨z, hz, rfl⟩ := List.mem_map.1 hy
      exact EX.Ok.cp _ (hr.ws z hz)
    · obtain ⟨z, hz, rfl⟩ := List.mem_map.1 hy
      exact EX.Sm.cp _ (hr.wm z hz)
theorem prs_ok {N : Nat} (hN : N < 2 ^ 24) : ∀ l : List RT, (∀ y ∈ l, RT.Good N y) → ∀ n ∈ RT.prs l, n.Ok
  | [], _, n, hn => by cases hn
  | t :: r, h, n, hn => by
    rw [RT.prs, List.mem_cons] at hn
    rcases hn with rfl | hn
    · exact pr_ok hN t (h t List.mem_cons_self)
    · exact prs_ok hN r (fun y hy => h y (List.mem_cons_of_mem _ hy)) n hn
end
theorem nd_cells {t : RT} (h : t.r.Ok) : ∀ u ∈ t.rf.cells, V.still u = true := by
  rw [rf_cells]
  exact rfC_still h (slV_still _)
theorem good_r {N : Nat} {t : RT} (h : RT.Good N t) : t.r.Ok := by cases h; assumption
theorem freeze_tup2b {h : Heap} {n : Nat} {v u : V} {b : Bool} (hv : Go.Ab.freeze h n 999999999999998 v = some u) : Go.Ab.freeze h n fuelF (.tup [v, .bool b]) = some (.tup [u, .bool b]) := by
  show (((Go.Ab.freeze h n 999999999999998 v).bind fun v' => (freezes h n 999999999999998 [.bool b]).map (v' :: ·)).map V.tup) = _
  rw [hv]
  rfl
def backV (q : Option ND) : V := match q with
  | some n => .tup [n.v, .bool true]
  | none => .tup [.agg zN, .bool false]
theorem zN_still : ∀ u ∈ zN, V.still u = true := fun u h => by
  simp only [zN, List.mem_cons, List.not_mem_nil, or_false] at h
  rcases h with rfl | rfl | rfl | rfl | rfl | rfl | rfl | rfl | rfl | rfl <;> rfl
theorem refBack_pu (u : V) (l : List FL) (hu : IsFz u (l.map FL.v)) (hok : ∀ r ∈ l, r.Ok) (hl : l.length < 2 ^ 24) : PuF D1 42 [u] (backV ((start l).map RT.rf)) := by
  have hum : ∀ h0 : Heap, Does (.len 1 (.v u)) h0 (.int .i64 (l.length : Nat)) h0 := fun h0 => by have := o_lenZ (h0 := h0) hu; rwa [List.length_map] at this
  have hst := start_eq l
  have none_end : ∀ (h : Heap) bs, Go.Ab.freeze (hp h bs) h.next fuelF (.tup [.agg zN, .bool false]) = some (.tup [.agg zN, .bool false]) := fun h bs =>
    freeze_tup2b (agg_still (k := 999999999999997) zN_still (by show 10 < 999999999999997; omega))
  by_cases h0 : 0 < l.length
  · have hb := back_pu u l hu hok (by omega) l.length 0 (-1) h0 (by omega)
    have hg := bk_good l hok l.length 0 (-1) h0
    generalize bk l l.length 0 (-1) = kr at hb hg hst
    have hcs := nd_cells (good_r hg)
    refine PuF.tidy rfl rfl rfl rfl rfl fun h hf => ?_
    repeat' (first
        | refine WS.near rfl (hum _) rfl ?_ | refine WS.puF hf rfl rfl hb ?_ | refine W.seq ?_ | refine W.region ?_ | refine WS.nil ?_ | refine W.skip ?_ | refine W.ret ?_ | refine W.fork rfl (fun _ => ?_) (fun _ => ?_) | refine WS.near rfl o_mov rfl ?_ | refine WS.near rfl o_eql rfl ?_ | refine WS.near rfl o_neq rfl ?_ | refine WS.near rfl (o_extract rfl) rfl ?_ | refine WS.near rfl (o_build rfl) rfl ?_ | refine WS.near rfl (o_loadHN rfl rfl) rfl ?_ | refine WS.near rfl (o_storeH (by assumption) rfl rfl) rfl ?_ | refine WS.near rfl (o_allocH 0 rfl) rfl ?_ | refine WS.near rfl (o_allocH 1 rfl) rfl ?_ | fail)
    · exfalso; omega
    · rw [hst, if_neg (by omega)]
      exact ⟨_, resK_cell (k := 0) rfl rfl rfl rfl, ⟨_, rfl, none_end _ _⟩⟩
    · rename_i g1 g2
      rw [hst, if_pos ⟨h0, by omega⟩]
      exact ⟨_, resK_cell (k := 0) rfl rfl rfl rfl, ⟨_, rfl, freeze_tup2b (agg_still (k := 999999999999997) (cs := kr.1.rf.cells) hcs (by show 10 < 999999999999997; omega))⟩⟩
  · refine PuF.tidy rfl rfl rfl rfl rfl fun h hf => ?_
    rw [hst, if_neg (fun hh => h0 hh.1)]
    refine W.seq ?_
    repeat' (first
        | refine W.region ?_ | refine WS.nil ?_ | refine WS.near rfl o_mov rfl ?_ | refine WS.near rfl (o_allocH 0 rfl) rfl ?_ | fail)
    refine W.seq ?_
    refine W.seq ?_
    repeat' (first
        | refine WS.near rfl (hum _) rfl ?_ | refine W.region ?_ | refine WS.nil ?_ | refine W.skip ?_ | refine W.fork rfl (fun _ => ?_) (fun _ => ?_) | refine WS.near rfl o_eql rfl ?_ | fail)
    all_goals first
      | (exfalso; omega)
      | skip
    repeat' (first
        | refine W.seq ?_ | refine W.region ?_ | refine WS.nil ?_ | refine W.ret ?_ | refine WS.near rfl o_mov rfl ?_ | refine WS.near rfl (o_build rfl) rfl ?_ | refine WS.near rfl (o_storeH (by assumption) rfl rfl) rfl ?_ | fail)
    exact ⟨_, resK_cell (k := 0) rfl rfl rfl rfl, ⟨_, rfl, none_end _ _⟩⟩
theorem refRight_pu (u : V) (l : List FL) (hu : IsFz u (l.map FL.v)) (hok : ∀ r ∈ l, r.Ok) (hl : l.length < 2 ^ 24) : PuF D1 17 [u] (.bool (runF l)) := by
  have hum : ∀ h0 : Heap, Does (.len 1 (.v u)) h0 (.int .i64 (l.length : Nat)) h0 := fun h0 => by have := o_lenZ (h0 := h0) hu; rwa [List.length_map] at this
  have hb := refBack_pu u l hu hok hl
  unfold runF
  cases hs : start l with
  | none =>
    rw [hs] at hb
    refine PuF.tidy rfl rfl rfl rfl rfl fun h hf => ?_
    repeat' (first
        | refine WS.puF hf rfl rfl hb ?_ | refine W.seq ?_ | refine W.region ?_ | refine WS.nil ?_ | refine W.ret ?_ | refine WS.guardF rfl rfl rfl ?_ | refine WS.near rfl o_mov rfl ?_ | refine WS.near rfl o_pickF rfl ?_ | refine WS.near rfl (o_extract rfl) rfl ?_ | refine WS.near rfl (o_storeH (by assumption) rfl rfl) rfl ?_ | refine WS.near rfl (o_allocH 0 rfl) rfl ?_ | fail)
    exact ⟨_, rfl, fin_bool rfl⟩
  | some t =>
    rw [hs] at hb
    have hg := start_good hok hs
    have hn := rn_pu 40 t.rf (Nat.le_refl _) (rf_ok hl t hg)
    have hq := rnF_eq 40 t.rf
    simp only
    rw [← hq]
    refine PuF.tidy rfl rfl rfl rfl rfl fun h hf => ?_
    cases hr : rnF 40 t.rf <;> rw [hr] at hn
    all_goals
      repeat' (first
          | refine WS.near rfl (hum _) rfl ?_ | refine WS.puF hf rfl rfl hb ?_ | refine WS.near rfl (o_loadHN rfl rfl) rfl ?_ | refine WS.puF hf rfl rfl hn ?_ | refine W.seq ?_ | refine W.region ?_ | refine WS.nil ?_ | refine W.ret ?_ | refine WS.guardT rfl ?_ | refine WS.guardF rfl rfl rfl ?_ | refine WS.guardK rfl (fun _ => ?_) (fun _ => ?_) | refine WS.near rfl o_mov rfl ?_ | refine WS.near rfl o_pickT rfl ?_ | refine WS.near rfl o_pickF rfl ?_ | refine WS.near rfl o_leq rfl ?_ | refine WS.near rfl (o_extract rfl) rfl ?_ | refine WS.near rfl (o_loadHN rfl rfl) rfl ?_ | refine WS.near rfl (o_storeH (by assumption) rfl rfl) rfl ?_ | refine WS.near rfl (o_allocH 0 rfl) rfl ?_ | fail)
      all_goals
        refine ⟨_, rfl, fin_bool ?_⟩
        first
          | (rw [show decide (l.length ≤ 4000) = true from decide_eq_true (by omega)]; done)
          | (rw [show decide (l.length ≤ 4000) = true from decide_eq_true (by omega)]; rfl)
          | (rw [show decide (l.length ≤ 4000) = false from decide_eq_false (by omega)]; done)
          | (rw [show decide (l.length ≤ 4000) = false from decide_eq_false (by omega)]; rfl)
          | (rw [Bool.and_false])
          | fail
end Go.Proofs.YtfbikhkmamdjmaaDoor.CodesK
