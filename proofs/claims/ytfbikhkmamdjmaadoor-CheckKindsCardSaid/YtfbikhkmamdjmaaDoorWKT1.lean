/- The kinds of expressions: by the document, behind the parts, KT1. -/
import Derived.Test.YtfbikhkmamdjmaaDoorWKT0
namespace Go.Proofs.YtfbikhkmamdjmaaDoor.CodesK
open Go Go.Ab
set_option maxHeartbeats 8000000
set_option maxRecDepth 100000

theorem tail_6 : Tail 6 := by
  intro u n s ux a b h hf
  rcases (by omega : a = 0 ∨ a = 4 ∨ a = 1 ∨ (¬ a = 0 ∧ ¬ a = 4 ∧ ¬ a = 1)) with rfl | rfl | rfl | ⟨a0, a4, a1⟩
  · skip
    repeat' (first
        | refine WS.near rfl o_eqlT rfl ?_ | refine WS.near rfl (o_eqlF (by decide)) rfl ?_ | refine WS.near rfl (o_iaddrA (n := 0) rfl (by omega)) rfl ?_ | refine WS.near rfl (o_iaddrA (n := 1) rfl (by omega)) rfl ?_ | refine W.seq ?_ | refine W.region ?_ | refine WS.nil ?_ | refine W.skip ?_ | refine W.block ?_ | refine W.ret ?_ | refine W.exit ?_ | refine W.goto ?_ | refine W.yes rfl rfl ?_ | refine W.no rfl rfl ?_ | refine W.fork rfl (fun _ => ?_) (fun _ => ?_) | refine WS.guardT rfl ?_ | refine WS.guardF rfl rfl rfl ?_ | refine WS.guardV rfl rfl ?_ | refine WS.guardK rfl (fun _ => ?_) (fun _ => ?_) | refine WS.near rfl o_mov rfl ?_ | refine WS.near rfl o_pickT rfl ?_ | refine WS.near rfl o_pickF rfl ?_ | refine WS.near rfl o_notT rfl ?_ | refine WS.near rfl o_notF rfl ?_ | refine WS.near rfl o_lss rfl ?_ | refine WS.near rfl o_leq rfl ?_ | refine WS.near rfl o_gtr rfl ?_
        | refine WS.near rfl o_geq rfl ?_ | refine WS.near rfl o_eql rfl ?_ | refine WS.near rfl o_neq rfl ?_ | refine WS.near rfl o_sneq0 rfl ?_ | refine WS.near rfl o_not rfl ?_ | refine WS.near rfl o_faddr rfl ?_ | refine WS.near rfl o_loadF rfl ?_ | refine WS.near rfl (o_extract rfl) rfl ?_ | refine WS.near rfl (o_loadH rfl) rfl ?_ | refine WS.near rfl (o_loadHN rfl rfl) rfl ?_ | refine WS.near rfl (o_storeH (by assumption) rfl rfl) rfl ?_ | refine WS.near rfl (o_boxH 0 rfl) rfl ?_ | refine WS.near rfl (o_allocH 1 rfl) rfl ?_ | refine WS.near rfl (o_add (by omega) (by omega)) rfl ?_ | refine WS.near rfl (o_faddrF (Nat.le_of_ble_eq_true rfl)) rfl ?_ | refine WS.near rfl (o_iaddrA rfl (by omega)) rfl ?_ | fail)
    all_goals first
      | (exfalso; omega)
      | (refine ⟨_, rfl, fin_tup2 ?_ ?_⟩ <;> (first | (rename_i hh; have h2 := Classical.not_not.1 hh; subst h2; simp [endK, jn]; done) | (simp [endK, jn, *]; done) | (simp [endK, jn, *]; omega)))
      | fail
  · skip
    repeat' (first
        | refine WS.near rfl o_eqlT rfl ?_ | refine WS.near rfl (o_eqlF (by decide)) rfl ?_ | refine WS.near rfl (o_iaddrA (n := 0) rfl (by omega)) rfl ?_ | refine WS.near rfl (o_iaddrA (n := 1) rfl (by omega)) rfl ?_ | refine W.seq ?_ | refine W.region ?_ | refine WS.nil ?_ | refine W.skip ?_ | refine W.block ?_ | refine W.ret ?_ | refine W.exit ?_ | refine W.goto ?_ | refine W.yes rfl rfl ?_ | refine W.no rfl rfl ?_ | refine W.fork rfl (fun _ => ?_) (fun _ => ?_) | refine WS.guardT rfl ?_ | refine WS.guardF rfl rfl rfl ?_ | refine WS.guardV rfl rfl ?_ | refine WS.guardK rfl (fun _ => ?_) (fun _ => ?_) | refine WS.near rfl o_mov rfl ?_ | refine WS.near rfl o_pickT rfl ?_ | refine WS.near rfl o_pickF rfl ?_ | refine WS.near rfl o_notT rfl ?_ | refine WS.near rfl o_notF rfl ?_ | refine WS.near rfl o_lss rfl ?_ | refine WS.near rfl o_leq rfl ?_ | refine WS.near rfl o_gtr rfl ?_
        | refine WS.near rfl o_geq rfl ?_ | refine WS.near rfl o_eql rfl ?_ | refine WS.near rfl o_neq rfl ?_ | refine WS.near rfl o_sneq0 rfl ?_ | refine WS.near rfl o_not rfl ?_ | refine WS.near rfl o_faddr rfl ?_ | refine WS.near rfl o_loadF rfl ?_ | refine WS.near rfl (o_extract rfl) rfl ?_ | refine WS.near rfl (o_loadH rfl) rfl ?_ | refine WS.near rfl (o_loadHN rfl rfl) rfl ?_ | refine WS.near rfl (o_storeH (by assumption) rfl rfl) rfl ?_ | refine WS.near rfl (o_boxH 0 rfl) rfl ?_ | refine WS.near rfl (o_allocH 1 rfl) rfl ?_ | refine WS.near rfl (o_add (by omega) (by omega)) rfl ?_ | refine WS.near rfl (o_faddrF (Nat.le_of_ble_eq_true rfl)) rfl ?_ | refine WS.near rfl (o_iaddrA rfl (by omega)) rfl ?_ | fail)
    all_goals first
      | (exfalso; omega)
      | (refine ⟨_, rfl, fin_tup2 ?_ ?_⟩ <;> (first | (rename_i hh; have h2 := Classical.not_not.1 hh; subst h2; simp [endK, jn]; done) | (simp [endK, jn, *]; done) | (simp [endK, jn, *]; omega)))
      | fail
  · skip
    repeat' (first
        | refine WS.near rfl o_eqlT rfl ?_ | refine WS.near rfl (o_eqlF (by decide)) rfl ?_ | refine WS.near rfl (o_iaddrA (n := 0) rfl (by omega)) rfl ?_ | refine WS.near rfl (o_iaddrA (n := 1) rfl (by omega)) rfl ?_ | refine W.seq ?_ | refine W.region ?_ | refine WS.nil ?_ | refine W.skip ?_ | refine W.block ?_ | refine W.ret ?_ | refine W.exit ?_ | refine W.goto ?_ | refine W.yes rfl rfl ?_ | refine W.no rfl rfl ?_ | refine W.fork rfl (fun _ => ?_) (fun _ => ?_) | refine WS.guardT rfl ?_ | refine WS.guardF rfl rfl rfl ?_ | refine WS.guardV rfl rfl ?_ | refine WS.guardK rfl (fun _ => ?_) (fun _ => ?_) | refine WS.near rfl o_mov rfl ?_ | refine WS.near rfl o_pickT rfl ?_ | refine WS.near rfl o_pickF rfl ?_ | refine WS.near rfl o_notT rfl ?_ | refine WS.near rfl o_notF rfl ?_ | refine WS.near rfl o_lss rfl ?_ | refine WS.near rfl o_leq rfl ?_ | refine WS.near rfl o_gtr rfl ?_
        | refine WS.near rfl o_geq rfl ?_ | refine WS.near rfl o_eql rfl ?_ | refine WS.near rfl o_neq rfl ?_ | refine WS.near rfl o_sneq0 rfl ?_ | refine WS.near rfl o_not rfl ?_ | refine WS.near rfl o_faddr rfl ?_ | refine WS.near rfl o_loadF rfl ?_ | refine WS.near rfl (o_extract rfl) rfl ?_ | refine WS.near rfl (o_loadH rfl) rfl ?_ | refine WS.near rfl (o_loadHN rfl rfl) rfl ?_ | refine WS.near rfl (o_storeH (by assumption) rfl rfl) rfl ?_ | refine WS.near rfl (o_boxH 0 rfl) rfl ?_ | refine WS.near rfl (o_allocH 1 rfl) rfl ?_ | refine WS.near rfl (o_add (by omega) (by omega)) rfl ?_ | refine WS.near rfl (o_faddrF (Nat.le_of_ble_eq_true rfl)) rfl ?_ | refine WS.near rfl (o_iaddrA rfl (by omega)) rfl ?_ | fail)
    all_goals first
      | (exfalso; omega)
      | (refine ⟨_, rfl, fin_tup2 ?_ ?_⟩ <;> (first | (rename_i hh; have h2 := Classical.not_not.1 hh; subst h2; simp [endK, jn]; done) | (simp [endK, jn, *]; done) | (simp [endK, jn, *]; omega)))
      | fail
  · skip
    repeat' (first
        | refine WS.near rfl o_eqlT rfl ?_ | refine WS.near rfl (o_eqlF (by decide)) rfl ?_ | refine WS.near rfl (o_eqlN a0) rfl ?_ | refine WS.near rfl (o_eqlN a4) rfl ?_ | refine WS.near rfl (o_eqlN a1) rfl ?_ | refine WS.near rfl (o_iaddrA (n := 0) rfl (by omega)) rfl ?_ | refine WS.near rfl (o_iaddrA (n := 1) rfl (by omega)) rfl ?_ | refine W.seq ?_ | refine W.region ?_ | refine WS.nil ?_ | refine W.skip ?_ | refine W.block ?_ | refine W.ret ?_ | refine W.exit ?_ | refine W.goto ?_ | refine W.yes rfl rfl ?_ | refine W.no rfl rfl ?_ | refine W.fork rfl (fun _ => ?_) (fun _ => ?_) | refine WS.guardT rfl ?_ | refine WS.guardF rfl rfl rfl ?_ | refine WS.guardV rfl rfl ?_ | refine WS.guardK rfl (fun _ => ?_) (fun _ => ?_) | refine WS.near rfl o_mov rfl ?_ | refine WS.near rfl o_pickT rfl ?_ | refine WS.near rfl o_pickF rfl ?_ | refine WS.near rfl o_notT rfl ?_ | refine WS.near rfl o_notF rfl ?_
        | refine WS.near rfl o_lss rfl ?_ | refine WS.near rfl o_leq rfl ?_ | refine WS.near rfl o_gtr rfl ?_ | refine WS.near rfl o_geq rfl ?_ | refine WS.near rfl o_eql rfl ?_ | refine WS.near rfl o_neq rfl ?_ | refine WS.near rfl o_sneq0 rfl ?_ | refine WS.near rfl o_not rfl ?_ | refine WS.near rfl o_faddr rfl ?_ | refine WS.near rfl o_loadF rfl ?_ | refine WS.near rfl (o_extract rfl) rfl ?_ | refine WS.near rfl (o_loadH rfl) rfl ?_ | refine WS.near rfl (o_loadHN rfl rfl) rfl ?_ | refine WS.near rfl (o_storeH (by assumption) rfl rfl) rfl ?_ | refine WS.near rfl (o_boxH 0 rfl) rfl ?_ | refine WS.near rfl (o_allocH 1 rfl) rfl ?_ | refine WS.near rfl (o_add (by omega) (by omega)) rfl ?_ | refine WS.near rfl (o_faddrF (Nat.le_of_ble_eq_true rfl)) rfl ?_ | refine WS.near rfl (o_iaddrA rfl (by omega)) rfl ?_ | fail)
    all_goals first
      | (exfalso; omega)
      | (refine ⟨_, rfl, fin_tup2 ?_ ?_⟩ <;> (first | (rename_i hh; have h2 := Classical.not_not.1 hh; subst h2; simp [endK, jn]; done) | (simp [endK, jn, *]; done) | (simp [endK, jn, *]; omega)))
      | fail
end Go.Proofs.YtfbikhkmamdjmaaDoor.CodesK
