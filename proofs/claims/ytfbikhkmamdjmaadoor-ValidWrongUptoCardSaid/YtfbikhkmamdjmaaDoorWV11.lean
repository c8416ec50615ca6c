/- Whether a node may be run: by the document, kind by kind. -/
import Derived.Test.YtfbikhkmamdjmaaDoorWV10
namespace Go.Proofs.YtfbikhkmamdjmaaDoor.CodesK
open Go Go.Ab
set_option maxHeartbeats 12800000
set_option maxRecDepth 100000

theorem rn_bad (m : Nat) (hm : m + 1 ≤ 40) (n : ND) (hk : n.k < 0 ∨ 15 < n.k ∨ n.k = 10) : PuF D1 21 [n.v, i64 (41 - ((m + 1 : Nat) : Int))] (.bool (rnF (m + 1) n)) := by
  refine PuF.tidy rfl rfl rfl rfl rfl fun h hf => ?_
  refine W.seq ?_
  repeat' (first
      | refine W.region ?_ | refine WS.nil ?_ | refine WS.near rfl o_mov rfl ?_ | refine WS.near rfl (o_boxH 0 rfl) rfl ?_ | fail)
  refine W.seq ?_
  refine W.seq ?_
  repeat' (first
      | refine W.region ?_ | refine WS.nil ?_ | refine W.skip ?_ | refine W.yes rfl rfl ?_ | refine W.fork rfl (fun _ => ?_) (fun _ => ?_) | refine WS.guardT rfl ?_ | refine WS.guardF rfl rfl rfl ?_ | refine WS.guardK rfl (fun _ => ?_) (fun _ => ?_) | refine WS.near rfl o_pickT rfl ?_ | refine WS.near rfl o_pickF rfl ?_ | refine WS.near rfl o_lss rfl ?_ | refine WS.near rfl o_gtr rfl ?_ | refine WS.near rfl o_eql rfl ?_ | refine WS.near rfl o_faddr rfl ?_ | refine WS.near rfl (o_loadH rfl) rfl ?_ | fail)
  all_goals first
    | (exfalso; omega)
    | skip
  all_goals
    repeat' (first
        | refine W.seq ?_ | refine W.region ?_ | refine WS.nil ?_ | refine W.ret ?_ | refine WS.near rfl o_mov rfl ?_ | fail)
  all_goals first
    | (refine ⟨_, rfl, fin_bool (rnF_no fun ho => ?_)⟩
       obtain ⟨a1, a2, a3, _, _, _, _, _, _, _, _, _, _, _, _⟩ := ho
       omega)
    | (exfalso; omega)
theorem rn_zero (n : ND) : PuF D1 21 [n.v, i64 (41 - ((0 : Nat) : Int))] (.bool (rnF 0 n)) := by
  refine PuF.tidy rfl rfl rfl rfl rfl fun h hf => ?_
  refine W.seq ?_
  repeat' (first
      | refine W.region ?_ | refine WS.nil ?_ | refine WS.near rfl o_mov rfl ?_ | refine WS.near rfl (o_boxH 0 rfl) rfl ?_ | fail)
  refine W.seq ?_
  refine W.seq ?_
  repeat' (first
      | refine W.region ?_ | refine WS.nil ?_ | refine W.yes rfl rfl ?_ | refine WS.guardF rfl rfl rfl ?_ | refine WS.near rfl o_pickT rfl ?_ | refine WS.near rfl o_gtr rfl ?_ | fail)
  all_goals first
    | (exfalso; omega)
    | skip
  all_goals
    repeat' (first
        | refine W.seq ?_ | refine W.region ?_ | refine WS.nil ?_ | refine W.ret ?_ | refine WS.near rfl o_mov rfl ?_ | fail)
  all_goals first
    | exact ⟨_, rfl, fin_bool rfl⟩
    | (exfalso; omega)
def KindOk (k : Int) : Prop := ∀ (m : Nat) (_ : m + 1 ≤ 40) (a b : Int) (s : List Nat) (x : EX) (kids : List ND) (u : V) (ws : List EX) (w : V), (ND.mk k a b s x kids u ws w).Ok → (∀ y ∈ kids, PuF D1 21 [y.v, i64 (41 - (m : Nat))] (.bool (rnF m y))) →
  PuF D1 21 [(ND.mk k a b s x kids u ws w).v, i64 (41 - ((m + 1 : Nat) : Int))] (.bool (rnF (m + 1) (ND.mk k a b s x kids u ws w)))
end Go.Proofs.YtfbikhkmamdjmaaDoor.CodesK
