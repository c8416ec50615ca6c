/- WorldClock: a tick tells the time at which it began. -/
import Derived.Test.YtfbikhkmamdjmaaGreatDoorWC4b1
import Derived.Test.YtfbikhkmamdjmaaGreatDoorWC4b2
import Derived.Test.YtfbikhkmamdjmaaGreatDoorWC4b3
import Derived.Test.YtfbikhkmamdjmaaGreatDoorWC4b4
import Derived.Test.YtfbikhkmamdjmaaGreatDoorWC4b5
namespace Go.Proofs.YtfbikhkmamdjmaaGreatDoor.CodesW
open Go Go.Ab
set_option maxRecDepth 100000
set_option maxHeartbeats 4000000

/-- the last piece -/
def lastOf : ACode → ACode
  | .seq _ (.seq _ (.seq _ (.seq _ (.seq _ (.seq _ (.seq _ (.seq _ (.seq _ (.seq _ (.seq _ r)))))))))) => r
  | _ => .skip
def tail6 : ACode := lastOf c6.body
theorem fineH : H0.Fine := ⟨rfl, fun f m => by
  simp only [H0, List.mem_cons, List.not_mem_nil, or_false] at m
  omega⟩
theorem law_r (x y b : Int) : W D3 (capOfD c6.dep) c6.body (argsK 0 [i64 x, i64 y, i64 b]) (hp H0 []) (doneW c6.results fun v h' => ∃ u, Go.Ab.freeze h' 0 fuelF v = some u ∧ u = .bool true) := by
  have hf := fineH
  refine W.seq ?_
  repeat' (first
      | refine W.region ?_ | refine WS.nil ?_ | refine W.skip ?_ | refine W.ret ?_ | refine W.yes rfl rfl ?_ | refine W.fork rfl (fun _ => ?_) (fun _ => ?_) | refine WS.guardT rfl ?_ | refine WS.guardF rfl rfl rfl ?_ | refine WS.guardK rfl (fun _ => ?_) (fun _ => ?_) | refine WS.near rfl o_mov rfl ?_ | refine WS.near rfl o_pickT rfl ?_ | refine WS.near rfl o_pickF rfl ?_ | refine WS.near rfl o_notT rfl ?_ | refine WS.near rfl o_lss rfl ?_ | refine WS.near rfl o_gtr rfl ?_ | refine WS.near rfl o_eql rfl ?_ | refine WS.near rfl o_lenF rfl ?_ | refine WS.near rfl o_loadF rfl ?_ | refine WS.near rfl (o_quo (by omega) (by omega) (by omega)) rfl ?_ | refine WS.near rfl (o_add (by omega) (by omega)) rfl ?_ | refine WS.near rfl (o_sub (by omega) (by omega)) rfl ?_ | refine WS.near rfl (o_iaddrF (n := 0) rfl rfl rfl) rfl ?_ | refine WS.near rfl (o_faddrF (Nat.le_of_ble_eq_true rfl)) rfl ?_ | fail)
  refine W.seq ?_
  repeat' (first
      | refine WS.puF hf rfl rfl alive_pu ?_ | refine W.region ?_ | refine WS.nil ?_ | refine W.skip ?_ | refine W.ret ?_ | refine W.yes rfl rfl ?_ | refine W.fork rfl (fun _ => ?_) (fun _ => ?_) | refine WS.guardT rfl ?_ | refine WS.guardF rfl rfl rfl ?_ | refine WS.guardK rfl (fun _ => ?_) (fun _ => ?_) | refine WS.near rfl o_mov rfl ?_ | refine WS.near rfl o_pickT rfl ?_ | refine WS.near rfl o_pickF rfl ?_ | refine WS.near rfl o_notT rfl ?_ | refine WS.near rfl o_lss rfl ?_ | refine WS.near rfl o_gtr rfl ?_ | refine WS.near rfl o_eql rfl ?_ | refine WS.near rfl o_lenF rfl ?_ | refine WS.near rfl o_loadF rfl ?_ | refine WS.near rfl (o_quo (by omega) (by omega) (by omega)) rfl ?_ | refine WS.near rfl (o_add (by omega) (by omega)) rfl ?_ | refine WS.near rfl (o_sub (by omega) (by omega)) rfl ?_ | refine WS.near rfl (o_iaddrF (n := 0) rfl rfl rfl) rfl ?_
      | refine WS.near rfl (o_faddrF (Nat.le_of_ble_eq_true rfl)) rfl ?_ | fail)
  refine W.seq ?_
  refine W.seq ?_
  repeat' (first
      | refine W.region ?_ | refine WS.nil ?_ | refine W.skip ?_ | refine W.ret ?_ | refine W.yes rfl rfl ?_ | refine W.fork rfl (fun _ => ?_) (fun _ => ?_) | refine WS.guardT rfl ?_ | refine WS.guardF rfl rfl rfl ?_ | refine WS.guardK rfl (fun _ => ?_) (fun _ => ?_) | refine WS.near rfl o_mov rfl ?_ | refine WS.near rfl o_pickT rfl ?_ | refine WS.near rfl o_pickF rfl ?_ | refine WS.near rfl o_notT rfl ?_ | refine WS.near rfl o_lss rfl ?_ | refine WS.near rfl o_gtr rfl ?_ | refine WS.near rfl o_eql rfl ?_ | refine WS.near rfl o_lenF rfl ?_ | refine WS.near rfl o_loadF rfl ?_ | refine WS.near rfl (o_quo (by omega) (by omega) (by omega)) rfl ?_ | refine WS.near rfl (o_add (by omega) (by omega)) rfl ?_ | refine WS.near rfl (o_sub (by omega) (by omega)) rfl ?_ | refine WS.near rfl (o_iaddrF (n := 0) rfl rfl rfl) rfl ?_ | refine WS.near rfl (o_faddrF (Nat.le_of_ble_eq_true rfl)) rfl ?_ | fail)
  all_goals first
    | (refine W.seq ?_
       repeat' (first
           | refine W.region ?_ | refine WS.nil ?_ | refine W.skip ?_ | refine W.ret ?_ | refine W.yes rfl rfl ?_ | refine W.fork rfl (fun _ => ?_) (fun _ => ?_) | refine WS.guardT rfl ?_ | refine WS.guardF rfl rfl rfl ?_ | refine WS.guardK rfl (fun _ => ?_) (fun _ => ?_) | refine WS.near rfl o_mov rfl ?_ | refine WS.near rfl o_pickT rfl ?_ | refine WS.near rfl o_pickF rfl ?_ | refine WS.near rfl o_notT rfl ?_ | refine WS.near rfl o_lss rfl ?_ | refine WS.near rfl o_gtr rfl ?_ | refine WS.near rfl o_eql rfl ?_ | refine WS.near rfl o_lenF rfl ?_ | refine WS.near rfl o_loadF rfl ?_ | refine WS.near rfl (o_quo (by omega) (by omega) (by omega)) rfl ?_ | refine WS.near rfl (o_add (by omega) (by omega)) rfl ?_ | refine WS.near rfl (o_sub (by omega) (by omega)) rfl ?_ | refine WS.near rfl (o_iaddrF (n := 0) rfl rfl rfl) rfl ?_ | refine WS.near rfl (o_faddrF (Nat.le_of_ble_eq_true rfl)) rfl ?_ | fail)
       exact ⟨_, rfl, _, rfl, rfl⟩)
    | skip
  rename_i g1 g2 g3 g4 g5 g6
  refine W.sup (m' := [(0, i64 x), (1, i64 y), (2, i64 b)]) ?_ ⟨rfl, rfl, rfl, trivial⟩
  obtain ⟨j, rfl⟩ : ∃ j : Nat, x = Int.ofNat j := ⟨x.toNat, by show x = (x.toNat : Int); omega⟩
  have hy : y = 0 ∨ ∃ k : Nat, y = Int.ofNat (k + 1) := by
    by_cases h0 : y = 0
    · exact .inl h0
    · exact .inr ⟨y.toNat - 1, by show y = ((y.toNat - 1 + 1 : Nat) : Int); omega⟩
  have hok : AltOk D3 (altC 234 y) := alt_ok (by omega) (by omega)
  refine W.assoc (W.assoc (W.assoc (W.assoc (W.assoc (W.assoc (W.assoc ?_))))))
  have fin : ∀ (f : Int), f = (5 + b - 1) / b → ∀ h' : Heap, W D3 (capOfD c6.dep) tail6 ([1, 2, 10, 11].zip [i64 y, i64 b, evC f y, bdC y]) h' (doneW c6.results fun v h' => ∃ u, Go.Ab.freeze h' 0 fuelF v = some u ∧ u = .bool true) := by
    intro f hfe h'
    unfold tail6
    repeat' (first
        | refine W.seq ?_ | refine W.region ?_ | refine WS.nil ?_ | refine W.skip ?_ | refine W.ret ?_ | refine W.yes rfl rfl ?_ | refine W.fork rfl (fun _ => ?_) (fun _ => ?_) | refine WS.guardT rfl ?_ | refine WS.guardF rfl rfl rfl ?_ | refine WS.guardK rfl (fun _ => ?_) (fun _ => ?_) | refine WS.near rfl o_mov rfl ?_ | refine WS.near rfl o_pickT rfl ?_ | refine WS.near rfl o_pickF rfl ?_ | refine WS.near rfl o_notT rfl ?_ | refine WS.near rfl o_lss rfl ?_ | refine WS.near rfl o_gtr rfl ?_ | refine WS.near rfl o_eql rfl ?_ | refine WS.near rfl o_lenF rfl ?_ | refine WS.near rfl o_loadF rfl ?_ | refine WS.near rfl (o_quo (by omega) (by omega) (by omega)) rfl ?_ | refine WS.near rfl (o_add (by omega) (by omega)) rfl ?_ | refine WS.near rfl (o_sub (by omega) (by omega)) rfl ?_ | refine WS.near rfl (o_iaddrF (n := 0) rfl rfl rfl) rfl ?_
        | refine WS.near rfl (o_faddrF (Nat.le_of_ble_eq_true rfl)) rfl ?_ | fail)
    all_goals first
      | (exfalso; omega)
      | exact ⟨_, rfl, .bool (decide (y = y)), rfl, by simp⟩
      | fail
  rcases hy with rfl | ⟨k, rfl⟩
  · rcases (by omega : b = 1 ∨ b = 2 ∨ b = 3 ∨ b = 4 ∨ b = 5) with rfl | rfl | rfl | rfl | rfl
    · exact W.lookA (callA_ok hok 100000 1000) 100000 [1, 2, 10, 11] [] (clockZ1 j) fun h' _ => fin 5 (by decide) h'
    · exact W.lookA (callA_ok hok 100000 1000) 100000 [1, 2, 10, 11] [] (clockZ2 j) fun h' _ => fin 3 (by decide) h'
    · exact W.lookA (callA_ok hok 100000 1000) 100000 [1, 2, 10, 11] [] (clockZ3 j) fun h' _ => fin 2 (by decide) h'
    · exact W.lookA (callA_ok hok 100000 1000) 100000 [1, 2, 10, 11] [] (clockZ4 j) fun h' _ => fin 2 (by decide) h'
    · exact W.lookA (callA_ok hok 100000 1000) 100000 [1, 2, 10, 11] [] (clockZ5 j) fun h' _ => fin 1 (by decide) h'
  · rcases (by omega : b = 1 ∨ b = 2 ∨ b = 3 ∨ b = 4 ∨ b = 5) with rfl | rfl | rfl | rfl | rfl
    · exact W.lookA (callA_ok hok 100000 1000) 100000 [1, 2, 10, 11] [] (clockS1 j k) fun h' _ => fin 5 (by decide) h'
    · exact W.lookA (callA_ok hok 100000 1000) 100000 [1, 2, 10, 11] [] (clockS2 j k) fun h' _ => fin 3 (by decide) h'
    · exact W.lookA (callA_ok hok 100000 1000) 100000 [1, 2, 10, 11] [] (clockS3 j k) fun h' _ => fin 2 (by decide) h'
    · exact W.lookA (callA_ok hok 100000 1000) 100000 [1, 2, 10, 11] [] (clockS4 j k) fun h' _ => fin 2 (by decide) h'
    · exact W.lookA (callA_ok hok 100000 1000) 100000 [1, 2, 10, 11] [] (clockS5 j k) fun h' _ => fin 1 (by decide) h'
theorem law_w (x y b : Int) : CallW D3 6 [i64 x, i64 y, i64 b] Heap.empty fun v _ => v = .bool true := by
  refine CallW.shut rfl rfl rfl rfl rfl ?_
  have hw := law_r x y b
  rw [hp_nil] at hw
  exact hw
end Go.Proofs.YtfbikhkmamdjmaaGreatDoor.CodesW
