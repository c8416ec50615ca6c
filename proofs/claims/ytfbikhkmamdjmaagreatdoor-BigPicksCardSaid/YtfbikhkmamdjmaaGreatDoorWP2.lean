/- The place of the greatest weight. -/
import Derived.Test.YtfbikhkmamdjmaaGreatDoorWP4
namespace Go.Proofs.YtfbikhkmamdjmaaGreatDoor.CodesS
open Go Go.Ab
set_option maxRecDepth 100000
set_option maxHeartbeats 1600000

/-- the place of the first greatest one of the first i; below 0: none -/
def bestAt (ws : List Int) : Nat → Int
  | 0 => -1
  | i + 1 => if bestAt ws i < 0 ∨ ws.getD (bestAt ws i).toNat 0 < ws.getD i 0 then (i : Int) else bestAt ws i
theorem bestAt_lt (ws : List Int) : ∀ i : Nat, bestAt ws i < (i : Int) ∧ -1 ≤ bestAt ws i ∧ (0 < i → 0 ≤ bestAt ws i)
  | 0 => ⟨by show (-1 : Int) < 0; decide, Int.le_refl _, fun h => by omega⟩
  | i + 1 => by
    have ih := bestAt_lt ws i
    unfold bestAt
    split
    · exact ⟨by omega, by omega, fun _ => by omega⟩
    · rename_i h
      exact ⟨by omega, by omega, fun _ => by omega⟩
theorem getW {ws : List Int} {n : Nat} (h : n < ws.length) : (ws.map i64)[n]? = some (i64 (ws.getD n 0)) := by
  simp [List.getElem?_map, List.getElem?_eq_getElem h, List.getD]
theorem o_lenW {ws : List Int} {c : Option Nat} {h : Heap} : Does (.len 1 (.v (.fsl (ws.map i64) c))) h (.int .i64 (ws.length : Nat)) h := by
  refine ⟨?_⟩; rw [op1v]; simp [op1, ev, lenOf]
theorem best_pu (ws : List Int) (c : Option Nat) (hl : ws.length ≤ 8) : PuF DPb 157 [.fsl (ws.map i64) c] (i64 (bestAt ws ws.length)) := by
  refine PuF.tidy rfl rfl rfl rfl rfl fun h hf => ?_
  repeat' (first
      | refine WS.near rfl o_lenW rfl ?_ | refine W.seq ?_ | refine W.region ?_ | refine WS.nil ?_ | refine W.block ?_ | refine WS.near rfl o_mov rfl ?_ | fail)
  refine W.loop (fun i : Nat => [(0, .fsl (ws.map i64) c), (2, i64 (bestAt ws i)), (5, .fsl (ws.map i64) c), (6, i64 ws.length), (7, i64 i)]) (fun _ => hp h []) (fun i => i ≤ ws.length) (fun i => ws.length - i) 0 (Nat.zero_le _) ⟨rfl, rfl, rfl, rfl, rfl, trivial⟩ rfl ?_
  rintro i hi
  have hb := bestAt_lt ws i
  refine W.seq ?_
  repeat' (first
      | refine W.region ?_ | refine WS.nil ?_ | refine WS.near rfl o_lss rfl ?_ | fail)
  refine W.seq ?_
  repeat' (first
      | refine W.skip ?_ | refine W.exit ?_ | refine W.fork rfl (fun _ => ?_) (fun _ => ?_) | fail)
  · have hlt : i < ws.length := by omega
    have e1 : (i : Int) + 1 = ((i + 1 : Nat) : Int) := by omega
    repeat' (first
        | refine WS.near rfl (o_iaddrF (n := i) rfl (getW hlt) rfl) rfl ?_ | refine WS.near rfl (o_iaddrF (n := (bestAt ws i).toNat) (by omega) (getW (by omega)) rfl) rfl ?_ | refine W.seq ?_ | refine W.region ?_ | refine WS.nil ?_ | refine W.skip ?_ | refine W.block ?_ | refine W.yes rfl rfl ?_ | refine W.fork rfl (fun _ => ?_) (fun _ => ?_) | refine WS.guardT rfl ?_ | refine WS.guardF rfl rfl rfl ?_ | refine WS.guardK rfl (fun _ => ?_) (fun _ => ?_) | refine WS.near rfl o_mov rfl ?_ | refine WS.near rfl o_pickT rfl ?_ | refine WS.near rfl o_pickF rfl ?_ | refine WS.near rfl o_lss rfl ?_ | refine WS.near rfl o_gtr rfl ?_ | refine WS.near rfl o_loadF rfl ?_ | refine WS.near rfl (o_add (by omega) (by omega)) rfl ?_ | fail)
    · rename_i g1
      have hs : bestAt ws (i + 1) = (i : Int) := by rw [bestAt, if_pos (.inl g1)]
      exact ⟨i + 1, (by omega), by show ws.length - (i + 1) < ws.length - i; omega, ⟨rfl, congrArg (fun z => some (i64 z)) hs.symm, rfl, rfl, congrArg (fun z => some (V.int .i64 z)) e1, trivial⟩, rfl⟩
    · rename_i g1 g2
      have hs : bestAt ws (i + 1) = (i : Int) := by rw [bestAt, if_pos (.inr g2)]
      exact ⟨i + 1, (by omega), by show ws.length - (i + 1) < ws.length - i; omega, ⟨rfl, congrArg (fun z => some (i64 z)) hs.symm, rfl, rfl, congrArg (fun z => some (V.int .i64 z)) e1, trivial⟩, rfl⟩
    · rename_i g1 g2
      have hs : bestAt ws (i + 1) = bestAt ws i := by rw [bestAt, if_neg (by rintro (h1 | h1) <;> omega)]
      exact ⟨i + 1, (by omega), by show ws.length - (i + 1) < ws.length - i; omega, ⟨rfl, congrArg (fun z => some (i64 z)) hs.symm, rfl, rfl, congrArg (fun z => some (V.int .i64 z)) e1, trivial⟩, rfl⟩
  · have hil : i = ws.length := by omega
    subst hil
    repeat' (first
        | refine W.seq ?_ | refine W.region ?_ | refine WS.nil ?_ | refine W.ret ?_ | refine WS.near rfl o_mov rfl ?_ | fail)
    exact ⟨_, rfl, fin_int rfl⟩
end Go.Proofs.YtfbikhkmamdjmaaGreatDoor.CodesS
