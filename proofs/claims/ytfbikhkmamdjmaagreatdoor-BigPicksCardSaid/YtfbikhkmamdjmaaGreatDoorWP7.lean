/- A pick: the law's level; the document's place of the greatest weight. -/
import Derived.Test.YtfbikhkmamdjmaaGreatDoorWP3
namespace Go.Proofs.YtfbikhkmamdjmaaGreatDoor.CodesS
open Go Go.Ab
set_option maxRecDepth 100000
set_option maxHeartbeats 1600000
noncomputable def DQ : OCtx := layer DP2 (fun _ => false) (fun f => Nat.beq f 8)
theorem alive_pu : PuF DQ 7 [] (.bool true) := PuF.orc (D := DQ) (g := fun a h => match rows lP 7 a with
  | some u => some (.ret u, h)
  | none => none) rfl fun _ => rfl
theorem bestR_pu (ws : List Int) (c : Option Nat) (hl : ws.length ≤ 8) : PuF DQ 10 [.fsl (ws.map i64) c] (i64 (bestAt ws ws.length)) := by
  refine PuF.tidy rfl rfl rfl rfl rfl fun h hf => ?_
  repeat' (first
      | refine W.seq ?_ | refine W.region ?_ | refine WS.nil ?_ | refine W.block ?_ | refine WS.near rfl o_mov rfl ?_ | fail)
  refine W.loop (fun i : Nat => [(0, .fsl (ws.map i64) c), (2, i64 (bestAt ws i)), (3, i64 i)]) (fun _ => hp h []) (fun i => i ≤ ws.length) (fun i => ws.length - i) 0 (Nat.zero_le _) ⟨rfl, rfl, rfl, trivial⟩ rfl ?_
  rintro i hi
  have hb := bestAt_lt ws i
  refine W.seq ?_
  refine W.seq ?_
  repeat' (first
      | refine WS.near rfl o_lenW rfl ?_ | refine W.region ?_ | refine WS.nil ?_ | refine W.skip ?_ | refine W.exit ?_ | refine W.fork rfl (fun _ => ?_) (fun _ => ?_) | refine WS.near rfl o_lss rfl ?_ | fail)
  refine W.seq ?_
  repeat' (first
      | refine W.block ?_ | fail)
  · have hlt : i < ws.length := by omega
    have e1 : (i : Int) + 1 = ((i + 1 : Nat) : Int) := by omega
    repeat' (first
        | refine WS.near rfl (o_iaddrF (n := i) rfl (getW hlt) rfl) rfl ?_ | refine WS.near rfl (o_iaddrF (n := (bestAt ws i).toNat) (by omega) (getW (by omega)) rfl) rfl ?_ | refine W.seq ?_ | refine W.region ?_ | refine WS.nil ?_ | refine W.skip ?_ | refine W.yes rfl rfl ?_ | refine W.fork rfl (fun _ => ?_) (fun _ => ?_) | refine WS.guardT rfl ?_ | refine WS.guardF rfl rfl rfl ?_ | refine WS.guardK rfl (fun _ => ?_) (fun _ => ?_) | refine WS.near rfl o_mov rfl ?_ | refine WS.near rfl o_pickT rfl ?_ | refine WS.near rfl o_pickF rfl ?_ | refine WS.near rfl o_lss rfl ?_ | refine WS.near rfl o_gtr rfl ?_ | refine WS.near rfl o_loadF rfl ?_ | refine WS.near rfl (o_add (by omega) (by omega)) rfl ?_ | fail)
    · rename_i g1
      have hs : bestAt ws (i + 1) = (i : Int) := by rw [bestAt, if_pos (.inl g1)]
      exact ⟨i + 1, (by omega), by show ws.length - (i + 1) < ws.length - i; omega, ⟨rfl, congrArg (fun z => some (i64 z)) hs.symm, congrArg (fun z => some (V.int .i64 z)) e1, trivial⟩, rfl⟩
    · rename_i g1 g2
      have hs : bestAt ws (i + 1) = (i : Int) := by rw [bestAt, if_pos (.inr g2)]
      exact ⟨i + 1, (by omega), by show ws.length - (i + 1) < ws.length - i; omega, ⟨rfl, congrArg (fun z => some (i64 z)) hs.symm, congrArg (fun z => some (V.int .i64 z)) e1, trivial⟩, rfl⟩
    · rename_i g1 g2
      have hs : bestAt ws (i + 1) = bestAt ws i := by rw [bestAt, if_neg (by rintro (h1 | h1) <;> omega)]
      exact ⟨i + 1, (by omega), by show ws.length - (i + 1) < ws.length - i; omega, ⟨rfl, congrArg (fun z => some (i64 z)) hs.symm, congrArg (fun z => some (V.int .i64 z)) e1, trivial⟩, rfl⟩
  · have hil : i = ws.length := by omega
    subst hil
    repeat' (first
        | refine W.seq ?_ | refine W.region ?_ | refine WS.nil ?_ | refine W.ret ?_ | refine WS.near rfl o_mov rfl ?_ | fail)
    exact ⟨_, rfl, fin_int rfl⟩
end Go.Proofs.YtfbikhkmamdjmaaGreatDoor.CodesS
