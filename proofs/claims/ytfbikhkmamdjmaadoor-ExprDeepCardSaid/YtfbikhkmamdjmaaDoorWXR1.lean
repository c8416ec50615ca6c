/- The lexer, part 1. -/
import Derived.Test.YtfbikhkmamdjmaaDoorWXF
namespace Go.Proofs.YtfbikhkmamdjmaaDoor.CodesX
open Go Go.Ab
set_option maxHeartbeats 800000
set_option maxRecDepth 20000
set_option maxHeartbeats 800000
set_option maxRecDepth 20000
theorem word_load {i : Nat} (hi : i < wordList.length) : hload (badd [] (wordList.map V.str)) 0 ((0 + i) * 1) = some (.str (strAt wordList i)) := by
  have h1 : i < (wordList.map V.str).length := by simpa using hi
  have h2 : (0 + i) * 1 = i := by omega
  show ((wordList.map V.str).drop ((0 + i) * 1)).head? = _
  rw [h2, List.drop_eq_getElem_cons h1]
  simp [strAt, List.getD, hi]
/-- the texts of the first literal of a code -/
def litOf : ACode → List V
  | .region l => (l.findSome? fun s => match s.op with
    | .lit _ z _ _ => some z
    | _ => none).getD []
  | .seq a b => match litOf a with
    | [] => litOf b
    | l => l
  | _ => []
def wordZ : List V := litOf c85.body
theorem wordZ_eq : wordZ = wordList.map V.str := beqs_sound _ _ (by kernel_rfl)
theorem refWord_pu (s : List Nat) : PuF D1 85 [.str s] (.bool (decide (s ∈ wordList))) := by
  have hL := words_len
  refine PuF.tidy rfl rfl rfl rfl rfl fun h hf => ?_
  repeat' (first
      | refine W.seq ?_ | refine W.region ?_ | refine WS.nil ?_ | refine WS.near rfl o_mov rfl ?_ | fail)
  refine WS.near rfl (o_litH 0 rfl (cs := wordZ) rfl) rfl ?_
  rw [wordZ_eq]
  repeat' (first
      | refine W.seq ?_ | refine W.region ?_ | refine WS.nil ?_ | refine W.block ?_ | refine WS.near rfl o_mov rfl ?_ | fail)
  refine W.loop (fun i : Nat => [(0, .str s), (2, .msl (h.next + 0) 1 0 wordList.length none), (3, .int .i64 i)]) (fun _ => hp h (badd [] (wordList.map V.str))) (fun i => i ≤ wordList.length ∧ s ∉ wordList.take i) (fun i => wordList.length - i) 0 ⟨by omega, by simp⟩ ⟨rfl, rfl, rfl, trivial⟩ rfl ?_
  rintro i ⟨hi, hr⟩
  repeat' (first
      | refine W.seq ?_ | refine W.region ?_ | refine WS.nil ?_ | refine W.skip ?_ | refine W.block ?_ | refine W.ret ?_ | refine W.exit ?_ | refine W.fork rfl (fun _ => ?_) (fun _ => ?_) | refine WS.near rfl o_mov rfl ?_ | refine WS.near rfl o_lss rfl ?_ | refine WS.near rfl o_lenM rfl ?_ | refine WS.near rfl (o_iaddrM rfl (by omega)) rfl ?_ | fail)
  · rename_i hlt
    refine WS.near rfl (o_loadH (word_load (by omega))) rfl ?_
    repeat' (first
        | refine W.seq ?_ | refine W.region ?_ | refine WS.nil ?_ | refine W.skip ?_ | refine W.ret ?_ | refine W.fork rfl (fun _ => ?_) (fun _ => ?_) | refine WS.near rfl o_mov rfl ?_ | refine WS.near rfl o_seql rfl ?_ | refine WS.near rfl (o_add (by omega) (by omega)) rfl ?_ | fail)
    · rename_i heq
      exact ⟨_, rfl, fin_bool (btrue (by rw [← heq]; exact List.mem_of_getElem? (strAt_get (by omega))))⟩
    · rename_i hne
      refine ⟨i + 1, ⟨by omega, fun hm => ?_⟩, (by show wordList.length - (i + 1) < wordList.length - i; omega), ⟨rfl, rfl, rfl, trivial⟩, rfl⟩
      rw [List.take_add_one, strAt_get (by omega)] at hm
      simp only [Option.toList_some, List.mem_append, List.mem_singleton] at hm
      rcases hm with hm | hm
      · exact hr hm
      · exact hne hm.symm
  · rename_i hge
    have : wordList.take i = wordList := List.take_of_length_le (by omega)
    rw [this] at hr
    exact ⟨_, rfl, fin_bool (bfalse hr)⟩
end Go.Proofs.YtfbikhkmamdjmaaDoor.CodesX
