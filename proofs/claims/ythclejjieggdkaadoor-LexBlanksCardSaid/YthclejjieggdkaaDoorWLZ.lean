/- The lexer: what stands between tokens. -/
import Derived.Test.YthclejjieggdkaaDoorWLY
namespace Go.Proofs.YthclejjieggdkaaDoor.CodesL
open Go Go.Ab
set_option maxHeartbeats 800000
set_option maxRecDepth 20000

def Small (s : List Nat) : Prop := ∀ b ∈ s, b < 256
theorem Small.drop {s : List Nat} (h : Small s) (n : Nat) : Small (s.drop n) := fun b hb => h b (List.mem_of_mem_drop hb)
theorem Small.at {s : List Nat} (h : Small s) (n : Nat) : at' s n < 256 := by
  unfold at'
  by_cases hn : n < s.length
  · simp only [List.getD, List.getElem?_eq_getElem hn, Option.getD_some]
    exact h _ (List.getElem_mem hn)
  · simp [List.getD, List.getElem?_eq_none (Nat.le_of_not_lt hn)]

theorem blank_drop {c : Nat} (hc : c < 256) : blankCells.drop (0 + c * 1) = .bool (decide (isBlank c)) :: blankCells.drop (c + 1) := by
  have hl : c < blankCells.length := by simpa [blankCells] using hc
  rw [Nat.zero_add, Nat.mul_one, List.drop_eq_getElem_cons hl]
  simp [blankCells]
theorem inSet_pu (id : Nat) {c : Nat} (hc : c < 256) : PuC D1 76 [.mptr id 0, .int .u8 c] (.bool (decide (isBlank c))) (fun h => h.cellsOf id = some blankCells) := by
  refine PuC.tidy (fun h hp => hp) rfl rfl rfl rfl rfl fun h hf hpre => ?_
  repeat' (first
      | refine W.seq ?_ | refine W.region ?_ | refine WS.nil ?_ | refine W.skip ?_ | refine W.block ?_ | refine W.ret ?_ | refine W.exit ?_ | refine W.goto ?_ | refine W.yes rfl rfl ?_ | refine W.no rfl rfl ?_ | refine W.fork rfl (fun _ => ?_) (fun _ => ?_) | refine WS.guardT rfl ?_ | refine WS.guardF rfl rfl rfl ?_ | refine WS.guardK rfl (fun _ => ?_) (fun _ => ?_) | refine WS.near rfl o_mov rfl ?_ | refine WS.near rfl o_pickT rfl ?_ | refine WS.near rfl o_pickF rfl ?_ | refine WS.near rfl o_gtr rfl ?_ | refine WS.near rfl o_geq rfl ?_ | refine WS.near rfl o_eql rfl ?_ | refine WS.near rfl o_seql0 rfl ?_ | refine WS.near rfl o_not rfl ?_ | refine WS.near rfl o_lenS rfl ?_ | refine WS.near rfl o_nilchk rfl ?_ | refine WS.near rfl (o_extract rfl) rfl ?_ | refine WS.near rfl (o_storeH (by assumption) rfl rfl) rfl ?_ | refine WS.near rfl (o_allocH 0 rfl) rfl ?_
      | refine WS.near rfl (o_add (by omega) (by omega)) rfl ?_ | refine WS.near rfl (o_sub (by omega) (by omega)) rfl ?_ | refine WS.near rfl (o_index 0 rfl (by omega)) rfl ?_ | refine WS.near rfl (o_iaddrA rfl (by omega)) rfl ?_ | refine WS.near rfl (o_sliceF _ rfl (by omega)) rfl ?_ | refine WS.near rfl (o_sliceF 1 rfl (by omega)) rfl ?_)
  refine WS.near rfl (o_loadOld hf hpre (blank_drop hc)) rfl ?_
  repeat' (first
      | refine W.seq ?_ | refine W.region ?_ | refine WS.nil ?_ | refine W.skip ?_ | refine W.block ?_ | refine W.ret ?_ | refine W.exit ?_ | refine W.goto ?_ | refine W.yes rfl rfl ?_ | refine W.no rfl rfl ?_ | refine W.fork rfl (fun _ => ?_) (fun _ => ?_) | refine WS.guardT rfl ?_ | refine WS.guardF rfl rfl rfl ?_ | refine WS.guardK rfl (fun _ => ?_) (fun _ => ?_) | refine WS.near rfl o_mov rfl ?_ | refine WS.near rfl o_pickT rfl ?_ | refine WS.near rfl o_pickF rfl ?_ | refine WS.near rfl o_gtr rfl ?_ | refine WS.near rfl o_geq rfl ?_ | refine WS.near rfl o_eql rfl ?_ | refine WS.near rfl o_seql0 rfl ?_ | refine WS.near rfl o_not rfl ?_ | refine WS.near rfl o_lenS rfl ?_ | refine WS.near rfl o_nilchk rfl ?_ | refine WS.near rfl (o_extract rfl) rfl ?_ | refine WS.near rfl (o_storeH (by assumption) rfl rfl) rfl ?_ | refine WS.near rfl (o_allocH 0 rfl) rfl ?_
      | refine WS.near rfl (o_add (by omega) (by omega)) rfl ?_ | refine WS.near rfl (o_sub (by omega) (by omega)) rfl ?_ | refine WS.near rfl (o_index 0 rfl (by omega)) rfl ?_ | refine WS.near rfl (o_iaddrA rfl (by omega)) rfl ?_ | refine WS.near rfl (o_sliceF _ rfl (by omega)) rfl ?_ | refine WS.near rfl (o_sliceF 1 rfl (by omega)) rfl ?_)
  exact ⟨_, rfl, fin_bool rfl⟩

def trimL (s : List Nat) : List Nat := s.dropWhile fun c => decide (isBlank c)
theorem trimL_yes {c : Nat} {r : List Nat} (h : isBlank c) : trimL (c :: r) = trimL r := by simp [trimL, h]
theorem trimL_no {c : Nat} {r : List Nat} (h : ¬ isBlank c) : trimL (c :: r) = c :: r := by simp [trimL, h]

theorem trimA_pu (id : Nat) (s : List Nat) (hs : Small s) (hl : s.length < 2 ^ 60) : PuC D1 65 [.str s, .mptr id 0] (.str (trimL s)) (fun h => h.cellsOf id = some blankCells) := by
  refine PuC.tidy (fun h hp => hp) rfl rfl rfl rfl rfl fun h hf hpre => ?_
  repeat' (first
      | refine W.seq ?_ | refine W.region ?_ | refine WS.nil ?_ | refine W.skip ?_ | refine W.block ?_ | refine W.ret ?_ | refine W.exit ?_ | refine W.goto ?_ | refine W.yes rfl rfl ?_ | refine W.no rfl rfl ?_ | refine W.fork rfl (fun _ => ?_) (fun _ => ?_) | refine WS.guardT rfl ?_ | refine WS.guardF rfl rfl rfl ?_ | refine WS.guardK rfl (fun _ => ?_) (fun _ => ?_) | refine WS.near rfl o_mov rfl ?_ | refine WS.near rfl o_pickT rfl ?_ | refine WS.near rfl o_pickF rfl ?_ | refine WS.near rfl o_gtr rfl ?_ | refine WS.near rfl o_geq rfl ?_ | refine WS.near rfl o_eql rfl ?_ | refine WS.near rfl o_seql0 rfl ?_ | refine WS.near rfl o_not rfl ?_ | refine WS.near rfl o_lenS rfl ?_ | refine WS.near rfl o_nilchk rfl ?_ | refine WS.near rfl (o_extract rfl) rfl ?_ | refine WS.near rfl (o_storeH (by assumption) rfl rfl) rfl ?_ | refine WS.near rfl (o_allocH 0 rfl) rfl ?_
      | refine WS.near rfl (o_add (by omega) (by omega)) rfl ?_ | refine WS.near rfl (o_sub (by omega) (by omega)) rfl ?_ | refine WS.near rfl (o_index 0 rfl (by omega)) rfl ?_ | refine WS.near rfl (o_iaddrA rfl (by omega)) rfl ?_ | refine WS.near rfl (o_sliceF _ rfl (by omega)) rfl ?_ | refine WS.near rfl (o_sliceF 1 rfl (by omega)) rfl ?_)
  refine W.loop (fun t : List Nat => [(0, .str t), (1, .mptr id 0)]) (fun _ => hp h []) (fun t => trimL t = trimL s ∧ t.length ≤ s.length ∧ Small t) (fun t => t.length) s ⟨rfl, Nat.le_refl _, hs⟩ ⟨rfl, rfl, trivial⟩ rfl ?_
  rintro t ⟨ht, htl, hts⟩
  cases t with
  | nil =>
    repeat' (first
        | refine W.seq ?_ | refine W.region ?_ | refine WS.nil ?_ | refine W.skip ?_ | refine W.block ?_ | refine W.ret ?_ | refine W.exit ?_ | refine W.goto ?_ | refine W.yes rfl rfl ?_ | refine W.no rfl rfl ?_ | refine W.fork rfl (fun _ => ?_) (fun _ => ?_) | refine WS.guardT rfl ?_ | refine WS.guardF rfl rfl rfl ?_ | refine WS.guardK rfl (fun _ => ?_) (fun _ => ?_) | refine WS.near rfl o_mov rfl ?_ | refine WS.near rfl o_pickT rfl ?_ | refine WS.near rfl o_pickF rfl ?_ | refine WS.near rfl o_gtr rfl ?_ | refine WS.near rfl o_geq rfl ?_ | refine WS.near rfl o_eql rfl ?_ | refine WS.near rfl o_seql0 rfl ?_ | refine WS.near rfl o_not rfl ?_ | refine WS.near rfl o_lenS rfl ?_ | refine WS.near rfl o_nilchk rfl ?_ | refine WS.near rfl (o_extract rfl) rfl ?_ | refine WS.near rfl (o_storeH (by assumption) rfl rfl) rfl ?_ | refine WS.near rfl (o_allocH 0 rfl) rfl ?_
        | refine WS.near rfl (o_add (by omega) (by omega)) rfl ?_ | refine WS.near rfl (o_sub (by omega) (by omega)) rfl ?_ | refine WS.near rfl (o_index 0 rfl (by omega)) rfl ?_ | refine WS.near rfl (o_iaddrA rfl (by omega)) rfl ?_ | refine WS.near rfl (o_sliceF _ rfl (by omega)) rfl ?_ | refine WS.near rfl (o_sliceF 1 rfl (by omega)) rfl ?_)
    all_goals exact ⟨_, rfl, fin_str ht⟩
  | cons c r =>
    have hcl : (c :: r).length = r.length + 1 := rfl
    repeat' (first
        | refine W.seq ?_ | refine W.region ?_ | refine WS.nil ?_ | refine W.skip ?_ | refine W.block ?_ | refine W.ret ?_ | refine W.exit ?_ | refine W.goto ?_ | refine W.yes rfl rfl ?_ | refine W.no rfl rfl ?_ | refine W.fork rfl (fun _ => ?_) (fun _ => ?_) | refine WS.guardT rfl ?_ | refine WS.guardF rfl rfl rfl ?_ | refine WS.guardK rfl (fun _ => ?_) (fun _ => ?_) | refine WS.near rfl o_mov rfl ?_ | refine WS.near rfl o_pickT rfl ?_ | refine WS.near rfl o_pickF rfl ?_ | refine WS.near rfl o_gtr rfl ?_ | refine WS.near rfl o_geq rfl ?_ | refine WS.near rfl o_eql rfl ?_ | refine WS.near rfl o_seql0 rfl ?_ | refine WS.near rfl o_not rfl ?_ | refine WS.near rfl o_lenS rfl ?_ | refine WS.near rfl o_nilchk rfl ?_ | refine WS.near rfl (o_extract rfl) rfl ?_ | refine WS.near rfl (o_storeH (by assumption) rfl rfl) rfl ?_ | refine WS.near rfl (o_allocH 0 rfl) rfl ?_
        | refine WS.near rfl (o_add (by omega) (by omega)) rfl ?_ | refine WS.near rfl (o_sub (by omega) (by omega)) rfl ?_ | refine WS.near rfl (o_index 0 rfl (by omega)) rfl ?_ | refine WS.near rfl (o_iaddrA rfl (by omega)) rfl ?_ | refine WS.near rfl (o_sliceF _ rfl (by omega)) rfl ?_ | refine WS.near rfl (o_sliceF 1 rfl (by omega)) rfl ?_)
    · refine WS.puC hf ((hp_old [] (cells_lt hpre) hf).trans hpre) rfl rfl (inSet_pu id (c := at' (c :: r) 0) (hts.at 0)) ?_
      repeat' (first
          | refine W.seq ?_ | refine W.region ?_ | refine WS.nil ?_ | refine W.skip ?_ | refine W.block ?_ | refine W.ret ?_ | refine W.exit ?_ | refine W.goto ?_ | refine W.yes rfl rfl ?_ | refine W.no rfl rfl ?_ | refine W.fork rfl (fun _ => ?_) (fun _ => ?_) | refine WS.guardT rfl ?_ | refine WS.guardF rfl rfl rfl ?_ | refine WS.guardK rfl (fun _ => ?_) (fun _ => ?_) | refine WS.near rfl o_mov rfl ?_ | refine WS.near rfl o_pickT rfl ?_ | refine WS.near rfl o_pickF rfl ?_ | refine WS.near rfl o_gtr rfl ?_ | refine WS.near rfl o_geq rfl ?_ | refine WS.near rfl o_eql rfl ?_ | refine WS.near rfl o_seql0 rfl ?_ | refine WS.near rfl o_not rfl ?_ | refine WS.near rfl o_lenS rfl ?_ | refine WS.near rfl o_nilchk rfl ?_ | refine WS.near rfl (o_extract rfl) rfl ?_ | refine WS.near rfl (o_storeH (by assumption) rfl rfl) rfl ?_ | refine WS.near rfl (o_allocH 0 rfl) rfl ?_
          | refine WS.near rfl (o_add (by omega) (by omega)) rfl ?_ | refine WS.near rfl (o_sub (by omega) (by omega)) rfl ?_ | refine WS.near rfl (o_index 0 rfl (by omega)) rfl ?_ | refine WS.near rfl (o_iaddrA rfl (by omega)) rfl ?_ | refine WS.near rfl (o_sliceF _ rfl (by omega)) rfl ?_ | refine WS.near rfl (o_sliceF 1 rfl (by omega)) rfl ?_)
      · rename_i hb
        have hb' : ¬ isBlank c := hb
        exact ⟨_, rfl, fin_str (by rw [← ht, trimL_no hb'])⟩
      · rename_i hb
        have hb' : isBlank c := Decidable.not_not.1 hb
        exact ⟨r, ⟨by rw [← ht, trimL_yes hb'], by omega, fun b hb => hts b (List.mem_cons_of_mem _ hb)⟩, by show r.length < (c :: r).length; omega, ⟨rfl, rfl, trivial⟩, rfl⟩
    · rename_i h1
      omega
theorem trim_pu (s : List Nat) (hs : Small s) (hl : s.length < 2 ^ 60) : PuF D1 45 [.str s, .str [32, 9, 10, 13]] (.str (trimL s)) := by
  refine PuF.tidy rfl rfl rfl rfl rfl fun h hf => ?_
  repeat' (first
      | refine W.seq ?_ | refine W.region ?_ | refine WS.nil ?_ | refine W.skip ?_ | refine W.block ?_ | refine W.ret ?_ | refine W.exit ?_ | refine W.goto ?_ | refine W.yes rfl rfl ?_ | refine W.no rfl rfl ?_ | refine W.fork rfl (fun _ => ?_) (fun _ => ?_) | refine WS.guardT rfl ?_ | refine WS.guardF rfl rfl rfl ?_ | refine WS.guardK rfl (fun _ => ?_) (fun _ => ?_) | refine WS.near rfl o_mov rfl ?_ | refine WS.near rfl o_pickT rfl ?_ | refine WS.near rfl o_pickF rfl ?_ | refine WS.near rfl o_gtr rfl ?_ | refine WS.near rfl o_geq rfl ?_ | refine WS.near rfl o_eql rfl ?_ | refine WS.near rfl o_seql0 rfl ?_ | refine WS.near rfl o_not rfl ?_ | refine WS.near rfl o_lenS rfl ?_ | refine WS.near rfl o_nilchk rfl ?_ | refine WS.near rfl (o_extract rfl) rfl ?_ | refine WS.near rfl (o_storeH (by assumption) rfl rfl) rfl ?_ | refine WS.near rfl (o_allocH 0 rfl) rfl ?_
      | refine WS.near rfl (o_add (by omega) (by omega)) rfl ?_ | refine WS.near rfl (o_sub (by omega) (by omega)) rfl ?_ | refine WS.near rfl (o_index 0 rfl (by omega)) rfl ?_ | refine WS.near rfl (o_iaddrA rfl (by omega)) rfl ?_ | refine WS.near rfl (o_sliceF _ rfl (by omega)) rfl ?_ | refine WS.near rfl (o_sliceF 1 rfl (by omega)) rfl ?_)
  · rename_i h0
    have hz : s = [] := List.length_eq_zero_iff.1 (by omega)
    subst hz
    exact ⟨_, rfl, fin_str rfl⟩
  · refine WS.puF hf rfl rfl blank_set ?_
    repeat' (first
        | refine W.seq ?_ | refine W.region ?_ | refine WS.nil ?_ | refine W.skip ?_ | refine W.block ?_ | refine W.ret ?_ | refine W.exit ?_ | refine W.goto ?_ | refine W.yes rfl rfl ?_ | refine W.no rfl rfl ?_ | refine W.fork rfl (fun _ => ?_) (fun _ => ?_) | refine WS.guardT rfl ?_ | refine WS.guardF rfl rfl rfl ?_ | refine WS.guardK rfl (fun _ => ?_) (fun _ => ?_) | refine WS.near rfl o_mov rfl ?_ | refine WS.near rfl o_pickT rfl ?_ | refine WS.near rfl o_pickF rfl ?_ | refine WS.near rfl o_gtr rfl ?_ | refine WS.near rfl o_geq rfl ?_ | refine WS.near rfl o_eql rfl ?_ | refine WS.near rfl o_seql0 rfl ?_ | refine WS.near rfl o_not rfl ?_ | refine WS.near rfl o_lenS rfl ?_ | refine WS.near rfl o_nilchk rfl ?_ | refine WS.near rfl (o_extract rfl) rfl ?_ | refine WS.near rfl (o_storeH (by assumption) rfl rfl) rfl ?_ | refine WS.near rfl (o_allocH 0 rfl) rfl ?_
        | refine WS.near rfl (o_add (by omega) (by omega)) rfl ?_ | refine WS.near rfl (o_sub (by omega) (by omega)) rfl ?_ | refine WS.near rfl (o_index 0 rfl (by omega)) rfl ?_ | refine WS.near rfl (o_iaddrA rfl (by omega)) rfl ?_ | refine WS.near rfl (o_sliceF _ rfl (by omega)) rfl ?_ | refine WS.near rfl (o_sliceF 1 rfl (by omega)) rfl ?_)
    refine WS.puC hf (Pre := fun g => g.cellsOf (h.next + 0) = some blankCells) ?_ rfl rfl (trimA_pu (h.next + 0) s hs hl) ?_
    · refine (hp_cells ..).trans ?_
      have hz : ∀ z : List V, z.length = 256 → splice z 0 256 blankCells = blankCells := fun z hz => by simp [splice, hz]
      exact congrArg some (hz _ rfl)
    repeat' (first
        | refine W.seq ?_ | refine W.region ?_ | refine WS.nil ?_ | refine W.skip ?_ | refine W.block ?_ | refine W.ret ?_ | refine W.exit ?_ | refine W.goto ?_ | refine W.yes rfl rfl ?_ | refine W.no rfl rfl ?_ | refine W.fork rfl (fun _ => ?_) (fun _ => ?_) | refine WS.guardT rfl ?_ | refine WS.guardF rfl rfl rfl ?_ | refine WS.guardK rfl (fun _ => ?_) (fun _ => ?_) | refine WS.near rfl o_mov rfl ?_ | refine WS.near rfl o_pickT rfl ?_ | refine WS.near rfl o_pickF rfl ?_ | refine WS.near rfl o_gtr rfl ?_ | refine WS.near rfl o_geq rfl ?_ | refine WS.near rfl o_eql rfl ?_ | refine WS.near rfl o_seql0 rfl ?_ | refine WS.near rfl o_not rfl ?_ | refine WS.near rfl o_lenS rfl ?_ | refine WS.near rfl o_nilchk rfl ?_ | refine WS.near rfl (o_extract rfl) rfl ?_ | refine WS.near rfl (o_storeH (by assumption) rfl rfl) rfl ?_ | refine WS.near rfl (o_allocH 0 rfl) rfl ?_
        | refine WS.near rfl (o_add (by omega) (by omega)) rfl ?_ | refine WS.near rfl (o_sub (by omega) (by omega)) rfl ?_ | refine WS.near rfl (o_index 0 rfl (by omega)) rfl ?_ | refine WS.near rfl (o_iaddrA rfl (by omega)) rfl ?_ | refine WS.near rfl (o_sliceF _ rfl (by omega)) rfl ?_ | refine WS.near rfl (o_sliceF 1 rfl (by omega)) rfl ?_)
    exact ⟨_, rfl, fin_str rfl⟩

theorem ixb1_pu (s : List Nat) : PuF D1 68 [.str s, .int .u8 10] (.int .i64 (ixFrom 10 0 s)) := by
  refine PuF.tidy rfl rfl rfl rfl rfl fun h hf => ?_
  repeat' (first
      | refine W.seq ?_ | refine W.region ?_ | refine WS.nil ?_ | refine W.skip ?_ | refine W.block ?_ | refine W.ret ?_ | refine W.exit ?_ | refine W.goto ?_ | refine W.yes rfl rfl ?_ | refine W.no rfl rfl ?_ | refine W.fork rfl (fun _ => ?_) (fun _ => ?_) | refine WS.guardT rfl ?_ | refine WS.guardF rfl rfl rfl ?_ | refine WS.guardK rfl (fun _ => ?_) (fun _ => ?_) | refine WS.near rfl o_mov rfl ?_ | refine WS.near rfl o_pickT rfl ?_ | refine WS.near rfl o_pickF rfl ?_ | refine WS.near rfl o_gtr rfl ?_ | refine WS.near rfl o_geq rfl ?_ | refine WS.near rfl o_eql rfl ?_ | refine WS.near rfl o_seql0 rfl ?_ | refine WS.near rfl o_not rfl ?_ | refine WS.near rfl o_lenS rfl ?_ | refine WS.near rfl o_nilchk rfl ?_ | refine WS.near rfl (o_extract rfl) rfl ?_ | refine WS.near rfl (o_storeH (by assumption) rfl rfl) rfl ?_ | refine WS.near rfl (o_allocH 0 rfl) rfl ?_
      | refine WS.near rfl (o_add (by omega) (by omega)) rfl ?_ | refine WS.near rfl (o_sub (by omega) (by omega)) rfl ?_ | refine WS.near rfl (o_index 0 rfl (by omega)) rfl ?_ | refine WS.near rfl (o_iaddrA rfl (by omega)) rfl ?_ | refine WS.near rfl (o_sliceF _ rfl (by omega)) rfl ?_ | refine WS.near rfl (o_sliceF 1 rfl (by omega)) rfl ?_)
  refine WS.near rfl (o_ixb (c := 10) rfl (by omega)) rfl ?_
  repeat' (first
      | refine W.seq ?_ | refine W.region ?_ | refine WS.nil ?_ | refine W.skip ?_ | refine W.block ?_ | refine W.ret ?_ | refine W.exit ?_ | refine W.goto ?_ | refine W.yes rfl rfl ?_ | refine W.no rfl rfl ?_ | refine W.fork rfl (fun _ => ?_) (fun _ => ?_) | refine WS.guardT rfl ?_ | refine WS.guardF rfl rfl rfl ?_ | refine WS.guardK rfl (fun _ => ?_) (fun _ => ?_) | refine WS.near rfl o_mov rfl ?_ | refine WS.near rfl o_pickT rfl ?_ | refine WS.near rfl o_pickF rfl ?_ | refine WS.near rfl o_gtr rfl ?_ | refine WS.near rfl o_geq rfl ?_ | refine WS.near rfl o_eql rfl ?_ | refine WS.near rfl o_seql0 rfl ?_ | refine WS.near rfl o_not rfl ?_ | refine WS.near rfl o_lenS rfl ?_ | refine WS.near rfl o_nilchk rfl ?_ | refine WS.near rfl (o_extract rfl) rfl ?_ | refine WS.near rfl (o_storeH (by assumption) rfl rfl) rfl ?_ | refine WS.near rfl (o_allocH 0 rfl) rfl ?_
      | refine WS.near rfl (o_add (by omega) (by omega)) rfl ?_ | refine WS.near rfl (o_sub (by omega) (by omega)) rfl ?_ | refine WS.near rfl (o_index 0 rfl (by omega)) rfl ?_ | refine WS.near rfl (o_iaddrA rfl (by omega)) rfl ?_ | refine WS.near rfl (o_sliceF _ rfl (by omega)) rfl ?_ | refine WS.near rfl (o_sliceF 1 rfl (by omega)) rfl ?_)
  exact ⟨_, rfl, fin_int rfl⟩
theorem ixb_pu (s : List Nat) : PuF D1 47 [.str s, .int .u8 10] (.int .i64 (ixFrom 10 0 s)) := by
  refine PuF.tidy rfl rfl rfl rfl rfl fun h hf => ?_
  repeat' (first
      | refine W.seq ?_ | refine W.region ?_ | refine WS.nil ?_ | refine W.skip ?_ | refine W.block ?_ | refine W.ret ?_ | refine W.exit ?_ | refine W.goto ?_ | refine W.yes rfl rfl ?_ | refine W.no rfl rfl ?_ | refine W.fork rfl (fun _ => ?_) (fun _ => ?_) | refine WS.guardT rfl ?_ | refine WS.guardF rfl rfl rfl ?_ | refine WS.guardK rfl (fun _ => ?_) (fun _ => ?_) | refine WS.near rfl o_mov rfl ?_ | refine WS.near rfl o_pickT rfl ?_ | refine WS.near rfl o_pickF rfl ?_ | refine WS.near rfl o_gtr rfl ?_ | refine WS.near rfl o_geq rfl ?_ | refine WS.near rfl o_eql rfl ?_ | refine WS.near rfl o_seql0 rfl ?_ | refine WS.near rfl o_not rfl ?_ | refine WS.near rfl o_lenS rfl ?_ | refine WS.near rfl o_nilchk rfl ?_ | refine WS.near rfl (o_extract rfl) rfl ?_ | refine WS.near rfl (o_storeH (by assumption) rfl rfl) rfl ?_ | refine WS.near rfl (o_allocH 0 rfl) rfl ?_
      | refine WS.near rfl (o_add (by omega) (by omega)) rfl ?_ | refine WS.near rfl (o_sub (by omega) (by omega)) rfl ?_ | refine WS.near rfl (o_index 0 rfl (by omega)) rfl ?_ | refine WS.near rfl (o_iaddrA rfl (by omega)) rfl ?_ | refine WS.near rfl (o_sliceF _ rfl (by omega)) rfl ?_ | refine WS.near rfl (o_sliceF 1 rfl (by omega)) rfl ?_)
  refine WS.puF hf rfl rfl (ixb1_pu s) ?_
  repeat' (first
      | refine W.seq ?_ | refine W.region ?_ | refine WS.nil ?_ | refine W.skip ?_ | refine W.block ?_ | refine W.ret ?_ | refine W.exit ?_ | refine W.goto ?_ | refine W.yes rfl rfl ?_ | refine W.no rfl rfl ?_ | refine W.fork rfl (fun _ => ?_) (fun _ => ?_) | refine WS.guardT rfl ?_ | refine WS.guardF rfl rfl rfl ?_ | refine WS.guardK rfl (fun _ => ?_) (fun _ => ?_) | refine WS.near rfl o_mov rfl ?_ | refine WS.near rfl o_pickT rfl ?_ | refine WS.near rfl o_pickF rfl ?_ | refine WS.near rfl o_gtr rfl ?_ | refine WS.near rfl o_geq rfl ?_ | refine WS.near rfl o_eql rfl ?_ | refine WS.near rfl o_seql0 rfl ?_ | refine WS.near rfl o_not rfl ?_ | refine WS.near rfl o_lenS rfl ?_ | refine WS.near rfl o_nilchk rfl ?_ | refine WS.near rfl (o_extract rfl) rfl ?_ | refine WS.near rfl (o_storeH (by assumption) rfl rfl) rfl ?_ | refine WS.near rfl (o_allocH 0 rfl) rfl ?_
      | refine WS.near rfl (o_add (by omega) (by omega)) rfl ?_ | refine WS.near rfl (o_sub (by omega) (by omega)) rfl ?_ | refine WS.near rfl (o_index 0 rfl (by omega)) rfl ?_ | refine WS.near rfl (o_iaddrA rfl (by omega)) rfl ?_ | refine WS.near rfl (o_sliceF _ rfl (by omega)) rfl ?_ | refine WS.near rfl (o_sliceF 1 rfl (by omega)) rfl ?_)
  exact ⟨_, rfl, fin_int rfl⟩

/-- how many bytes stand between tokens; in a comment, or not -/
def skipB : Bool → List Nat → Nat
  | _, [] => 0
  | false, c :: r => if isBlank c then skipB false r + 1 else if c = 47 ∧ r.head? = some 47 then skipB true r + 1 else 0
  | true, c :: r => if c = 10 then skipB false r + 1 else skipB true r + 1
def skipF (s : List Nat) : Nat := skipB false s

theorem skip_trim : ∀ s : List Nat, skipF s + (trimL s).length = s.length + skipF (trimL s) ∧ (trimL s).length ≤ s.length ∧ s.drop (s.length - (trimL s).length) = trimL s
  | [] => ⟨rfl, Nat.le_refl _, rfl⟩
  | c :: r => by
    by_cases h : isBlank c
    · obtain ⟨h1, h2, h3⟩ := skip_trim r
      have e : skipF (c :: r) = skipF r + 1 := by simp [skipF, skipB, h]
      rw [trimL_yes h, e, List.length_cons]
      refine ⟨by omega, by omega, ?_⟩
      have : r.length + 1 - (trimL r).length = (r.length - (trimL r).length) + 1 := by omega
      rw [this, List.drop_succ_cons, h3]
    · rw [trimL_no h]; exact ⟨by omega, Nat.le_refl _, by simp⟩
theorem trimL_head (s : List Nat) : trimL s = [] ∨ ∃ c r, trimL s = c :: r ∧ ¬ isBlank c := by
  induction s with
  | nil => exact .inl rfl
  | cons c r ih =>
    by_cases h : isBlank c
    · rw [trimL_yes h]; exact ih
    · rw [trimL_no h]; exact .inr ⟨c, r, rfl, h⟩
theorem skip_stop {s : List Nat} (h : ¬ (trimL s).take 2 = [47, 47]) : skipF (trimL s) = 0 := by
  rcases trimL_head s with e | ⟨c, r, e, hc⟩
  · rw [e]; rfl
  · rw [e] at h ⊢
    have : ¬ (c = 47 ∧ r.head? = some 47) := fun ⟨h1, h2⟩ => h (by
      cases r with
      | nil => cases h2
      | cons d r => simp at h2; simp [h1, h2])
    simp [skipF, skipB, hc, this]
theorem blank10 : isBlank 10 := by unfold isBlank; omega
theorem skip_line : ∀ (r : List Nat) (k : Nat), (ixFrom 10 k r = -1 ∧ skipB true r = r.length) ∨ ∃ j, j < r.length ∧ ixFrom 10 k r = ((k + j : Nat) : Int) ∧ skipB true r = j + skipF (r.drop j)
  | [], k => .inl ⟨rfl, rfl⟩
  | b :: r, k => by
    by_cases h : b = 10
    · subst h
      refine .inr ⟨0, by simp, by simp [ixFrom], ?_⟩
      simp [skipF, skipB, blank10]
    · rcases skip_line r (k + 1) with ⟨h1, h2⟩ | ⟨j, h1, h2, h3⟩
      · exact .inl ⟨by simp [ixFrom, h, h1], by simp [skipB, h, h2]⟩
      · refine .inr ⟨j + 1, by simp; omega, ?_, ?_⟩
        · simp only [ixFrom, h, if_false, h2]
          congr 1; omega
        · simp only [skipB, h, if_false, h3, List.drop_succ_cons]; omega
theorem skip_comment {s : List Nat} (h : s.take 2 = [47, 47]) : (ixFrom 10 0 s = -1 ∧ skipF s = s.length) ∨ ∃ j, 0 < j ∧ j < s.length ∧ ixFrom 10 0 s = (j : Nat) ∧ skipF s = j + skipF (s.drop j) := by
  match s, h with
  | a :: b :: r, h =>
    simp only [List.take_succ_cons, List.take_zero, List.cons.injEq, and_true] at h
    obtain ⟨rfl, rfl⟩ := h
    have hb : ¬ isBlank 47 := by unfold isBlank; omega
    have e1 : skipF (47 :: 47 :: r) = skipB true (47 :: r) + 1 := by simp [skipF, skipB, hb]
    have e2 : ixFrom 10 0 (47 :: 47 :: r) = ixFrom 10 1 (47 :: r) := by simp [ixFrom]
    rcases skip_line (47 :: r) 1 with ⟨h1, h2⟩ | ⟨j, h1, h2, h3⟩
    · exact .inl ⟨e2.trans h1, by rw [e1, h2]; rfl⟩
    · refine .inr ⟨j + 1, by omega, by simpa using h1, ?_, ?_⟩
      · rw [e2, h2]; congr 1; omega
      · rw [e1, h3, List.drop_succ_cons]; omega

theorem blank_pu (s : List Nat) (hs : Small s) (hl : s.length < 2 ^ 60) : PuF D1 32 [.str s] (.int .i64 (skipF s)) := by
  refine PuF.tidy rfl rfl rfl rfl rfl fun h hf => ?_
  refine W.seq ?_
  repeat' (first
      | refine W.region ?_ | refine WS.nil ?_ | refine W.skip ?_ | refine W.block ?_ | refine W.ret ?_ | refine W.exit ?_ | refine W.goto ?_ | refine W.yes rfl rfl ?_ | refine W.no rfl rfl ?_ | refine W.fork rfl (fun _ => ?_) (fun _ => ?_) | refine WS.guardT rfl ?_ | refine WS.guardF rfl rfl rfl ?_ | refine WS.guardK rfl (fun _ => ?_) (fun _ => ?_) | refine WS.near rfl o_mov rfl ?_ | refine WS.near rfl o_pickT rfl ?_ | refine WS.near rfl o_pickF rfl ?_ | refine WS.near rfl o_gtr rfl ?_ | refine WS.near rfl o_geq rfl ?_ | refine WS.near rfl o_eql rfl ?_ | refine WS.near rfl o_seql0 rfl ?_ | refine WS.near rfl o_not rfl ?_ | refine WS.near rfl o_lenS rfl ?_ | refine WS.near rfl o_nilchk rfl ?_ | refine WS.near rfl (o_extract rfl) rfl ?_ | refine WS.near rfl (o_storeH (by assumption) rfl rfl) rfl ?_ | refine WS.near rfl (o_allocH 0 rfl) rfl ?_
      | refine WS.near rfl (o_add (by omega) (by omega)) rfl ?_ | refine WS.near rfl (o_sub (by omega) (by omega)) rfl ?_ | refine WS.near rfl (o_index 0 rfl (by omega)) rfl ?_ | refine WS.near rfl (o_iaddrA rfl (by omega)) rfl ?_ | refine WS.near rfl (o_sliceF _ rfl (by omega)) rfl ?_ | refine WS.near rfl (o_sliceF 1 rfl (by omega)) rfl ?_)
  refine W.scope ?_
  refine W.first ?_
  repeat' (first
      | refine W.region ?_ | refine WS.nil ?_ | refine W.skip ?_ | refine W.block ?_ | refine W.ret ?_ | refine W.exit ?_ | refine W.goto ?_ | refine W.yes rfl rfl ?_ | refine W.no rfl rfl ?_ | refine W.fork rfl (fun _ => ?_) (fun _ => ?_) | refine WS.guardT rfl ?_ | refine WS.guardF rfl rfl rfl ?_ | refine WS.guardK rfl (fun _ => ?_) (fun _ => ?_) | refine WS.near rfl o_mov rfl ?_ | refine WS.near rfl o_pickT rfl ?_ | refine WS.near rfl o_pickF rfl ?_ | refine WS.near rfl o_gtr rfl ?_ | refine WS.near rfl o_geq rfl ?_ | refine WS.near rfl o_eql rfl ?_ | refine WS.near rfl o_seql0 rfl ?_ | refine WS.near rfl o_not rfl ?_ | refine WS.near rfl o_lenS rfl ?_ | refine WS.near rfl o_nilchk rfl ?_ | refine WS.near rfl (o_extract rfl) rfl ?_ | refine WS.near rfl (o_storeH (by assumption) rfl rfl) rfl ?_ | refine WS.near rfl (o_allocH 0 rfl) rfl ?_
      | refine WS.near rfl (o_add (by omega) (by omega)) rfl ?_ | refine WS.near rfl (o_sub (by omega) (by omega)) rfl ?_ | refine WS.near rfl (o_index 0 rfl (by omega)) rfl ?_ | refine WS.near rfl (o_iaddrA rfl (by omega)) rfl ?_ | refine WS.near rfl (o_sliceF _ rfl (by omega)) rfl ?_ | refine WS.near rfl (o_sliceF 1 rfl (by omega)) rfl ?_)
  refine W.jumps (fun n : Nat => [(0, .str s), (2, .int .i64 n)]) (fun _ => hp h []) (fun n => n ≤ s.length ∧ n + skipF (s.drop n) = skipF s) (fun n => s.length - n) 0 ⟨by omega, by simp⟩ ⟨rfl, rfl, trivial⟩ rfl ?_
  rintro n ⟨hn, hr⟩ ih
  refine W.inscope ?_
  repeat' (first
      | refine W.seq ?_ | refine W.region ?_ | refine WS.nil ?_ | refine W.skip ?_ | refine W.block ?_ | refine W.ret ?_ | refine W.exit ?_ | refine W.goto ?_ | refine W.yes rfl rfl ?_ | refine W.no rfl rfl ?_ | refine W.fork rfl (fun _ => ?_) (fun _ => ?_) | refine WS.guardT rfl ?_ | refine WS.guardF rfl rfl rfl ?_ | refine WS.guardK rfl (fun _ => ?_) (fun _ => ?_) | refine WS.near rfl o_mov rfl ?_ | refine WS.near rfl o_pickT rfl ?_ | refine WS.near rfl o_pickF rfl ?_ | refine WS.near rfl o_gtr rfl ?_ | refine WS.near rfl o_geq rfl ?_ | refine WS.near rfl o_eql rfl ?_ | refine WS.near rfl o_seql0 rfl ?_ | refine WS.near rfl o_not rfl ?_ | refine WS.near rfl o_lenS rfl ?_ | refine WS.near rfl o_nilchk rfl ?_ | refine WS.near rfl (o_extract rfl) rfl ?_ | refine WS.near rfl (o_storeH (by assumption) rfl rfl) rfl ?_ | refine WS.near rfl (o_allocH 0 rfl) rfl ?_
      | refine WS.near rfl (o_add (by omega) (by omega)) rfl ?_ | refine WS.near rfl (o_sub (by omega) (by omega)) rfl ?_ | refine WS.near rfl (o_index 0 rfl (by omega)) rfl ?_ | refine WS.near rfl (o_iaddrA rfl (by omega)) rfl ?_ | refine WS.near rfl (o_sliceF _ rfl (by omega)) rfl ?_ | refine WS.near rfl (o_sliceF 1 rfl (by omega)) rfl ?_)
  have hdl : (s.drop n).length = s.length - n := List.length_drop
  obtain ⟨t1, t2, t3⟩ := skip_trim (s.drop n)
  refine WS.puF hf rfl rfl (trim_pu (s.drop n) (hs.drop n) (by omega)) ?_
  repeat' (first
      | refine W.seq ?_ | refine W.region ?_ | refine WS.nil ?_ | refine W.skip ?_ | refine W.block ?_ | refine W.ret ?_ | refine W.exit ?_ | refine W.goto ?_ | refine W.yes rfl rfl ?_ | refine W.no rfl rfl ?_ | refine W.fork rfl (fun _ => ?_) (fun _ => ?_) | refine WS.guardT rfl ?_ | refine WS.guardF rfl rfl rfl ?_ | refine WS.guardK rfl (fun _ => ?_) (fun _ => ?_) | refine WS.near rfl o_mov rfl ?_ | refine WS.near rfl o_pickT rfl ?_ | refine WS.near rfl o_pickF rfl ?_ | refine WS.near rfl o_gtr rfl ?_ | refine WS.near rfl o_geq rfl ?_ | refine WS.near rfl o_eql rfl ?_ | refine WS.near rfl o_seql0 rfl ?_ | refine WS.near rfl o_not rfl ?_ | refine WS.near rfl o_lenS rfl ?_ | refine WS.near rfl o_nilchk rfl ?_ | refine WS.near rfl (o_extract rfl) rfl ?_ | refine WS.near rfl (o_storeH (by assumption) rfl rfl) rfl ?_ | refine WS.near rfl (o_allocH 0 rfl) rfl ?_
      | refine WS.near rfl (o_add (by omega) (by omega)) rfl ?_ | refine WS.near rfl (o_sub (by omega) (by omega)) rfl ?_ | refine WS.near rfl (o_index 0 rfl (by omega)) rfl ?_ | refine WS.near rfl (o_iaddrA rfl (by omega)) rfl ?_ | refine WS.near rfl (o_sliceF _ rfl (by omega)) rfl ?_ | refine WS.near rfl (o_sliceF 1 rfl (by omega)) rfl ?_)
  refine WS.puF hf rfl rfl (pre_pu (trimL (s.drop n)) [47, 47]) ?_
  repeat' (first
      | refine W.seq ?_ | refine W.region ?_ | refine WS.nil ?_ | refine W.skip ?_ | refine W.block ?_ | refine W.ret ?_ | refine W.exit ?_ | refine W.goto ?_ | refine W.yes rfl rfl ?_ | refine W.no rfl rfl ?_ | refine W.fork rfl (fun _ => ?_) (fun _ => ?_) | refine WS.guardT rfl ?_ | refine WS.guardF rfl rfl rfl ?_ | refine WS.guardK rfl (fun _ => ?_) (fun _ => ?_) | refine WS.near rfl o_mov rfl ?_ | refine WS.near rfl o_pickT rfl ?_ | refine WS.near rfl o_pickF rfl ?_ | refine WS.near rfl o_gtr rfl ?_ | refine WS.near rfl o_geq rfl ?_ | refine WS.near rfl o_eql rfl ?_ | refine WS.near rfl o_seql0 rfl ?_ | refine WS.near rfl o_not rfl ?_ | refine WS.near rfl o_lenS rfl ?_ | refine WS.near rfl o_nilchk rfl ?_ | refine WS.near rfl (o_extract rfl) rfl ?_ | refine WS.near rfl (o_storeH (by assumption) rfl rfl) rfl ?_ | refine WS.near rfl (o_allocH 0 rfl) rfl ?_
      | refine WS.near rfl (o_add (by omega) (by omega)) rfl ?_ | refine WS.near rfl (o_sub (by omega) (by omega)) rfl ?_ | refine WS.near rfl (o_index 0 rfl (by omega)) rfl ?_ | refine WS.near rfl (o_iaddrA rfl (by omega)) rfl ?_ | refine WS.near rfl (o_sliceF _ rfl (by omega)) rfl ?_ | refine WS.near rfl (o_sliceF 1 rfl (by omega)) rfl ?_)
  · rename_i hno
    have hno' : ¬ (trimL (s.drop n)).take 2 = [47, 47] := hno
    have := skip_stop hno'
    exact ⟨_, rfl, fin_int (by omega)⟩
  · rename_i hyes
    have hyes' : (trimL (s.drop n)).take 2 = [47, 47] := Decidable.not_not.1 hyes
    refine WS.puF hf rfl rfl (ixb_pu _) ?_
    rcases skip_comment hyes' with ⟨c1, c2⟩ | ⟨j, c1, c2, c3, c4⟩
    · rw [c1]
      repeat' (first
          | refine W.seq ?_ | refine W.region ?_ | refine WS.nil ?_ | refine W.skip ?_ | refine W.block ?_ | refine W.ret ?_ | refine W.exit ?_ | refine W.goto ?_ | refine W.yes rfl rfl ?_ | refine W.no rfl rfl ?_ | refine W.fork rfl (fun _ => ?_) (fun _ => ?_) | refine WS.guardT rfl ?_ | refine WS.guardF rfl rfl rfl ?_ | refine WS.guardK rfl (fun _ => ?_) (fun _ => ?_) | refine WS.near rfl o_mov rfl ?_ | refine WS.near rfl o_pickT rfl ?_ | refine WS.near rfl o_pickF rfl ?_ | refine WS.near rfl o_gtr rfl ?_ | refine WS.near rfl o_geq rfl ?_ | refine WS.near rfl o_eql rfl ?_ | refine WS.near rfl o_seql0 rfl ?_ | refine WS.near rfl o_not rfl ?_ | refine WS.near rfl o_lenS rfl ?_ | refine WS.near rfl o_nilchk rfl ?_ | refine WS.near rfl (o_extract rfl) rfl ?_ | refine WS.near rfl (o_storeH (by assumption) rfl rfl) rfl ?_ | refine WS.near rfl (o_allocH 0 rfl) rfl ?_
          | refine WS.near rfl (o_add (by omega) (by omega)) rfl ?_ | refine WS.near rfl (o_sub (by omega) (by omega)) rfl ?_ | refine WS.near rfl (o_index 0 rfl (by omega)) rfl ?_ | refine WS.near rfl (o_iaddrA rfl (by omega)) rfl ?_ | refine WS.near rfl (o_sliceF _ rfl (by omega)) rfl ?_ | refine WS.near rfl (o_sliceF 1 rfl (by omega)) rfl ?_)
      exact ⟨_, rfl, fin_int (by omega)⟩
    · rw [c3]
      repeat' (first
          | refine W.seq ?_ | refine W.region ?_ | refine WS.nil ?_ | refine W.skip ?_ | refine W.block ?_ | refine W.ret ?_ | refine W.exit ?_ | refine W.goto ?_ | refine W.yes rfl rfl ?_ | refine W.no rfl rfl ?_ | refine W.fork rfl (fun _ => ?_) (fun _ => ?_) | refine WS.guardT rfl ?_ | refine WS.guardF rfl rfl rfl ?_ | refine WS.guardK rfl (fun _ => ?_) (fun _ => ?_) | refine WS.near rfl o_mov rfl ?_ | refine WS.near rfl o_pickT rfl ?_ | refine WS.near rfl o_pickF rfl ?_ | refine WS.near rfl o_gtr rfl ?_ | refine WS.near rfl o_geq rfl ?_ | refine WS.near rfl o_eql rfl ?_ | refine WS.near rfl o_seql0 rfl ?_ | refine WS.near rfl o_not rfl ?_ | refine WS.near rfl o_lenS rfl ?_ | refine WS.near rfl o_nilchk rfl ?_ | refine WS.near rfl (o_extract rfl) rfl ?_ | refine WS.near rfl (o_storeH (by assumption) rfl rfl) rfl ?_ | refine WS.near rfl (o_allocH 0 rfl) rfl ?_
          | refine WS.near rfl (o_add (by omega) (by omega)) rfl ?_ | refine WS.near rfl (o_sub (by omega) (by omega)) rfl ?_ | refine WS.near rfl (o_index 0 rfl (by omega)) rfl ?_ | refine WS.near rfl (o_iaddrA rfl (by omega)) rfl ?_ | refine WS.near rfl (o_sliceF _ rfl (by omega)) rfl ?_ | refine WS.near rfl (o_sliceF 1 rfl (by omega)) rfl ?_)
      · have e1 : ((s.length : Int) - (trimL (s.drop n)).length + j) = ((n + ((s.drop n).length - (trimL (s.drop n)).length) + j : Nat) : Int) := by omega
        have e2 : s.drop (n + ((s.drop n).length - (trimL (s.drop n)).length) + j) = (trimL (s.drop n)).drop j := by
          rw [← List.drop_drop, ← List.drop_drop, t3]
        refine ih (n + ((s.drop n).length - (trimL (s.drop n)).length) + j) _ ⟨by omega, ?_⟩ ?_ ?_
        · rw [e2]; omega
        · show s.length - (n + ((s.drop n).length - (trimL (s.drop n)).length) + j) < s.length - n; omega
        · exact ⟨rfl, congrArg (fun z => some (V.int .i64 z)) e1, trivial⟩
end Go.Proofs.YthclejjieggdkaaDoor.CodesL
