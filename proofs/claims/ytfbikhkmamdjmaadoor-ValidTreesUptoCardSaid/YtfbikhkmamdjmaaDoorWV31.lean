/- ValidTrees, ValidWrong: what is made flat, counted, looked at. -/
import Derived.Test.YtfbikhkmamdjmaaDoorWV30
namespace Go.Proofs.YtfbikhkmamdjmaaDoor.CodesK
open Go Go.Ab
set_option maxHeartbeats 3200000
set_option maxRecDepth 100000

theorem make_w (n : ND) (hn : n.Ok) (hc : n.cnt < 2 ^ 30) (h : Heap) (hf : h.Fine) (bs : List (Option (List V))) : CallW D2 18 [n.v] (hp h bs) fun u h' => ∃ bs', h' = hp h bs' ∧ IsSl h bs' 11 u n.cnt ((n.fl 0 (-1)).flatMap FL.cells) ∧ Grow h bs bs' .nilsl u := by
  refine CallW.open rfl rfl rfl rfl rfl ?_
  have hw := flat_w _ n (Nat.le_refl _) hn h hf (badd bs n.cells) .nilsl 0 [] (-1) IsSl.nil (by omega)
  rw [Nat.zero_add, List.nil_append] at hw
  repeat' (first
      | refine WS.near rfl o_boxS rfl ?_ | refine WS.near rfl (o_loadHN bget_badd rfl) rfl ?_ | refine W.seq ?_ | refine W.region ?_ | refine WS.nil ?_ | refine WS.near rfl o_mov rfl ?_ | fail)
  refine WS.call rfl rfl hw fun u h' hc => ?_
  obtain ⟨bs', rfl, hs, hg⟩ := hc
  repeat' (first
      | refine WS.nil ?_ | refine W.ret ?_ | fail)
  exact ⟨_, rfl, _, rfl, hs, ⟨fun i l e hv => hg.keep i l (bget_badd_lt e) hv, fun i a b d e hh => (hg.own i a b d e hh).imp id fun hq => by rw [badd_len] at hq; omega, by have := hg.le; rw [badd_len] at this; omega⟩⟩
theorem count_pu : ∀ (f : Nat) (n : ND), n.cnt ≤ f → n.Ok → n.cnt < 2 ^ 30 → PuF D1 20 [n.v] (i64 n.cnt)
  | 0, n, hc, _, _ => by have := n.cnt_pos; omega
  | f + 1, n, hc, hn, hb => by
    have hkm : (n.kids.map ND.v).length = n.kids.length := List.length_map ..
    have hlk : ∀ h0 : Heap, Does (.len 1 (.v n.u)) h0 (.int .i64 (n.kids.length : Nat)) h0 := fun h0 => by have := o_lenZ (h0 := h0) hn.ku; rwa [hkm] at this
    have hce := n.cnt_eq
    have hkl := hn.len
    refine PuF.tidy rfl rfl rfl rfl rfl fun h hf => ?_
    repeat' (first
        | refine W.seq ?_ | refine W.region ?_ | refine WS.nil ?_ | refine W.block ?_ | refine WS.near rfl o_mov rfl ?_ | refine WS.near rfl (o_boxH 0 rfl) rfl ?_ | fail)
    refine W.loop (fun i : Nat => [(1, .mptr (h.next + 0) 0), (3, i64 ((ND.cnts (n.kids.take i) + 1 : Nat) : Int)), (4, i64 i)]) (fun _ => hp h [some n.cells])
      (fun i => i ≤ n.kids.length) (fun i => n.kids.length - i) 0 (Nat.zero_le _) (by exact ⟨rfl, rfl, rfl, trivial⟩) rfl ?_
    rintro i hi
    refine W.seq ?_
    refine W.seq ?_
    repeat' (first
        | refine WS.near rfl (hlk _) rfl ?_ | refine W.region ?_ | refine WS.nil ?_ | refine W.skip ?_ | refine W.exit ?_ | refine W.fork rfl (fun _ => ?_) (fun _ => ?_) | refine WS.near rfl o_lss rfl ?_ | refine WS.near rfl o_faddr rfl ?_ | refine WS.near rfl (o_loadH rfl) rfl ?_ | fail)
    refine W.seq ?_
    repeat' (first
        | refine W.region ?_ | refine W.block ?_ | refine WS.near rfl o_faddr rfl ?_ | refine WS.near rfl (o_loadH rfl) rfl ?_ | fail)
    · have hlt : i < n.kids.length := by omega
      have hmem : n.kids.getD i default ∈ n.kids := getD_mem hlt
      have hct := cnts_take n.kids (i + 1)
      have htk := take_snocN hlt
      rw [htk, cnts_snoc] at hct
      have hck := ND.cnt_kid hmem
      have ih := count_pu f (n.kids.getD i default) (by omega) (hn.kid hlt) (by omega)
      repeat' (first
          | refine WS.near rfl (o_iaddrZ i hn.ku rfl (fz_at (d := default) i hlt) rfl) rfl ?_ | refine WS.near rfl (o_loadA rfl) rfl ?_ | refine WS.puF hf rfl rfl ih ?_ | refine W.region ?_ | refine WS.nil ?_ | refine WS.near rfl (o_add (by omega) (by omega)) rfl ?_ | fail)
      have e1 : (i : Int) + 1 = ((i + 1 : Nat) : Int) := by omega
      have e2 : ((ND.cnts (n.kids.take i) + 1 : Nat) : Int) + ((n.kids.getD i default).cnt : Nat) = ((ND.cnts (n.kids.take (i + 1)) + 1 : Nat) : Int) := by rw [htk, cnts_snoc]; omega
      exact ⟨i + 1, by omega, by show n.kids.length - (i + 1) < n.kids.length - i; omega, ⟨rfl, congrArg (fun z => some (V.int .i64 z)) e2, congrArg (fun z => some (V.int .i64 z)) e1, trivial⟩, rfl⟩
    · have hil : i = n.kids.length := by omega
      subst hil
      repeat' (first
          | refine W.seq ?_ | refine W.region ?_ | refine WS.nil ?_ | refine W.ret ?_ | refine WS.near rfl o_mov rfl ?_ | fail)
      exact ⟨_, rfl, fin_int (by rw [List.take_length]; omega)⟩
def bigN : Nat → ND → Bool
  | 0, _ => true
  | f + 1, n => decide (20 < n.kids.length) || n.kids.any (bigN f)
theorem anyn_drop {p : ND → Bool} {l : List ND} {i : Nat} (hi : i < l.length) : (l.drop i).any p = (p (l.getD i default) || (l.drop (i + 1)).any p) := by
  rw [List.drop_eq_getElem_cons hi]
  simp only [List.any_cons, List.getD, List.getElem?_eq_getElem hi, Option.getD_some]
theorem bigN_pu : ∀ (f : Nat) (n : ND), f ≤ 46 → n.Ok → PuF D1 19 [n.v, i64 (46 - (f : Nat))] (.bool (bigN f n))
  | 0, n, _, hn => by
    refine PuF.tidy rfl rfl rfl rfl rfl fun h hf => ?_
    refine W.seq ?_
    repeat' (first
        | refine W.region ?_ | refine WS.nil ?_ | refine WS.near rfl o_mov rfl ?_ | refine WS.near rfl (o_boxH 0 rfl) rfl ?_ | fail)
    refine W.seq ?_
    refine W.seq ?_
    repeat' (first
        | refine W.region ?_ | refine WS.nil ?_ | refine W.yes rfl rfl ?_ | refine WS.guardF rfl rfl rfl ?_ | refine WS.near rfl o_pickT rfl ?_ | refine WS.near rfl o_gtr rfl ?_ | fail)
    all_goals first
      | (exfalso; omega)
      | skip
    all_goals
      repeat' (first
          | refine W.seq ?_ | refine W.region ?_ | refine WS.nil ?_ | refine W.ret ?_ | refine WS.near rfl o_mov rfl ?_ | fail)
    all_goals first
      | exact ⟨_, rfl, fin_bool rfl⟩
      | fail
  | f + 1, n, hf46, hn => by
    have hkm : (n.kids.map ND.v).length = n.kids.length := List.length_map ..
    have hlk : ∀ h0 : Heap, Does (.len 1 (.v n.u)) h0 (.int .i64 (n.kids.length : Nat)) h0 := fun h0 => by have := o_lenZ (h0 := h0) hn.ku; rwa [hkm] at this
    have e2 : bigN (f + 1) n = (decide (20 < n.kids.length) || n.kids.any (bigN f)) := rfl
    refine PuF.tidy rfl rfl rfl rfl rfl fun h hf => ?_
    refine W.seq ?_
    repeat' (first
        | refine W.region ?_ | refine WS.nil ?_ | refine WS.near rfl o_mov rfl ?_ | refine WS.near rfl (o_boxH 0 rfl) rfl ?_ | fail)
    refine W.seq ?_
    refine W.seq ?_
    repeat' (first
        | refine WS.near rfl (hlk _) rfl ?_ | refine W.region ?_ | refine WS.nil ?_ | refine W.skip ?_ | refine W.yes rfl rfl ?_ | refine W.fork rfl (fun _ => ?_) (fun _ => ?_) | refine WS.guardT rfl ?_ | refine WS.guardF rfl rfl rfl ?_ | refine WS.guardK rfl (fun _ => ?_) (fun _ => ?_) | refine WS.near rfl o_pickT rfl ?_ | refine WS.near rfl o_pickF rfl ?_ | refine WS.near rfl o_gtr rfl ?_ | refine WS.near rfl o_faddr rfl ?_ | refine WS.near rfl (o_loadH rfl) rfl ?_ | fail)
    all_goals first
      | (exfalso; omega)
      | skip
    · rename_i g1 g2
      repeat' (first
          | refine W.seq ?_ | refine W.region ?_ | refine WS.nil ?_ | refine W.ret ?_ | refine WS.near rfl o_mov rfl ?_ | fail)
      exact ⟨_, rfl, fin_bool (by rw [e2, decide_eq_true (show 20 < n.kids.length by omega)]; rfl)⟩
    rename_i g1 g2
    rw [decide_eq_false (show ¬ 20 < n.kids.length by omega), Bool.false_or] at e2
    repeat' (first
        | refine W.seq ?_ | refine W.region ?_ | refine WS.nil ?_ | refine W.block ?_ | refine WS.near rfl o_mov rfl ?_ | fail)
    refine W.loop (fun i : Nat => [(1, i64 (46 - ((f + 1 : Nat) : Int))), (2, .mptr (h.next + 0) 0), (4, i64 i)]) (fun _ => hp h [some n.cells])
      (fun i => i ≤ n.kids.length ∧ bigN (f + 1) n = (n.kids.drop i).any (bigN f)) (fun i => n.kids.length - i)
      0 ⟨Nat.zero_le _, by rw [List.drop_zero]; exact e2⟩ (by exact ⟨rfl, rfl, rfl, trivial⟩) rfl ?_
    rintro i ⟨hi, hs⟩
    refine W.seq ?_
    refine W.seq ?_
    repeat' (first
        | refine WS.near rfl (hlk _) rfl ?_ | refine W.region ?_ | refine WS.nil ?_ | refine W.skip ?_ | refine W.exit ?_ | refine W.fork rfl (fun _ => ?_) (fun _ => ?_) | refine WS.near rfl o_lss rfl ?_ | refine WS.near rfl o_faddr rfl ?_ | refine WS.near rfl (o_loadH rfl) rfl ?_ | fail)
    refine W.seq ?_
    repeat' (first
        | refine W.block ?_ | fail)
    · have hlt : i < n.kids.length := by omega
      rw [anyn_drop hlt] at hs
      have ih := bigN_pu f (n.kids.getD i default) (by omega) (hn.kid hlt)
      have ed : (46 - ((f + 1 : Nat) : Int)) + 1 = 46 - (f : Nat) := by omega
      rw [← ed] at ih
      repeat' (first
          | refine WS.near rfl (o_iaddrZ i hn.ku rfl (fz_at (d := default) i hlt) rfl) rfl ?_ | refine W.seq ?_ | refine W.region ?_ | refine WS.near rfl o_faddr rfl ?_ | refine WS.near rfl (o_loadH rfl) rfl ?_ | fail)
      generalize n.kids.getD i default = y at hs ih ⊢
      have e1 : (i : Int) + 1 = ((i + 1 : Nat) : Int) := by omega
      cases hb : bigN f y with
      | true =>
        rw [hb] at ih hs
        repeat' (first
            | refine WS.near rfl (o_loadA rfl) rfl ?_ | refine WS.puF hf rfl rfl ih ?_ | refine W.seq ?_ | refine W.region ?_ | refine WS.nil ?_ | refine W.ret ?_ | refine W.yes rfl rfl ?_ | refine WS.near rfl o_mov rfl ?_ | refine WS.near rfl (o_add (by omega) (by omega)) rfl ?_ | fail)
        exact ⟨_, rfl, fin_bool (by rw [hs]; rfl)⟩
      | false =>
        rw [hb] at ih hs
        rw [Bool.false_or] at hs
        repeat' (first
            | refine WS.near rfl (o_loadA rfl) rfl ?_ | refine WS.puF hf rfl rfl ih ?_ | refine W.region ?_ | refine WS.nil ?_ | refine W.skip ?_ | refine W.no rfl rfl ?_ | refine WS.near rfl (o_add (by omega) (by omega)) rfl ?_ | fail)
        exact ⟨i + 1, ⟨by omega, hs⟩, by show n.kids.length - (i + 1) < n.kids.length - i; omega, ⟨rfl, rfl, congrArg (fun z => some (V.int .i64 z)) e1, trivial⟩, rfl⟩
    · have hge : n.kids.drop i = [] := List.drop_eq_nil_of_le (by omega)
      rw [hge] at hs
      repeat' (first
          | refine W.seq ?_ | refine W.region ?_ | refine WS.nil ?_ | refine W.ret ?_ | refine WS.near rfl o_mov rfl ?_ | fail)
      exact ⟨_, rfl, fin_bool hs.symm⟩
end Go.Proofs.YtfbikhkmamdjmaaDoor.CodesK
