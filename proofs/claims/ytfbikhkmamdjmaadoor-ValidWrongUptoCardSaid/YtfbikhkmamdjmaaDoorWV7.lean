/- Whether a node may be run: by the program. -/
import Derived.Test.YtfbikhkmamdjmaaDoorWV2
import Derived.Test.YtfbikhkmamdjmaaDoorWV5
namespace Go.Proofs.YtfbikhkmamdjmaaDoor.CodesK
open Go Go.Ab
set_option maxHeartbeats 3200000
set_option maxRecDepth 100000

def countsOk (k a b n : Int) : Prop := if k = 4 then a = max 1 (min a n) ∧ b = max 1 (min b n) else if k = 6 then a = max 1 (min a 1000) ∧ b = 0 else a = 0 ∧ b = 0
instance (k a b n : Int) : Decidable (countsOk k a b n) := by unfold countsOk; infer_instance
theorem counts_pu (n : ND) (hn : n.Ok) : PuF D1 127 [n.v] (.bool (decide (countsOk n.k n.a n.b n.kids.length))) := by
  have hkm : (n.kids.map ND.v).length = n.kids.length := List.length_map ..
  refine PuF.tidy rfl rfl rfl rfl rfl fun h hf => ?_
  repeat' (first
      | refine WS.near rfl (o_lenZ hn.ku) rfl ?_ | refine WS.puF hf rfl rfl (within_pu _ _ _) ?_ | refine WS.puG hf rfl rfl (within_pu _ _ _) ⟨.inr ⟨rfl, _, _, _, rfl, o_lenZ hn.ku, rfl⟩, .inr ⟨rfl, _, _, _, rfl, o_loadH rfl, rfl⟩, .inr ⟨rfl, _, _, _, rfl, o_loadH rfl, rfl⟩, trivial⟩ ?_ | refine W.seq ?_ | refine W.region ?_ | refine WS.nil ?_ | refine W.skip ?_ | refine W.block ?_ | refine W.ret ?_ | refine W.fork rfl (fun _ => ?_) (fun _ => ?_) | refine WS.guardT rfl ?_ | refine WS.guardF rfl rfl rfl ?_ | refine WS.guardK rfl (fun _ => ?_) (fun _ => ?_) | refine WS.near rfl o_mov rfl ?_ | refine WS.near rfl o_pickT rfl ?_ | refine WS.near rfl o_pickF rfl ?_ | refine WS.near rfl o_eql rfl ?_ | refine WS.near rfl o_faddr rfl ?_ | refine WS.near rfl (o_loadH rfl) rfl ?_ | refine WS.near rfl (o_boxH 0 rfl) rfl ?_ | fail)
  all_goals
    refine ⟨_, rfl, fin_bool ?_⟩
    first
      | exact btrue (by unfold countsOk; first | (rw [if_pos (by omega)]; omega) | (rw [if_neg (by omega), if_pos (by omega)]; omega) | (rw [if_neg (by omega), if_neg (by omega)]; omega))
      | exact bfalse (by unfold countsOk; first | (rw [if_pos (by omega)]; omega) | (rw [if_neg (by omega), if_pos (by omega)]; omega) | (rw [if_neg (by omega), if_neg (by omega)]; omega))
      | exact bsame (by unfold countsOk; first | (rw [if_pos (by omega)]; omega) | (rw [if_neg (by omega), if_pos (by omega)]; omega) | (rw [if_neg (by omega), if_neg (by omega)]; omega))
      | fail
open Classical in
noncomputable def namB (n : ND) : Bool := if n.k = 8 ∨ n.k = 9 ∨ n.k = 12 then decide (isName n.s) else decide (n.s.length = 0)
open Classical in
noncomputable def tolB (n : ND) : Bool := if n.k = 7 ∨ n.k = 8 then rightF 40 n.x else decide (noneOk n.x)
def manyI (n : ND) : Int := if n.k = 11 then (n.kids.length : Int) else 0
noncomputable def textsF (n : ND) : Bool := n.ws.all (rightF 40) && (namB n && tolB n && decide ((n.ws.length : Int) = manyI n))
theorem okD_iff (n : ND) : n.okD ↔ 0 ≤ n.k ∧ n.k ≤ 15 ∧ n.k ≠ 10 ∧ kidsOk n.k n.kids.length ∧ countsOk n.k n.a n.b n.kids.length ∧ textsF n = true := by
  have hl : n.s.length = 0 ↔ n.s = [] := List.length_eq_zero_iff
  constructor
  · rintro ⟨a1, a2, a3, a4, a5, a6, a7, a8, a9, a10, a11, a12, a13, a14, a15⟩
    refine ⟨a1, a2, a3, ?_, ?_, ?_⟩
    · unfold kidsOk
      split
      · have := a4 (by omega); omega
      · split
        · have := a5 (by omega); omega
        · have := a6 (by omega); omega
    · unfold countsOk
      split
      · have := a7 (by omega); omega
      · split
        · have := a8 (by omega); omega
        · have := a9 (by omega) (by omega); omega
    · unfold textsF namB tolB manyI
      rw [a15, a14]
      simp only [Bool.true_and, Bool.and_eq_true, decide_eq_true_eq]
      refine ⟨⟨?_, ?_⟩, ?_⟩
      · split
        · rename_i h; simpa using a10 h
        · rename_i h; simpa [hl] using a11 h
      · split
        · rename_i h; exact a12 h
        · rename_i h; exact @decide_eq_true _ (Classical.propDecidable _) (a13 h)
      · split <;> rfl
  · rintro ⟨a1, a2, a3, a4, a5, a6⟩
    unfold textsF namB tolB manyI at a6
    simp only [Bool.and_eq_true, decide_eq_true_eq] at a6
    obtain ⟨b1, ⟨b2, b3⟩, b4⟩ := a6
    unfold kidsOk at a4
    unfold countsOk at a5
    refine ⟨a1, a2, a3, fun h => ?_, fun h => ?_, fun h => ?_, fun h => ?_, fun h => ?_, fun h h' => ?_, fun h => ?_, fun h => ?_, fun h => ?_, fun h => ?_, ?_, b1⟩
    · rw [if_pos (by omega)] at a4; omega
    · rw [if_neg (by omega), if_pos (by omega)] at a4; omega
    · rw [if_neg (by omega), if_neg (by omega)] at a4; omega
    · rw [if_pos h] at a5
      rw [if_pos (by omega)] at a4
      omega
    · rw [if_neg (by omega), if_pos (by omega)] at a5; omega
    · rw [if_neg h, if_neg h'] at a5; exact a5
    · rw [if_pos h] at b2; simpa using b2
    · rw [if_neg h] at b2; simpa [hl] using b2
    · rw [if_pos h] at b3; exact b3
    · rw [if_neg h] at b3; exact @of_decide_eq_true _ (Classical.propDecidable _) b3
    · split at b4
      · rename_i h; rw [if_pos h]; omega
      · rename_i h; rw [if_neg h]; omega
open Classical in
theorem texts_pu (n : ND) (hn : n.Ok) : PuF D1 128 [n.v] (.bool (textsF n)) := by
  have hkm : (n.kids.map ND.v).length = n.kids.length := List.length_map ..
  have hwm : (n.ws.map EX.v).length = n.ws.length := List.length_map ..
  have hnm : namB n = if n.k = 8 ∨ n.k = 9 ∨ n.k = 12 then decide (isName n.s) else decide (n.s.length = 0) := rfl
  have htl : tolB n = if n.k = 7 ∨ n.k = 8 then rightF 40 n.x else decide (noneOk n.x) := rfl
  have hr := right_pu n.x hn.ex
  have hwl := hn.wl
  refine PuF.tidy rfl rfl rfl rfl rfl fun h hf => ?_
  refine W.seq ?_
  repeat' (first
      | refine W.region ?_ | refine WS.nil ?_ | refine WS.near rfl o_mov rfl ?_ | refine WS.near rfl (o_boxH 0 rfl) rfl ?_ | fail)
  refine W.seq ?_
  repeat' (first
      | refine WS.puG hf rfl rfl (none_pu n.x hn.ex) ⟨.inr ⟨rfl, _, _, _, rfl, o_loadH rfl, rfl⟩, trivial⟩ ?_ | refine W.region ?_ | refine WS.nil ?_ | refine WS.near rfl o_mov rfl ?_ | refine WS.near rfl o_seql0 rfl ?_ | refine WS.near rfl o_faddr rfl ?_ | refine WS.near rfl (o_loadH rfl) rfl ?_ | refine WS.near rfl (o_loadHN rfl rfl) rfl ?_ | fail)
  refine W.meetQ (α := Unit) (fun _ => [(1, .mptr (h.next + 0) 0), (3, .bool (namB n)), (4, .bool (tolB n)), (5, i64 (manyI n))]) (fun _ => hp h [some n.cells]) (fun _ => True) ?_ ?_
  · refine W.seq ?_
    repeat' (first
        | refine W.region ?_ | refine WS.nil ?_ | refine W.block ?_ | refine WS.near rfl o_faddr rfl ?_ | refine WS.near rfl (o_loadH rfl) rfl ?_ | fail)
    repeat' (first
        | refine WS.near rfl (o_lenZ hn.ku) rfl ?_ | refine WS.puF hf rfl rfl hr ?_ | refine WS.puF hf rfl rfl (lexName_pu _) ?_ | refine WS.puG hf rfl rfl (lexName_pu _) ⟨.inr ⟨rfl, _, _, _, rfl, o_loadHN rfl rfl, rfl⟩, trivial⟩ ?_ | refine W.seq ?_ | refine W.region ?_ | refine WS.nil ?_ | refine W.skip ?_ | refine W.yes rfl rfl ?_ | refine W.fork rfl (fun _ => ?_) (fun _ => ?_) | refine WS.near rfl o_mov rfl ?_ | refine WS.near rfl o_eql rfl ?_ | refine WS.near rfl o_faddr rfl ?_ | refine WS.near rfl (o_loadH rfl) rfl ?_ | refine WS.near rfl (o_loadHN rfl rfl) rfl ?_ | fail)
    all_goals
      refine ⟨rfl, (), trivial, ⟨rfl, ?_, ?_, ?_, trivial⟩, rfl⟩
      · show some (V.bool _) = some (V.bool (namB n))
        rw [hnm]
        first | rw [if_pos (by omega)] | rw [if_neg (by omega)]
      · show some (V.bool _) = some (V.bool (tolB n))
        rw [htl]
        first | rw [if_pos (by omega)] | rw [if_neg (by omega)]
      · show some (i64 _) = some (i64 (manyI n))
        unfold manyI
        first | (rw [if_pos (by omega), hkm]) | rw [if_neg (by omega)]
  · rintro _ _
    have hT : textsF n = (n.ws.all (rightF 40) && (namB n && tolB n && decide ((n.ws.length : Int) = manyI n))) := rfl
    refine W.seq ?_
    refine W.seq ?_
    repeat' (first
        | refine WS.near rfl (o_lenZ hn.wu) rfl ?_ | refine W.region ?_ | refine WS.nil ?_ | refine W.block ?_ | refine WS.near rfl o_mov rfl ?_ | refine WS.near rfl o_faddr rfl ?_ | refine WS.near rfl (o_loadH rfl) rfl ?_ | fail)
    refine W.loop (fun a : DS => [(1, .mptr (h.next + 0) 0), (3, .bool (namB n)), (4, .bool (tolB n)), (5, i64 (manyI n)), (32, n.w), (33, i64 n.ws.length), (34, i64 a.i)]) (fun a => hp h (some n.cells :: a.bs))
      (fun a => a.i ≤ n.ws.length ∧ n.ws.all (rightF 40) = (n.ws.drop a.i).all (rightF 40)) (fun a => n.ws.length - a.i)
      ⟨0, []⟩ ⟨Nat.zero_le _, by rw [List.drop_zero]⟩ (by exact ⟨rfl, rfl, rfl, rfl, rfl, congrArg (fun z : Nat => some (i64 (z : Int))) hwm, rfl, trivial⟩) rfl ?_
    rintro ⟨i, bs⟩ ⟨hi, hs⟩
    simp only at hi hs ⊢
    refine W.seq ?_
    repeat' (first
        | refine W.region ?_ | refine WS.nil ?_ | refine WS.near rfl o_lss rfl ?_ | fail)
    refine W.seq ?_
    repeat' (first
        | refine W.skip ?_ | refine W.exit ?_ | refine W.fork rfl (fun _ => ?_) (fun _ => ?_) | fail)
    · have hlt : i < n.ws.length := by omega
      rw [all_drop hlt] at hs
      have hy := right_pu _ (hn.wk _ (getD_mem (d := default) hlt))
      refine W.seq ?_
      refine W.block ?_
      refine W.seq ?_
      repeat' (first
          | refine W.region ?_ | fail)
      refine WS.near rfl (o_iaddrZ i hn.wu rfl (fz_at (d := default) i hlt) rfl) rfl ?_
      generalize n.ws.getD i default = y at hs hy ⊢
      have e1 : (i : Int) + 1 = ((i + 1 : Nat) : Int) := by omega
      cases hb : rightF 40 y with
      | true =>
        rw [hb] at hs hy
        rw [Bool.true_and] at hs
        repeat' (first
            | refine WS.near rfl (o_loadA rfl) rfl ?_ | refine WS.near rfl o_allocS rfl ?_ | refine WS.near rfl (o_storeH hf bget_badd rfl) rfl ?_ | refine WS.near rfl (o_loadHN (bget_bput bget_badd) rfl) rfl ?_ | refine WS.puF hf rfl rfl hy ?_ | refine W.seq ?_ | refine W.region ?_ | refine WS.nil ?_ | refine W.skip ?_ | refine W.no rfl rfl ?_ | refine WS.near rfl o_notT rfl ?_ | refine WS.near rfl (o_add (by omega) (by omega)) rfl ?_ | fail)
        exact ⟨⟨i + 1, _⟩, ⟨by show i + 1 ≤ n.ws.length; omega, hs⟩, by show n.ws.length - (i + 1) < n.ws.length - i; omega, ⟨rfl, rfl, rfl, rfl, rfl, rfl, congrArg (fun z => some (V.int .i64 z)) e1, trivial⟩, rfl⟩
      | false =>
        rw [hb] at hs hy
        repeat' (first
            | refine WS.near rfl (o_loadA rfl) rfl ?_ | refine WS.near rfl o_allocS rfl ?_ | refine WS.near rfl (o_storeH hf bget_badd rfl) rfl ?_ | refine WS.near rfl (o_loadHN (bget_bput bget_badd) rfl) rfl ?_ | refine WS.puF hf rfl rfl hy ?_ | refine W.seq ?_ | refine W.region ?_ | refine WS.nil ?_ | refine W.ret ?_ | refine W.yes rfl rfl ?_ | refine WS.near rfl o_mov rfl ?_ | refine WS.near rfl o_notF rfl ?_ | fail)
        exact ⟨_, rfl, fin_bool (by rw [hT, hs]; rfl)⟩
    · have hge : n.ws.drop i = [] := List.drop_eq_nil_of_le (by omega)
      rw [hge] at hs
      have hs : n.ws.all (rightF 40) = true := hs
      rw [hs, Bool.true_and] at hT
      cases hA : namB n <;> cases hB : tolB n <;> rw [hA, hB] at hT
      all_goals
        repeat' (first
            | refine WS.near rfl (o_loadH (hload_of rfl rfl)) rfl ?_ | refine WS.near rfl (o_lenZ hn.wu) rfl ?_ | refine WS.near rfl o_eql rfl ?_ | refine W.seq ?_ | refine W.region ?_ | refine WS.nil ?_ | refine W.ret ?_ | refine WS.guardT rfl ?_ | refine WS.guardF rfl rfl rfl ?_ | refine WS.near rfl o_mov rfl ?_ | refine WS.near rfl o_pickT rfl ?_ | refine WS.near rfl o_pickF rfl ?_ | refine WS.near rfl o_eql rfl ?_ | refine WS.near rfl o_faddr rfl ?_ | fail)
        refine ⟨_, rfl, fin_bool ?_⟩
        rw [hT]
        first | rfl | (rw [hwm]; rfl) | simp [hwm]
end Go.Proofs.YtfbikhkmamdjmaaDoor.CodesK
