/- The statement. -/
import Derived.Test.YtfbikhkmamdjmaaDoorValidWrongC
import Derived.Test.YtfbikhkmamdjmaaDoorValidWrongM
namespace Go.Proofs.YtfbikhkmamdjmaaDoor.ValidWrong
open Go Go.Ab CodesK Go.ChangeShapes Go.WideShapes Go.ChangeAt Go.RowKit
theorem gSpace : Tryd.prog.globalNamed "strings.asciiSpace" = some 1 := by kernel_rfl
theorem tSpace : (Tryd.prog.globals[1]?).map (·.type) = some 296 := by kernel_rfl
theorem cells296 : Tryd.prog.cellsOf 296 = 256 := by kernel_rfl
theorem cells5 : Tryd.prog.cellsOf 5 = 1 := by kernel_rfl
def spaceZ : List Int := (List.range 256).map fun i => if (9 ≤ i && i ≤ 13) || i == 32 then 1 else 0
theorem space_eq : space = tabV .u8 spaceZ := by kernel_rfl
theorem space_laid : (Rows.laid_strings_asciiSpace : DataW Unit) = Lib.tabData .u8 spaceZ := by kernel_rfl
theorem space_len : spaceZ.length = 256 := by kernel_rfl
theorem space_ne : spaceZ ≠ [] := fun h => by have := space_len; rw [h] at this; cases this
theorem globals {W : World} (h : laidMetH Tryd.prog Rows.validWrongUptoRow.laid W) : GRel G W (fun b => b < W.heap.size) fun _ => none := by
  rw [MakeChecks.laidMetH_plain _ _ _ (by kernel_rfl)] at h
  obtain ⟨ps, hl, _⟩ := h
  have ht := tab_of_laid (k := .u8) (zs := spaceZ) gSpace tSpace Tryd.underlying296 Tryd.underlying5 cells5 cells296 _ ps hl (by
    rw [← space_laid]
    exact List.mem_cons_of_mem _ (List.mem_cons_self))
  intro g v e
  unfold G at e
  split at e
  · rename_i hg
    subst hg
    cases e
    rw [space_eq]
    exact tab_rep ht gSpace space_ne
  · cases e
    exact .undef _
theorem sumB_upto {H : Type} : ∀ l : List (DataW H), sumB Rows.uptoBulk l = Rows.uptoBulkAll l
  | [] => by simp [sumB, Rows.uptoBulkAll]
  | x :: r => by simp only [sumB, Rows.uptoBulkAll, sumB_upto r]
theorem bulkOk {H : Type} : BulkOk (H := H) Rows.uptoBulk where
  one d := by
    cases d with
    | lit l => cases l <;> simp [Rows.uptoBulk]
    | _ => simp [Rows.uptoBulk]
  str s := by simp [Rows.uptoBulk]
  sl es sp := by rw [sumB_upto]; simp only [Rows.uptoBulk]; omega
  agg es := by rw [sumB_upto]; simp only [Rows.uptoBulk]; omega
theorem walk (W : World) (n : Value) (dn : ND) (hdn : dn.Ok) (hcn : dn.cnt ≤ 1048576) (hrn : Rep W (fun x => x < W.heap.size) (fun _ => none) dn.v n) (a0 : Int) (wh : Int) (by0 : Int) (_ : (Lit.int .i64 a0).wf = true) (_ : (Lit.int .i64 wh).wf = true) (_ : (Lit.int .i64 by0).wf = true) (h : laidMetH Tryd.prog Rows.validWrongUptoRow.laid W) :
    Calls Tryd.prog 5 #[n, .int .i64 a0, .int .i64 wh, .int .i64 by0] W fun e w' => e = .returned (.bool true) ∧ (w'.os = W.os ∧ w'.output = W.output ∧ W.heap.size ≤ w'.heap.size ∧ ∀ b, b < W.heap.size → w'.heap[b]? = W.heap[b]?) := by
  obtain ⟨v, h', ⟨nf, he⟩, rfl⟩ := law_w3 dn hdn (by omega) a0 wh by0
  refine (calls_fast ctxOk1 fine1 he W #[n, .int .i64 a0, .int .i64 wh, .int .i64 by0] (globals h) ⟨rfl, fun i v x ev ex => ?_⟩).mono fun e w' hh => ?_
  · match i with
    | 0 =>
      simp at ev ex
      subst ev; subst ex; exact hrn
    | 1 =>
      simp at ev ex; subst ev; subst ex; exact .int _ _
    | 2 =>
      simp at ev ex; subst ev; subst ex; exact .int _ _
    | 3 =>
      simp at ev ex; subst ev; subst ex; exact .int _ _
    | i + 4 => simp at ev
  · obtain ⟨v, rfl, hk, R, ι, hr⟩ := hh
    cases hr
    exact ⟨rfl, hk⟩
set_option maxRecDepth 100000 in
theorem contract (H : Type) (enc : TypeId × Value → H) (W : World) (args : Array Value) (ds gs : List (DataW H)) (before : List MemPlace)
    (hval : ∀ (j : Nat) t v, Tryd.f5.params[j]? = some t → args[j]? = some v → Value.okWide Tryd.prog W .any 0 t v)
    (hW : DataW.Whole enc Tryd.prog Tryd.f5.params.toList Rows.validWrongSpec.vars false W args.toList ds gs before) (hwt : (DataW.weightsEach Tryd.prog (Tryd.f5.params.toList ++ (Rows.OpenSpec.upto Rows.validWrongSpec).bare.plain.varTypes Tryd.prog) (ds ++ gs)).all (· ≤ reachBytes) = true) (hcond : Rows.uptoSmall H (ds ++ gs) = true) (hL : laidMetH Tryd.prog Rows.validWrongUptoRow.laid W) :
    Calls Tryd.prog 5 args W fun e W' => ∃ v, e = .returned v ∧ Rows.validWrongSpec.post enc Tryd.prog Tryd.f5 false true false false W args v W' := by
  have hW' := hW
  obtain ⟨p, q, hA0, hV, rfl, hfz, hnd⟩ := hW
  have hA : DataW.TrodAll enc Tryd.prog W 0 (fun _ => true) true Tryd.f5.params.toList args.toList ds p := hA0
  rw [Tryd.params5] at hA hval
  obtain ⟨v0, vs0, d0, ds0, p0, q0, g0, rfl, rfl, h0, r0⟩ := trodAll_cons hA
  obtain ⟨v1, vs1, d1, ds1, p1, q1, g1, rfl, rfl, h1, r1⟩ := trodAll_cons r0
  obtain ⟨v2, vs2, d2, ds2, p2, q2, g2, rfl, rfl, h2, r2⟩ := trodAll_cons r1
  obtain ⟨v3, vs3, d3, ds3, p3, q3, g3, rfl, rfl, h3, r3⟩ := trodAll_cons r2
  obtain ⟨rfl, rfl, rfl⟩ := trodAll_nil r3
  obtain rfl : args = #[v0, v1, v2, v3] := by cases args; simp_all
  obtain ⟨rfl, rfl⟩ := trodVars_none hV
  rw [Tryd.params5] at hwt
  have hw1 : ∀ w ∈ d0.weights Tryd.prog 41, w ≤ reachBytes := fun w hm => by
    simp only [List.cons_append, DataW.weightsEach, List.all_append, Bool.and_eq_true] at hwt
    have := List.all_eq_true.1 hwt.1 w hm
    simpa using this
  obtain ⟨nfn, usn, _, hrn, hz1, hf1⟩ := open_structB (S := [41, 39, 3, 9, 24, 22]) (fun t ht => List.all_eq_true.1 (show (([41, 39, 3, 9, 24, 22] : List TypeId).all (goodIn Tryd.prog [41, 39, 3, 9, 24, 22])) = true by kernel_rfl) t ht) List.mem_cons_self Tryd.underlying41 (hval 0 41 v0 rfl rfl) h0
  obtain ⟨dn, rfl, hq1, hdn⟩ := nd_of _ _ (hf1 hw1)
  have hbn := hz1 Rows.uptoBulk bulkOk
  simp only [Rows.uptoSmall, List.cons_append, List.nil_append, Rows.uptoBulkAll, decide_eq_true_eq] at hcond
  have hcn : dn.cnt ≤ 1048576 := by omega
  have hdn := hdn (by omega)
  obtain ⟨a0, rfl, rfl, rfl, hwf1⟩ := open_int Tryd.underlying3 (hval 1 3 v1 rfl rfl) h1
  obtain ⟨wh, rfl, rfl, rfl, hwf2⟩ := open_int Tryd.underlying3 (hval 2 3 v2 rfl rfl) h2
  obtain ⟨by0, rfl, rfl, rfl, hwf3⟩ := open_int Tryd.underlying3 (hval 3 3 v3 rfl rfl) h3
  simp only [List.append_nil] at hW'
  refine (walk W v0 dn hdn hcn hrn a0 wh by0 hwf1 hwf2 hwf3 hL).mono fun e W' ⟨he, hk⟩ => ?_
  subst he
  exact ⟨_, rfl, post_plain (pa := _) (pv := []) hW' (trodAll_cons_mk (shut_bool Tryd.underlying4 _) trodAll_mk0) (trodAll_again kids wide hk.2.2.2 known hA0) rfl (kept_of hk _)⟩
set_option maxRecDepth 100000
theorem lifted (os : Os) (started : os.Started) (H : Type) (enc : TypeId × Value → H) (F : Stop.Interp) :
    ReturnsInHanded {} Tryd.checked os 5 .any ((Rows.OpenSpec.upto Rows.validWrongSpec).preRow enc Tryd.prog Tryd.f5 Rows.validWrongUptoRow.domain false Rows.validWrongUptoRow.laid) (((Rows.OpenSpec.upto Rows.validWrongSpec).at F).post enc Tryd.prog Tryd.f5 false true false false) := by
  obtain ⟨places, hx⟩ := reads os enc
  refine returnsInHanded_of_row (C := Tryd.checked) (s := Rows.OpenSpec.upto Rows.validWrongSpec) own started (by kernel_rfl) Tryd.func5
    (witness_row_atRef (enc := enc) (C := Tryd.checked) false (laidWorld os) #[.agg #[.int .i64 0, .int .i64 0, .int .i64 0, .string ByteArray.empty, .int .i64 0, .int .i64 0, .string ByteArray.empty, .slice none 0 0, .slice none 0 0, .slice none 0 0], .int .i64 0, .int .i64 0, .int .i64 0] rfl (by kernel_rfl) (by kernel_rfl) (by kernel_rfl)
      (OpenSpec.preRow_of_cond 8 hx (by kernel_rfl) (fun k hk => by cases hk; kernel_rfl) (by kernel_rfl) (laid_met os))) ?_
  intro W base args ds gs before hval hW _ hcond hwt hL _ _
  exact contract H enc W args ds gs before hval hW hwt (hcond _ rfl) hL
theorem said : Rows.ValidWrongUptoSaid :=
  OpenClaim.holds_of_cond 5 Tryd.f5 rfl rfl rfl rfl rfl rfl rfl ⟨rfl, rfl, rfl, rfl, rfl⟩ rfl rfl rfl rfl rfl (by kernel_rfl) Tryd.func5 closed
    (of_decide_eq_true (by kernel_rfl)) (by unfold Func.isWrapper; first | (rw [if_pos (by decide +kernel)]; kernel_rfl) | (rw [if_neg (by decide +kernel)]; exact ⟨rfl, rfl⟩))
    (fun os started H enc _ F => by rw [OpenClaim.pre_eq_preRow]; exact lifted os started H enc F)
end Go.Proofs.YtfbikhkmamdjmaaDoor.ValidWrong
