/-
  The row's statement of ExprDeep: whatever the arguments, the call returns true and leaves them as they were.
  Conditions: those of the given row alone.
-/
import Derived.Test.YtfbikhkmamdjmaaDoorCards
import Derived.Test.YtfbikhkmamdjmaaDoorTie
import Derived.Test.YtfbikhkmamdjmaaDoorExprDeepM
import Derived.Test.YtfbikhkmamdjmaaDoorWXZ
import Derived.ChangeMaps5
import Derived.Deep.DeepWitnessRowRef
import Derived.LaidMore
namespace Go.Proofs.YtfbikhkmamdjmaaDoor.ExprDeep
open Go Go.Ab CodesX Go.ChangeShapes Go.WideShapes Go.ChangeAt Go.RowKit

theorem own : ownKnob Tryd.prog.godebug = none := by kernel_rfl
theorem gSpace : Tryd.prog.globalNamed "strings.asciiSpace" = some 1 := by kernel_rfl
theorem tSpace : (Tryd.prog.globals[1]?).map (·.type) = some 296 := by kernel_rfl
theorem cells296 : Tryd.prog.cellsOf 296 = 256 := by kernel_rfl
theorem cells5 : Tryd.prog.cellsOf 5 = 1 := by kernel_rfl
def spaceZ : List Int := (List.range 256).map fun i => if (9 ≤ i && i ≤ 13) || i == 32 then 1 else 0

theorem space_eq : space = tabV .u8 spaceZ := by kernel_rfl
theorem space_laid : (Rows.laid_strings_asciiSpace : DataW Unit) = Lib.tabData .u8 spaceZ := by kernel_rfl
theorem space_len : spaceZ.length = 256 := by kernel_rfl
theorem space_ne : spaceZ ≠ [] := fun h => by have := space_len; rw [h] at this; cases this

theorem globals {W : World} (h : laidMetH Tryd.prog Rows.exprDeepRow.laid W) : GRel G W (fun b => b < W.heap.size) fun _ => none := by
  rw [MakeChecks.laidMetH_plain _ _ _ (by kernel_rfl)] at h
  obtain ⟨ps, hl, _⟩ := h
  have ht := tab_of_laid (k := .u8) (zs := spaceZ) gSpace tSpace Tryd.underlying296 Tryd.underlying5 cells5 cells296 _ ps hl (by
    rw [← space_laid]
    exact List.mem_cons_of_mem _ (List.mem_cons_of_mem _ (List.mem_cons_of_mem _ (List.mem_cons_of_mem _ (List.mem_cons_self)))))
  intro g v e
  unfold G at e
  split at e
  · rename_i hg
    subst hg
    cases e
    rw [space_eq]
    exact tab_rep ht gSpace space_ne
  · cases e
    exact .undef _

def txt (s : ByteArray) : List Nat := s.data.toList.map UInt8.toNat
theorem small (s : ByteArray) : ∀ b ∈ txt s, b < 256 := fun b hb => by
  obtain ⟨c, _, rfl⟩ := List.mem_map.1 hb
  exact c.toNat_lt
theorem int_lt {n : Int} (h : (Lit.int .i64 n).wf = true) : n < 9223372036854775808 := by
  simp only [Lit.wf, Bool.and_eq_true, decide_eq_true_eq] at h
  have e : IntKind.max .i64 = 9223372036854775807 := by decide
  rw [e] at h
  omega
theorem fine0 : Heap.empty.Fine := ⟨rfl, fun f m => by cases m⟩
theorem walk (W : World) (x : Int) (y : Int) (_ : (Lit.int .i64 x).wf = true) (_ : (Lit.int .i64 y).wf = true) (h : laidMetH Tryd.prog Rows.exprDeepRow.laid W) :
    Calls Tryd.prog 9 #[.int .i64 x, .int .i64 y] W fun e w' => e = .returned (.bool true) ∧ (w'.os = W.os ∧ w'.output = W.output ∧ W.heap.size ≤ w'.heap.size ∧ ∀ b, b < W.heap.size → w'.heap[b]? = W.heap[b]?) := by
  obtain ⟨v, h', ⟨nf, he⟩, rfl⟩ := law_w x y
  refine (calls_fast ctxOk1 fine1 he W #[.int .i64 x, .int .i64 y] (globals h) ⟨rfl, fun i v x ev ex => ?_⟩).mono fun e w' hh => ?_
  · match i with
    | 0 =>
      simp at ev ex
      subst ev; subst ex; exact .int _ _
    | 1 =>
      simp at ev ex
      subst ev; subst ex; exact .int _ _
    | i + 2 => simp at ev
  · obtain ⟨v, rfl, hk, R, ι, hr⟩ := hh
    cases hr
    exact ⟨rfl, hk⟩

set_option maxRecDepth 100000 in
theorem contract (H : Type) (enc : TypeId × Value → H) (W : World) (args : Array Value) (ds gs : List (DataW H)) (before : List MemPlace)
    (hval : ∀ (j : Nat) t v, Tryd.f9.params[j]? = some t → args[j]? = some v → Value.okWide Tryd.prog W .any 0 t v)
    (hW : DataW.Whole enc Tryd.prog Tryd.f9.params.toList Rows.exprDeepSpec.vars false W args.toList ds gs before) (hL : laidMetH Tryd.prog Rows.exprDeepRow.laid W) :
    Calls Tryd.prog 9 args W fun e W' => ∃ v, e = .returned v ∧ Rows.exprDeepSpec.post enc Tryd.prog Tryd.f9 false true false false W args v W' := by
  have hW' := hW
  obtain ⟨p, q, hA0, hV, rfl, hfz, hnd⟩ := hW
  have hA : DataW.TrodAll enc Tryd.prog W 0 (fun _ => true) true Tryd.f9.params.toList args.toList ds p := hA0
  rw [Tryd.params9] at hA hval
  obtain ⟨v0, vs0, d0, ds0, p0, q0, hargs0, rfl, rfl, h0, r0⟩ := trodAll_cons hA
  obtain ⟨v1, vs1, d1, ds1, p1, q1, hargs1, rfl, rfl, h1, r1⟩ := trodAll_cons r0
  obtain ⟨rfl, rfl, rfl⟩ := trodAll_nil r1
  obtain rfl : args = #[v0, v1] := by cases args; simp_all
  obtain ⟨rfl, rfl⟩ := trodVars_none hV
  obtain ⟨x, rfl, rfl, rfl, hwf0⟩ := open_int Tryd.underlying3 (hval 0 3 v0 rfl rfl) h0
  obtain ⟨y, rfl, rfl, rfl, hwf1⟩ := open_int Tryd.underlying3 (hval 1 3 v1 rfl rfl) h1
  clear hA0
  simp only [List.append_nil] at hW'
  refine (walk W x y hwf0 hwf1 hL).mono fun e W' ⟨he, hk⟩ => ?_
  subst he
  exact ⟨_, rfl, post_plain (pa := []) (pv := []) hW' (trodAll_cons_mk (shut_bool Tryd.underlying4 _) trodAll_mk0) (trodAll_cons_mk (shut_int Tryd.underlying3 hwf0) (trodAll_cons_mk (shut_int Tryd.underlying3 hwf1) trodAll_mk0)) rfl (kept_of hk _)⟩

/-- a world for the witness: the settled one -/
noncomputable def laidWorld (os : Os) : World := World.doorLaid Tryd.prog 600 os
set_option maxRecDepth 100000
theorem laid_met (os : Os) : laidMet Tryd.prog Rows.exprDeepRow.laid ((laidWorld os).forCall (fun _ _ => 0) ⟨#[], #[.int .i64 0, .int .i64 0], []⟩).memory :=
  laidMet_of_rows 8 (by kernel_rfl)
theorem reads (os : Os) {H : Type} (enc : TypeId × Value → H) : ∃ places, DataW.whole enc Tryd.prog ((laidWorld os).forCall (fun _ _ => 0) ⟨#[], #[.int .i64 0, .int .i64 0], []⟩).memory Tryd.f9.params.toList Rows.exprDeepSpec.vars false (#[.int .i64 0, .int .i64 0] : Array Value).toList 8 = some ([.lit (.int .i64 0), .lit (.int .i64 0)], [], places) :=
  ⟨[], by kernel_rfl⟩
theorem plain_laid : (Rows.exprDeepRow.laid.all fun x => x.2.handleName?.isNone) = true := by kernel_rfl

theorem lifted (os : Os) (started : os.Started) (H : Type) (enc : TypeId × Value → H) (F : Stop.Interp) :
    ReturnsInHanded {} Tryd.checked os 9 .any ((OpenSpec.ofChange Rows.exprDeepSpec).preRow enc Tryd.prog Tryd.f9 Rows.exprDeepRow.domain false Rows.exprDeepRow.laid) (((OpenSpec.ofChange Rows.exprDeepSpec).at F).post enc Tryd.prog Tryd.f9 false true false false) := by
  obtain ⟨places, hx⟩ := reads os enc
  refine returnsInHanded_of_row (C := Tryd.checked) (s := OpenSpec.ofChange Rows.exprDeepSpec) own started (by kernel_rfl) Tryd.func9
    (witness_row_atRef (enc := enc) (C := Tryd.checked) false (laidWorld os) #[.int .i64 0, .int .i64 0] rfl (by kernel_rfl) (by kernel_rfl) (by kernel_rfl)
      (OpenSpec.preRow_of_cond 8 hx (by kernel_rfl) (fun k hk => by cases hk) (by kernel_rfl) (laid_met os))) ?_
  intro W base args ds gs before hval hW _ _ _ hL _ _
  exact contract H enc W args ds gs before hval hW hL

theorem kInPlace : (Rows.exprDeepRow.inPlace == Tryd.pinned.checked.prog.inPlace 9) = true := by kernel_rfl
theorem kUnfollowed : (Rows.exprDeepRow.unfollowed == Tryd.pinned.checked.prog.unfollowed 9) = true := by kernel_rfl
theorem kRecurses : (Rows.exprDeepRow.recurses == Tryd.pinned.checked.prog.recurses 9) = true := by kernel_rfl
theorem kNamed : (Rows.exprDeepRow.named == Tryd.pinned.checked.prog.varsNamed 9) = true := by kernel_rfl
theorem closed : joinedFacts Tryd.pinned.checked.prog 9 Tryd.f9 (OpenSpec.ofChange Rows.exprDeepSpec).bare Rows.exprDeepRow = true := by
  unfold joinedFacts
  rw [kInPlace, kUnfollowed, kRecurses, kNamed]
  kernel_rfl

theorem said : Rows.ExprDeepSaid :=
  OpenClaim.holds_of_cond 9 Tryd.f9 rfl rfl rfl rfl rfl rfl rfl ⟨rfl, rfl, rfl, rfl, rfl⟩ rfl rfl rfl rfl rfl (by kernel_rfl) Tryd.func9 closed
    (of_decide_eq_true (by kernel_rfl)) (by unfold Func.isWrapper; first | (rw [if_pos (by decide +kernel)]; kernel_rfl) | (rw [if_neg (by decide +kernel)]; exact ⟨rfl, rfl⟩))
    (fun os started H enc _ F => by rw [OpenClaim.pre_eq_preRow]; exact lifted os started H enc F)

end Go.Proofs.YtfbikhkmamdjmaaDoor.ExprDeep
