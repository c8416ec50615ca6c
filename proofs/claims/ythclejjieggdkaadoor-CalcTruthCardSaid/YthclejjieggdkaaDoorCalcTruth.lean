/-
  The row's statement of CalcTruth, and its card: whatever the text, the call returns true and leaves the text as it was.
  Conditions: those of the given row alone.
-/
import Derived.Test.YthclejjieggdkaaDoorCards
import Derived.Test.YthclejjieggdkaaDoorTie
import Derived.Test.YthclejjieggdkaaDoorCalcTruthM
import Derived.Test.YthclejjieggdkaaDoorWCT
import Derived.ChangeMaps5
import Derived.Deep.DeepWitnessRowRef
import Derived.LaidMore
namespace Go.Proofs.YthclejjieggdkaaDoor.CalcTruth
open Go Go.Ab CodesC Go.ChangeShapes Go.WideShapes Go.ChangeAt Go.RowKit

theorem own : ownKnob Tryd.prog.godebug = none := by kernel_rfl
theorem gSpace : Tryd.prog.globalNamed "strings.asciiSpace" = some 1 := by kernel_rfl
theorem tSpace : (Tryd.prog.globals[1]?).map (·.type) = some 99 := by kernel_rfl
theorem cells99 : Tryd.prog.cellsOf 99 = 256 := by kernel_rfl
theorem cells5 : Tryd.prog.cellsOf 5 = 1 := by kernel_rfl
def spaceZ : List Int := (List.range 256).map fun i => if (9 ≤ i && i ≤ 13) || i == 32 then 1 else 0

theorem space_eq : space = tabV .u8 spaceZ := by kernel_rfl
theorem space_laid : (Rows.laid_strings_asciiSpace : DataW Unit) = Lib.tabData .u8 spaceZ := by kernel_rfl
theorem space_len : spaceZ.length = 256 := by kernel_rfl
theorem space_ne : spaceZ ≠ [] := fun h => by have := space_len; rw [h] at this; cases this

theorem globals {W : World} (h : laidMetH Tryd.prog Rows.calcTruthRow.laid W) : GRel G W (fun b => b < W.heap.size) fun _ => none := by
  rw [MakeChecks.laidMetH_plain _ _ _ (by kernel_rfl)] at h
  obtain ⟨ps, hl, _⟩ := h
  have ht := tab_of_laid (k := .u8) (zs := spaceZ) gSpace tSpace Tryd.underlying99 Tryd.underlying5 cells5 cells99 _ ps hl (by
    rw [← space_laid]
    exact List.mem_cons_of_mem _ (List.mem_cons_self))
  intro g v e
  unfold G at e
  split at e
  · rename_i hg
    subst hg
    cases e
    rw [space_eq]
    exact tab_rep ht gSpace space_ne
  · cases e
    exact .undef _

def txt (s : ByteArray) : List Nat := s.data.toList.map UInt8.toNat
theorem small (s : ByteArray) : ∀ b ∈ txt s, b < 256 := fun b hb => by
  obtain ⟨c, _, rfl⟩ := List.mem_map.1 hb
  exact c.toNat_lt
theorem int_lt {n : Int} (h : (Lit.int .i64 n).wf = true) : n < 9223372036854775808 := by
  simp only [Lit.wf, Bool.and_eq_true, decide_eq_true_eq] at h
  have e : IntKind.max .i64 = 9223372036854775807 := by decide
  rw [e] at h
  omega
theorem fine0 : Heap.empty.Fine := ⟨rfl, fun f m => by cases m⟩
theorem walk (W : World) (a : Bool) (b : Bool) (n : Int) (m : Int) (hwf2 : (Lit.int .i64 n).wf = true) (hwf3 : (Lit.int .i64 m).wf = true) (h : laidMetH Tryd.prog Rows.calcTruthRow.laid W) :
    Calls Tryd.prog 10 #[.bool a, .bool b, .int .i64 n, .int .i64 m] W fun e w' => e = .returned (.bool true) ∧ (w'.os = W.os ∧ w'.output = W.output ∧ W.heap.size ≤ w'.heap.size ∧ ∀ b, b < W.heap.size → w'.heap[b]? = W.heap[b]?) := by
  obtain ⟨v, h', ⟨nf, he⟩, rfl⟩ := law_w a b n m
  refine (calls_fast ctxOk1 fine1 he W #[.bool a, .bool b, .int .i64 n, .int .i64 m] (globals h) ⟨rfl, fun i v x ev ex => ?_⟩).mono fun e w' hh => ?_
  · match i with
    | 0 =>
      simp at ev ex
      subst ev; subst ex; exact .bool _
    | 1 =>
      simp at ev ex
      subst ev; subst ex; exact .bool _
    | 2 =>
      simp at ev ex
      subst ev; subst ex; exact .int _ _
    | 3 =>
      simp at ev ex
      subst ev; subst ex; exact .int _ _
    | i + 4 => simp at ev
  · obtain ⟨v, rfl, hk, R, ι, hr⟩ := hh
    cases hr
    exact ⟨rfl, hk⟩

set_option maxRecDepth 100000 in
theorem contract (H : Type) (enc : TypeId × Value → H) (W : World) (args : Array Value) (ds gs : List (DataW H)) (before : List MemPlace)
    (hval : ∀ (j : Nat) t v, Tryd.f10.params[j]? = some t → args[j]? = some v → Value.okWide Tryd.prog W .any 0 t v)
    (hW : DataW.Whole enc Tryd.prog Tryd.f10.params.toList Rows.calcTruthSpec.vars false W args.toList ds gs before) (hL : laidMetH Tryd.prog Rows.calcTruthRow.laid W) :
    Calls Tryd.prog 10 args W fun e W' => ∃ v, e = .returned v ∧ Rows.calcTruthSpec.post enc Tryd.prog Tryd.f10 false true false false W args v W' := by
  have hW' := hW
  obtain ⟨p, q, hA0, hV, rfl, hfz, hnd⟩ := hW
  have hA : DataW.TrodAll enc Tryd.prog W 0 (fun _ => true) true Tryd.f10.params.toList args.toList ds p := hA0
  rw [Tryd.params10] at hA hval
  obtain ⟨v0, vs0, d0, ds0, p0, q0, hargs0, rfl, rfl, h0, r0⟩ := trodAll_cons hA
  obtain ⟨v1, vs1, d1, ds1, p1, q1, hargs1, rfl, rfl, h1, r1⟩ := trodAll_cons r0
  obtain ⟨v2, vs2, d2, ds2, p2, q2, hargs2, rfl, rfl, h2, r2⟩ := trodAll_cons r1
  obtain ⟨v3, vs3, d3, ds3, p3, q3, hargs3, rfl, rfl, h3, r3⟩ := trodAll_cons r2
  obtain ⟨rfl, rfl, rfl⟩ := trodAll_nil r3
  obtain rfl : args = #[v0, v1, v2, v3] := by cases args; simp_all
  obtain ⟨rfl, rfl⟩ := trodVars_none hV
  obtain ⟨a, rfl, rfl, rfl⟩ := RowKit.open_bool Tryd.underlying4 (hval 0 4 v0 rfl rfl) h0
  obtain ⟨b, rfl, rfl, rfl⟩ := RowKit.open_bool Tryd.underlying4 (hval 1 4 v1 rfl rfl) h1
  obtain ⟨n, rfl, rfl, rfl, hwf2⟩ := open_int Tryd.underlying3 (hval 2 3 v2 rfl rfl) h2
  obtain ⟨m, rfl, rfl, rfl, hwf3⟩ := open_int Tryd.underlying3 (hval 3 3 v3 rfl rfl) h3
  clear hA0
  simp only [List.append_nil] at hW'
  refine (walk W a b n m hwf2 hwf3 hL).mono fun e W' ⟨he, hk⟩ => ?_
  subst he
  exact ⟨_, rfl, post_plain (pa := []) (pv := []) hW' (trodAll_cons_mk (shut_bool Tryd.underlying4 _) trodAll_mk0) (trodAll_cons_mk (shut_bool Tryd.underlying4 _) (trodAll_cons_mk (shut_bool Tryd.underlying4 _) (trodAll_cons_mk (shut_int Tryd.underlying3 hwf2) (trodAll_cons_mk (shut_int Tryd.underlying3 hwf3) trodAll_mk0)))) rfl (kept_of hk _)⟩

/-- a world for the witness: the settled one -/
noncomputable def laidWorld (os : Os) : World := World.doorLaid Tryd.prog 600 os
set_option maxRecDepth 100000
theorem laid_met (os : Os) : laidMet Tryd.prog Rows.calcTruthRow.laid ((laidWorld os).forCall (fun _ _ => 0) ⟨#[], #[.bool false, .bool false, .int .i64 0, .int .i64 0], []⟩).memory :=
  laidMet_of_rows 8 (by kernel_rfl)
theorem reads (os : Os) {H : Type} (enc : TypeId × Value → H) : ∃ places, DataW.whole enc Tryd.prog ((laidWorld os).forCall (fun _ _ => 0) ⟨#[], #[.bool false, .bool false, .int .i64 0, .int .i64 0], []⟩).memory Tryd.f10.params.toList Rows.calcTruthSpec.vars false (#[.bool false, .bool false, .int .i64 0, .int .i64 0] : Array Value).toList 8 = some ([.lit (.bool false), .lit (.bool false), .lit (.int .i64 0), .lit (.int .i64 0)], [], places) :=
  ⟨[], by kernel_rfl⟩
theorem plain_laid : (Rows.calcTruthRow.laid.all fun x => x.2.handleName?.isNone) = true := by kernel_rfl

theorem lifted (os : Os) (started : os.Started) (H : Type) (enc : TypeId × Value → H) (F : Stop.Interp) :
    ReturnsInHanded {} Tryd.checked os 10 .any ((OpenSpec.ofChange Rows.calcTruthSpec).preRow enc Tryd.prog Tryd.f10 Rows.calcTruthRow.domain false Rows.calcTruthRow.laid) (((OpenSpec.ofChange Rows.calcTruthSpec).at F).post enc Tryd.prog Tryd.f10 false true false false) := by
  obtain ⟨places, hx⟩ := reads os enc
  refine returnsInHanded_of_row (C := Tryd.checked) (s := OpenSpec.ofChange Rows.calcTruthSpec) own started (by kernel_rfl) Tryd.func10
    (witness_row_atRef (enc := enc) (C := Tryd.checked) false (laidWorld os) #[.bool false, .bool false, .int .i64 0, .int .i64 0] rfl (by kernel_rfl) (by kernel_rfl) (by kernel_rfl)
      (OpenSpec.preRow_of_cond 8 hx (by kernel_rfl) (fun k hk => by cases hk) (by kernel_rfl) (laid_met os))) ?_
  intro W base args ds gs before hval hW _ _ _ hL _ _
  exact contract H enc W args ds gs before hval hW hL

theorem kInPlace : (Rows.calcTruthRow.inPlace == Tryd.pinned.checked.prog.inPlace 10) = true := by kernel_rfl
theorem kUnfollowed : (Rows.calcTruthRow.unfollowed == Tryd.pinned.checked.prog.unfollowed 10) = true := by kernel_rfl
theorem kRecurses : (Rows.calcTruthRow.recurses == Tryd.pinned.checked.prog.recurses 10) = true := by kernel_rfl
theorem kNamed : (Rows.calcTruthRow.named == Tryd.pinned.checked.prog.varsNamed 10) = true := by kernel_rfl
theorem closed : joinedFacts Tryd.pinned.checked.prog 10 Tryd.f10 (OpenSpec.ofChange Rows.calcTruthSpec).bare Rows.calcTruthRow = true := by
  unfold joinedFacts
  rw [kInPlace, kUnfollowed, kRecurses, kNamed]
  kernel_rfl

theorem said : Rows.CalcTruthSaid :=
  OpenClaim.holds_of_cond 10 Tryd.f10 rfl rfl rfl rfl rfl rfl rfl ⟨rfl, rfl, rfl, rfl, rfl⟩ rfl rfl rfl rfl rfl (by kernel_rfl) Tryd.func10 closed
    (of_decide_eq_true (by kernel_rfl)) (by unfold Func.isWrapper; first | (rw [if_pos (by decide +kernel)]; kernel_rfl) | (rw [if_neg (by decide +kernel)]; exact ⟨rfl, rfl⟩))
    (fun os started H enc _ F => by rw [OpenClaim.pre_eq_preRow]; exact lifted os started H enc F)

/-- no parameter wants a stand-in; the program's own looks -/
theorem plain (f : FuncId) (fn : Func) (hf : Tryd.pinned.checked.prog.funcNamed "puppeteer/puppeteerlaw17.CalcTruth" = some f) (hfn : Tryd.pinned.checked.prog.funcs[f]? = some fn) :
    false = Tryd.pinned.checked.prog.looks [] ∧ ∀ (j : Nat) t, fn.params[j]? = some t → Tryd.pinned.checked.prog.wantsStandIn t = false := by
  obtain rfl : f = 10 := Option.some.inj ((show Tryd.prog.funcNamed "puppeteer/puppeteerlaw17.CalcTruth" = some 10 by kernel_rfl).symm.trans hf) |>.symm
  obtain rfl : fn = Tryd.f10 := (Option.some.inj (Tryd.func10.symm.trans hfn)).symm
  refine ⟨by kernel_rfl, fun j t ht => ?_⟩
  rw [Tryd.params10] at ht
  have hm := Array.mem_of_getElem? ht
  simp only [List.mem_toArray, List.mem_cons, List.not_mem_nil, or_false] at hm
  rcases hm with rfl | rfl | rfl | rfl
  · exact (show Tryd.prog.wantsStandIn 4 = false by kernel_rfl)
  · exact (show Tryd.prog.wantsStandIn 4 = false by kernel_rfl)
  · exact (show Tryd.prog.wantsStandIn 3 = false by kernel_rfl)
  · exact (show Tryd.prog.wantsStandIn 3 = false by kernel_rfl)

theorem wfSaid : Rows.calcTruthRow.wfByText (OpenSpec.ofChange Rows.calcTruthSpec) = true := by kernel_rfl
theorem mainSaid : Tryd.pinned.checked.prog.mainIs = some (Rows.calcTruthCard.stood.harness.1, Rows.calcTruthCard.stood.harness.2.toList) := by kernel_rfl
theorem goesSaid : false = Rows.calcTruthRow.goesBy Tryd.pinned.checked.prog := by kernel_rfl

/-- the card -/
theorem card : Rows.CalcTruthCardSaid :=
  Claim7.holds_tied_plain_at .later [] _ _ _ _ said (fun _ h => by cases h) wfSaid (fun _ h => by cases h) calcTruth_row_tie rfl ⟨rfl, rfl⟩ mainSaid rfl plain goesSaid
#print axioms card
end Go.Proofs.YthclejjieggdkaaDoor.CalcTruth
