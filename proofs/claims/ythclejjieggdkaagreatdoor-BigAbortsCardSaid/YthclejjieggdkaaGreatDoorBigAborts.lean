/-
  The row's statement of BigAborts, and its card: whatever the numbers, the call returns true and leaves them as they were.
  Conditions: those of the given row alone.
-/
import Derived.Test.YthclejjieggdkaaGreatDoorCards
import Derived.Test.YthclejjieggdkaaGreatDoorTie
import Derived.Test.YthclejjieggdkaaGreatDoorBigAbortsE0
import Derived.Test.YthclejjieggdkaaGreatDoorBigAbortsE1
import Derived.Test.YthclejjieggdkaaGreatDoorBigAbortsE2
import Derived.Deep.DeepWitnessRowRef
import Derived.LaidMore
namespace Go.Proofs.YthclejjieggdkaaGreatDoor.BigAborts
open Go Go.Ab CodesB Go.ChangeShapes Go.WideShapes Go.ChangeAt Go.RowKit

theorem own : ownKnob Tryz.prog.godebug = none := by kernel_rfl
theorem gSpace : Tryz.prog.globalNamed "strings.asciiSpace" = some 0 := by kernel_rfl
theorem tSpace : (Tryz.prog.globals[0]?).map (·.type) = some 393 := by kernel_rfl
theorem cells393 : Tryz.prog.cellsOf 393 = 256 := by kernel_rfl
theorem cells5 : Tryz.prog.cellsOf 5 = 1 := by kernel_rfl
def spaceZ : List Int := (List.range 256).map fun i => if (9 ≤ i && i ≤ 13) || i == 32 then 1 else 0

theorem row0 (m : Int) : truth (callFast D 100000 5 [.int .i64 (Int.ofNat 0), .int .i64 m] Heap.empty) = true := by
  cases m with
  | negSucc k => exact lessY0 k
  | ofNat k =>
    match k with
    | 0 => exact at0x0
    | 1 => exact at0x1
    | 2 => exact at0x2
    | 3 => exact at0x3
    | k + 4 => exact moreY0 k
theorem row1 (m : Int) : truth (callFast D 100000 5 [.int .i64 (Int.ofNat 1), .int .i64 m] Heap.empty) = true := by
  cases m with
  | negSucc k => exact lessY1 k
  | ofNat k =>
    match k with
    | 0 => exact at1x0
    | 1 => exact at1x1
    | 2 => exact at1x2
    | 3 => exact at1x3
    | k + 4 => exact moreY1 k
theorem row2 (m : Int) : truth (callFast D 100000 5 [.int .i64 (Int.ofNat 2), .int .i64 m] Heap.empty) = true := by
  cases m with
  | negSucc k => exact lessY2 k
  | ofNat k =>
    match k with
    | 0 => exact at2x0
    | 1 => exact at2x1
    | 2 => exact at2x2
    | 3 => exact at2x3
    | k + 4 => exact moreY2 k
theorem row3 (m : Int) : truth (callFast D 100000 5 [.int .i64 (Int.ofNat 3), .int .i64 m] Heap.empty) = true := by
  cases m with
  | negSucc k => exact lessY3 k
  | ofNat k =>
    match k with
    | 0 => exact at3x0
    | 1 => exact at3x1
    | 2 => exact at3x2
    | 3 => exact at3x3
    | k + 4 => exact moreY3 k
/-- whatever the numbers, the machine answers 'true' -/
theorem always (n m : Int) : truth (callFast D 100000 5 [.int .i64 n, .int .i64 m] Heap.empty) = true := by
  cases n with
  | negSucc k => exact lessX k m
  | ofNat k =>
    match k with
    | 0 => exact row0 m
    | 1 => exact row1 m
    | 2 => exact row2 m
    | 3 => exact row3 m
    | k + 4 => exact moreX k m
theorem answer {q : Option (Out × Heap)} (h : truth q = true) : ∃ h', q = some (.ret (.bool true), h') := by
  unfold truth at h
  split at h
  · rename_i b h'
    subst h
    exact ⟨h', rfl⟩
  · cases h

theorem space_eq : space = tabV .u8 spaceZ := by kernel_rfl
theorem space_laid : (Rows.laid_strings_asciiSpace : DataW Unit) = Lib.tabData .u8 spaceZ := by kernel_rfl
theorem space_len : spaceZ.length = 256 := by kernel_rfl
theorem space_ne : spaceZ ≠ [] := fun h => by have := space_len; rw [h] at this; cases this

theorem globals {W : World} (h : laidMetH Tryz.prog Rows.bigAbortsRow.laid W) : GRel G W (fun b => b < W.heap.size) fun _ => none := by
  rw [MakeChecks.laidMetH_plain _ _ _ (by kernel_rfl)] at h
  obtain ⟨ps, hl, _⟩ := h
  have ht := tab_of_laid (k := .u8) (zs := spaceZ) gSpace tSpace Tryz.underlying393 Tryz.underlying5 cells5 cells393 _ ps hl (by
    rw [← space_laid]
    exact List.mem_cons_of_mem _ (List.mem_cons_of_mem _ (List.mem_cons_of_mem _ (List.mem_cons_of_mem _ (List.mem_cons_self)))))
  intro g v e
  unfold G at e
  split at e
  · rename_i hg
    subst hg
    cases e
    rw [space_eq]
    exact tab_rep ht gSpace space_ne
  · cases e
    exact .undef _

theorem walk (W : World) (n m : Int) (h : laidMetH Tryz.prog Rows.bigAbortsRow.laid W) :
    Calls Tryz.prog 5 #[.int .i64 n, .int .i64 m] W fun e w' => e = .returned (.bool true) ∧ (w'.os = W.os ∧ w'.output = W.output ∧ W.heap.size ≤ w'.heap.size ∧ ∀ b, b < W.heap.size → w'.heap[b]? = W.heap[b]?) := by
  obtain ⟨h', he⟩ := answer (always n m)
  refine (calls_fast ctxOk fine he W #[.int .i64 n, .int .i64 m] (globals h) ⟨rfl, fun i v x ev ex => ?_⟩).mono fun e w' hh => ?_
  · match i with
    | 0 => simp at ev ex; subst ev; subst ex; exact .int _ _
    | 1 => simp at ev ex; subst ev; subst ex; exact .int _ _
    | i + 2 => simp at ev
  · obtain ⟨v, rfl, hk, R, ι, hr⟩ := hh
    cases hr
    exact ⟨rfl, hk⟩

set_option maxRecDepth 100000 in
theorem contract (H : Type) (enc : TypeId × Value → H) (W : World) (args : Array Value) (ds gs : List (DataW H)) (before : List MemPlace)
    (hval : ∀ (j : Nat) t v, Tryz.f5.params[j]? = some t → args[j]? = some v → Value.okWide Tryz.prog W .any 0 t v)
    (hW : DataW.Whole enc Tryz.prog Tryz.f5.params.toList Rows.bigAbortsSpec.vars false W args.toList ds gs before) (hL : laidMetH Tryz.prog Rows.bigAbortsRow.laid W) :
    Calls Tryz.prog 5 args W fun e W' => ∃ v, e = .returned v ∧ Rows.bigAbortsSpec.post enc Tryz.prog Tryz.f5 false true false false W args v W' := by
  have hW' := hW
  obtain ⟨p, q, hA0, hV, rfl, hfz, hnd⟩ := hW
  have hA : DataW.TrodAll enc Tryz.prog W 0 (fun _ => true) true Tryz.f5.params.toList args.toList ds p := hA0
  rw [Tryz.params5] at hA hval
  obtain ⟨v0, vs0, d0, ds0, p0, q0, hargs, rfl, rfl, h0, r0⟩ := trodAll_cons hA
  obtain ⟨v1, vs1, d1, ds1, p1, q1, hargs1, rfl, rfl, h1, r1⟩ := trodAll_cons r0
  obtain ⟨rfl, rfl, rfl⟩ := trodAll_nil r1
  obtain rfl : args = #[v0, v1] := by cases args; simp_all
  obtain ⟨rfl, rfl⟩ := trodVars_none hV
  obtain ⟨n, rfl, rfl, rfl, hwf⟩ := open_int Tryz.underlying3 (hval 0 3 v0 rfl rfl) h0
  obtain ⟨m, rfl, rfl, rfl, hwf1⟩ := open_int Tryz.underlying3 (hval 1 3 v1 rfl rfl) h1
  clear hA0
  simp only [List.append_nil] at hW'
  refine (walk W n m hL).mono fun e W' ⟨he, hk⟩ => ?_
  subst he
  exact ⟨_, rfl, post_plain (pa := []) (pv := []) hW' (trodAll_cons_mk (shut_bool Tryz.underlying4 _) trodAll_mk0) (trodAll_cons_mk (shut_int Tryz.underlying3 hwf) (trodAll_cons_mk (shut_int Tryz.underlying3 hwf1) trodAll_mk0)) rfl (kept_of hk _)⟩

/-- a world for the witness: the settled one -/
noncomputable def laidWorld (os : Os) : World := World.doorLaid Tryz.prog 600 os
set_option maxRecDepth 100000
theorem laid_met (os : Os) : laidMet Tryz.prog Rows.bigAbortsRow.laid ((laidWorld os).forCall (fun _ _ => 0) ⟨#[], #[.int .i64 0, .int .i64 0], []⟩).memory :=
  laidMet_of_rows 8 (by kernel_rfl)
theorem reads (os : Os) {H : Type} (enc : TypeId × Value → H) : ∃ places, DataW.whole enc Tryz.prog ((laidWorld os).forCall (fun _ _ => 0) ⟨#[], #[.int .i64 0, .int .i64 0], []⟩).memory Tryz.f5.params.toList Rows.bigAbortsSpec.vars false #[Value.int .i64 0, Value.int .i64 0].toList 8 = some ([.lit (.int .i64 0), .lit (.int .i64 0)], [], places) :=
  ⟨[], by kernel_rfl⟩
theorem plain_laid : (Rows.bigAbortsRow.laid.all fun x => x.2.handleName?.isNone) = true := by kernel_rfl

theorem lifted (os : Os) (started : os.Started) (H : Type) (enc : TypeId × Value → H) (F : Stop.Interp) :
    ReturnsInHanded {} Tryz.checked os 5 .any ((OpenSpec.ofChange Rows.bigAbortsSpec).preRow enc Tryz.prog Tryz.f5 Rows.bigAbortsRow.domain false Rows.bigAbortsRow.laid) (((OpenSpec.ofChange Rows.bigAbortsSpec).at F).post enc Tryz.prog Tryz.f5 false true false false) := by
  obtain ⟨places, hx⟩ := reads os enc
  refine returnsInHanded_of_row (C := Tryz.checked) (s := OpenSpec.ofChange Rows.bigAbortsSpec) own started (by kernel_rfl) Tryz.func5
    (witness_row_atRef (enc := enc) (C := Tryz.checked) false (laidWorld os) #[.int .i64 0, .int .i64 0] rfl (by kernel_rfl) (by kernel_rfl) (by kernel_rfl)
      (OpenSpec.preRow_of_cond 8 hx (by kernel_rfl) (fun k hk => by cases hk) (by kernel_rfl) (laid_met os))) ?_
  intro W base args ds gs before hval hW _ _ _ hL _ _
  exact contract H enc W args ds gs before hval hW hL

theorem kInPlace : (Rows.bigAbortsRow.inPlace == Tryz.pinned.checked.prog.inPlace 5) = true := by kernel_rfl
theorem kUnfollowed : (Rows.bigAbortsRow.unfollowed == Tryz.pinned.checked.prog.unfollowed 5) = true := by kernel_rfl
theorem kRecurses : (Rows.bigAbortsRow.recurses == Tryz.pinned.checked.prog.recurses 5) = true := by kernel_rfl
theorem kNamed : (Rows.bigAbortsRow.named == Tryz.pinned.checked.prog.varsNamed 5) = true := by kernel_rfl
theorem closed : joinedFacts Tryz.pinned.checked.prog 5 Tryz.f5 (OpenSpec.ofChange Rows.bigAbortsSpec).bare Rows.bigAbortsRow = true := by
  unfold joinedFacts
  rw [kInPlace, kUnfollowed, kRecurses, kNamed]
  kernel_rfl

theorem said : Rows.BigAbortsSaid :=
  OpenClaim.holds_of_cond 5 Tryz.f5 rfl rfl rfl rfl rfl rfl rfl ⟨rfl, rfl, rfl, rfl, rfl⟩ rfl rfl rfl rfl rfl (by kernel_rfl) Tryz.func5 closed
    (of_decide_eq_true (by kernel_rfl)) (by unfold Func.isWrapper; first | (rw [if_pos (by decide +kernel)]; kernel_rfl) | (rw [if_neg (by decide +kernel)]; exact ⟨rfl, rfl⟩))
    (fun os started H enc _ F => by rw [OpenClaim.pre_eq_preRow]; exact lifted os started H enc F)

/-- no parameter wants a stand-in; the program's own looks -/
theorem plain (f : FuncId) (fn : Func) (hf : Tryz.pinned.checked.prog.funcNamed "puppeteer/puppeteerlaw18.BigAborts" = some f) (hfn : Tryz.pinned.checked.prog.funcs[f]? = some fn) :
    true = Tryz.pinned.checked.prog.looks [] ∧ ∀ (j : Nat) t, fn.params[j]? = some t → Tryz.pinned.checked.prog.wantsStandIn t = false := by
  obtain rfl : f = 5 := Option.some.inj ((show Tryz.prog.funcNamed "puppeteer/puppeteerlaw18.BigAborts" = some 5 by kernel_rfl).symm.trans hf) |>.symm
  obtain rfl : fn = Tryz.f5 := (Option.some.inj (Tryz.func5.symm.trans hfn)).symm
  refine ⟨by kernel_rfl, fun j t ht => ?_⟩
  rw [Tryz.params5] at ht
  obtain rfl : t = 3 := by simpa using Array.mem_of_getElem? ht
  exact (show Tryz.prog.wantsStandIn 3 = false by kernel_rfl)

/-- the card -/
theorem card : Rows.BigAbortsCardSaid :=
  Claim7.holds_tied_plain_at .later [] _ _ _ _ said (fun _ h => by cases h) (by kernel_rfl) (fun _ h => by cases h) bigAborts_row_tie rfl ⟨rfl, rfl⟩ (by kernel_rfl) rfl plain (by kernel_rfl)
#print axioms card
end Go.Proofs.YthclejjieggdkaaGreatDoor.BigAborts
