/-
  The row's statement of WorldClock: whatever the arguments, the call returns true and leaves them as they were.
  Conditions: those of the given row alone.
-/
import Derived.Test.YtfbikhkmamdjmaaGreatDoorCards
import Derived.Test.YtfbikhkmamdjmaaGreatDoorTie
import Derived.Test.YtfbikhkmamdjmaaGreatDoorWorldClockM
import Derived.Test.YtfbikhkmamdjmaaGreatDoorWC5
import Derived.ChangeMaps5
import Derived.Deep.DeepWitnessRowRef
import Derived.LaidMore
namespace Go.Proofs.YtfbikhkmamdjmaaGreatDoor.WorldClock
open Go Go.Ab CodesW Go.ChangeShapes Go.WideShapes Go.ChangeAt Go.RowKit

theorem own : ownKnob Tryz.prog.godebug = none := by kernel_rfl
theorem gSpace : Tryz.prog.globalNamed "strings.asciiSpace" = some 1 := by kernel_rfl
theorem tSpace : (Tryz.prog.globals[1]?).map (·.type) = some 401 := by kernel_rfl
theorem cells401 : Tryz.prog.cellsOf 401 = 256 := by kernel_rfl
theorem cells5 : Tryz.prog.cellsOf 5 = 1 := by kernel_rfl
def spaceZ : List Int := (List.range 256).map fun i => if (9 ≤ i && i ≤ 13) || i == 32 then 1 else 0

theorem space_eq : space = tabV .u8 spaceZ := by kernel_rfl
theorem space_laid : (Rows.laid_strings_asciiSpace : DataW Unit) = Lib.tabData .u8 spaceZ := by kernel_rfl
theorem space_len : spaceZ.length = 256 := by kernel_rfl
theorem space_ne : spaceZ ≠ [] := fun h => by have := space_len; rw [h] at this; cases this

theorem globals {W : World} (h : laidMetH Tryz.prog Rows.worldClockRow.laid W) : GRel G W (fun b => b < W.heap.size) fun _ => none := by
  rw [MakeChecks.laidMetH_plain _ _ _ (by kernel_rfl)] at h
  obtain ⟨ps, hl, _⟩ := h
  have ht := tab_of_laid (k := .u8) (zs := spaceZ) gSpace tSpace Tryz.underlying401 Tryz.underlying5 cells5 cells401 _ ps hl (by
    rw [← space_laid]
    exact List.mem_cons_of_mem _ (List.mem_cons_of_mem _ (List.mem_cons_of_mem _ (List.mem_cons_of_mem _ (List.mem_cons_of_mem _ (List.mem_cons_self))))))
  intro g v e
  unfold G at e
  split at e
  · rename_i hg
    subst hg
    cases e
    rw [space_eq]
    exact tab_rep ht gSpace space_ne
  · cases e
    exact .undef _

def txt (s : ByteArray) : List Nat := s.data.toList.map UInt8.toNat
theorem small (s : ByteArray) : ∀ b ∈ txt s, b < 256 := fun b hb => by
  obtain ⟨c, _, rfl⟩ := List.mem_map.1 hb
  exact c.toNat_lt
theorem int_lt {n : Int} (h : (Lit.int .i64 n).wf = true) : n < 9223372036854775808 := by
  simp only [Lit.wf, Bool.and_eq_true, decide_eq_true_eq] at h
  have e : IntKind.max .i64 = 9223372036854775807 := by decide
  rw [e] at h
  omega
theorem fine0 : Heap.empty.Fine := ⟨rfl, fun f m => by cases m⟩
theorem walk (W : World) (x : Int) (y : Int) (b : Int) (_ : (Lit.int .i64 x).wf = true) (_ : (Lit.int .i64 y).wf = true) (_ : (Lit.int .i64 b).wf = true) (h : laidMetH Tryz.prog Rows.worldClockRow.laid W) :
    Calls Tryz.prog 6 #[.int .i64 x, .int .i64 y, .int .i64 b] W fun e w' => e = .returned (.bool true) ∧ (w'.os = W.os ∧ w'.output = W.output ∧ W.heap.size ≤ w'.heap.size ∧ ∀ b, b < W.heap.size → w'.heap[b]? = W.heap[b]?) := by
  obtain ⟨v, h', ⟨nf, he⟩, rfl⟩ := law_w x y b
  refine (calls_fast ctxOk1 fine1 he W #[.int .i64 x, .int .i64 y, .int .i64 b] (globals h) ⟨rfl, fun i v x ev ex => ?_⟩).mono fun e w' hh => ?_
  · match i with
    | 0 =>
      simp at ev ex
      subst ev; subst ex; exact .int _ _
    | 1 =>
      simp at ev ex
      subst ev; subst ex; exact .int _ _
    | 2 =>
      simp at ev ex
      subst ev; subst ex; exact .int _ _
    | i + 3 => simp at ev
  · obtain ⟨v, rfl, hk, R, ι, hr⟩ := hh
    cases hr
    exact ⟨rfl, hk⟩

set_option maxRecDepth 100000 in
theorem contract (H : Type) (enc : TypeId × Value → H) (W : World) (args : Array Value) (ds gs : List (DataW H)) (before : List MemPlace)
    (hval : ∀ (j : Nat) t v, Tryz.f6.params[j]? = some t → args[j]? = some v → Value.okWide Tryz.prog W .any 0 t v)
    (hW : DataW.Whole enc Tryz.prog Tryz.f6.params.toList Rows.worldClockSpec.vars false W args.toList ds gs before) (hL : laidMetH Tryz.prog Rows.worldClockRow.laid W) :
    Calls Tryz.prog 6 args W fun e W' => ∃ v, e = .returned v ∧ Rows.worldClockSpec.post enc Tryz.prog Tryz.f6 false true false false W args v W' := by
  have hW' := hW
  obtain ⟨p, q, hA0, hV, rfl, hfz, hnd⟩ := hW
  have hA : DataW.TrodAll enc Tryz.prog W 0 (fun _ => true) true Tryz.f6.params.toList args.toList ds p := hA0
  rw [Tryz.params6] at hA hval
  obtain ⟨v0, vs0, d0, ds0, p0, q0, hargs0, rfl, rfl, h0, r0⟩ := trodAll_cons hA
  obtain ⟨v1, vs1, d1, ds1, p1, q1, hargs1, rfl, rfl, h1, r1⟩ := trodAll_cons r0
  obtain ⟨v2, vs2, d2, ds2, p2, q2, hargs2, rfl, rfl, h2, r2⟩ := trodAll_cons r1
  obtain ⟨rfl, rfl, rfl⟩ := trodAll_nil r2
  obtain rfl : args = #[v0, v1, v2] := by cases args; simp_all
  obtain ⟨rfl, rfl⟩ := trodVars_none hV
  obtain ⟨x, rfl, rfl, rfl, hwf0⟩ := open_int Tryz.underlying3 (hval 0 3 v0 rfl rfl) h0
  obtain ⟨y, rfl, rfl, rfl, hwf1⟩ := open_int Tryz.underlying3 (hval 1 3 v1 rfl rfl) h1
  obtain ⟨b, rfl, rfl, rfl, hwf2⟩ := open_int Tryz.underlying3 (hval 2 3 v2 rfl rfl) h2
  clear hA0
  simp only [List.append_nil] at hW'
  refine (walk W x y b hwf0 hwf1 hwf2 hL).mono fun e W' ⟨he, hk⟩ => ?_
  subst he
  exact ⟨_, rfl, post_plain (pa := []) (pv := []) hW' (trodAll_cons_mk (shut_bool Tryz.underlying4 _) trodAll_mk0) (trodAll_cons_mk (shut_int Tryz.underlying3 hwf0) (trodAll_cons_mk (shut_int Tryz.underlying3 hwf1) (trodAll_cons_mk (shut_int Tryz.underlying3 hwf2) trodAll_mk0))) rfl (kept_of hk _)⟩

/-- a world for the witness: the settled one, with the pinned table laid -/
noncomputable def laidWorld (os : Os) : World :=
  { World.doorLaid Tryz.prog 600 os with heap := (World.doorLaid Tryz.prog 600 os).heap.modify 4 fun
      | .cells _ t frozen => .cells (Go.Pinned.utf8FirstZ.map fun z : Nat => Value.int .u8 (z : Int)).toArray t frozen
      | o => o }
set_option maxRecDepth 100000
theorem laid_met (os : Os) : laidMet Tryz.prog Rows.worldClockRow.laid ((laidWorld os).forCall (fun _ _ => 0) ⟨#[], #[.int .i64 0, .int .i64 0, .int .i64 0], []⟩).memory :=
  laidMet_of_rows 8 (by kernel_rfl)
theorem reads (os : Os) {H : Type} (enc : TypeId × Value → H) : ∃ places, DataW.whole enc Tryz.prog ((laidWorld os).forCall (fun _ _ => 0) ⟨#[], #[.int .i64 0, .int .i64 0, .int .i64 0], []⟩).memory Tryz.f6.params.toList Rows.worldClockSpec.vars false (#[.int .i64 0, .int .i64 0, .int .i64 0] : Array Value).toList 8 = some ([.lit (.int .i64 0), .lit (.int .i64 0), .lit (.int .i64 0)], [], places) :=
  ⟨[], by kernel_rfl⟩
theorem plain_laid : (Rows.worldClockRow.laid.all fun x => x.2.handleName?.isNone) = true := by kernel_rfl

theorem lifted (os : Os) (started : os.Started) (H : Type) (enc : TypeId × Value → H) (F : Stop.Interp) :
    ReturnsInHanded {} Tryz.checked os 6 .any ((OpenSpec.ofChange Rows.worldClockSpec).preRow enc Tryz.prog Tryz.f6 Rows.worldClockRow.domain false Rows.worldClockRow.laid) (((OpenSpec.ofChange Rows.worldClockSpec).at F).post enc Tryz.prog Tryz.f6 false true false false) := by
  obtain ⟨places, hx⟩ := reads os enc
  refine returnsInHanded_of_row (C := Tryz.checked) (s := OpenSpec.ofChange Rows.worldClockSpec) own started (by kernel_rfl) Tryz.func6
    (witness_row_atRef (enc := enc) (C := Tryz.checked) false (laidWorld os) #[.int .i64 0, .int .i64 0, .int .i64 0] rfl (by kernel_rfl) (by kernel_rfl) (by kernel_rfl)
      (OpenSpec.preRow_of_cond 8 hx (by kernel_rfl) (fun k hk => by cases hk) (by kernel_rfl) (laid_met os))) ?_
  intro W base args ds gs before hval hW _ _ _ hL _ _
  exact contract H enc W args ds gs before hval hW hL

theorem kInPlace : (Rows.worldClockRow.inPlace == Tryz.pinned.checked.prog.inPlace 6) = true := by kernel_rfl
theorem kUnfollowed : (Rows.worldClockRow.unfollowed == Tryz.pinned.checked.prog.unfollowed 6) = true := by kernel_rfl
theorem kRecurses : (Rows.worldClockRow.recurses == Tryz.pinned.checked.prog.recurses 6) = true := by kernel_rfl
theorem kNamed : (Rows.worldClockRow.named == Tryz.pinned.checked.prog.varsNamed 6) = true := by kernel_rfl
theorem closed : joinedFacts Tryz.pinned.checked.prog 6 Tryz.f6 (OpenSpec.ofChange Rows.worldClockSpec).bare Rows.worldClockRow = true := by
  unfold joinedFacts
  rw [kInPlace, kUnfollowed, kRecurses, kNamed]
  kernel_rfl

theorem said : Rows.WorldClockSaid :=
  OpenClaim.holds_of_cond 6 Tryz.f6 rfl rfl rfl rfl rfl rfl rfl ⟨rfl, rfl, rfl, rfl, rfl⟩ rfl rfl rfl rfl rfl (by kernel_rfl) Tryz.func6 closed
    (of_decide_eq_true (by kernel_rfl)) (by unfold Func.isWrapper; first | (rw [if_pos (by decide +kernel)]; kernel_rfl) | (rw [if_neg (by decide +kernel)]; exact ⟨rfl, rfl⟩))
    (fun os started H enc _ F => by rw [OpenClaim.pre_eq_preRow]; exact lifted os started H enc F)

end Go.Proofs.YtfbikhkmamdjmaaGreatDoor.WorldClock
