/-
  The row's statement of BigPicks: whatever the arguments, the call returns true and leaves them as they were.
  Conditions: those of the given row alone.
-/
import Derived.Test.YtfbikhkmamdjmaaGreatDoorCards
import Derived.Test.YtfbikhkmamdjmaaGreatDoorTie
import Derived.Test.YtfbikhkmamdjmaaGreatDoorBigPicksM
import Derived.Test.YtfbikhkmamdjmaaGreatDoorWPZ
import Derived.ChangeMaps5
import Derived.Deep.DeepWitnessRowRef
import Derived.LaidMore
namespace Go.Proofs.YtfbikhkmamdjmaaGreatDoor.BigPicks
open Go Go.Ab CodesS Go.ChangeShapes Go.WideShapes Go.ChangeAt Go.RowKit

theorem own : ownKnob Tryz.prog.godebug = none := by kernel_rfl
theorem gSpace : Tryz.prog.globalNamed "strings.asciiSpace" = some 1 := by kernel_rfl
theorem tSpace : (Tryz.prog.globals[1]?).map (·.type) = some 401 := by kernel_rfl
theorem cells401 : Tryz.prog.cellsOf 401 = 256 := by kernel_rfl
theorem cells5 : Tryz.prog.cellsOf 5 = 1 := by kernel_rfl
def spaceZ : List Int := (List.range 256).map fun i => if (9 ≤ i && i ≤ 13) || i == 32 then 1 else 0

theorem space_eq : space = tabV .u8 spaceZ := by kernel_rfl
theorem space_laid : (Rows.laid_strings_asciiSpace : DataW Unit) = Lib.tabData .u8 spaceZ := by kernel_rfl
theorem space_len : spaceZ.length = 256 := by kernel_rfl
theorem space_ne : spaceZ ≠ [] := fun h => by have := space_len; rw [h] at this; cases this

theorem globals {W : World} (h : laidMetH Tryz.prog Rows.bigPicksRow.laid W) : GRel G W (fun b => b < W.heap.size) fun _ => none := by
  rw [MakeChecks.laidMetH_plain _ _ _ (by kernel_rfl)] at h
  obtain ⟨ps, hl, _⟩ := h
  have ht := tab_of_laid (k := .u8) (zs := spaceZ) gSpace tSpace Tryz.underlying401 Tryz.underlying5 cells5 cells401 _ ps hl (by
    rw [← space_laid]
    exact List.mem_cons_of_mem _ (List.mem_cons_of_mem _ (List.mem_cons_of_mem _ (List.mem_cons_of_mem _ (List.mem_cons_self)))))
  intro g v e
  unfold G at e
  split at e
  · rename_i hg
    subst hg
    cases e
    rw [space_eq]
    exact tab_rep ht gSpace space_ne
  · cases e
    exact .undef _

def txt (s : ByteArray) : List Nat := s.data.toList.map UInt8.toNat
theorem small (s : ByteArray) : ∀ b ∈ txt s, b < 256 := fun b hb => by
  obtain ⟨c, _, rfl⟩ := List.mem_map.1 hb
  exact c.toNat_lt
theorem int_lt {n : Int} (h : (Lit.int .i64 n).wf = true) : n < 9223372036854775808 := by
  simp only [Lit.wf, Bool.and_eq_true, decide_eq_true_eq] at h
  have e : IntKind.max .i64 = 9223372036854775807 := by decide
  rw [e] at h
  omega
theorem fine0 : Heap.empty.Fine := ⟨rfl, fun f m => by cases m⟩
theorem walk (W : World) (l : Value) (ul : V) (ll : List Int) (hul : IsInts ul ll) (_ : ∀ z ∈ ll, (Lit.int .i64 z).wf = true) (hrl : Rep W (fun x => x < W.heap.size) (fun _ => none) ul l) (m : Value) (um : V) (lm : List Int) (hum : IsInts um lm) (_ : ∀ z ∈ lm, (Lit.int .i64 z).wf = true) (hrm : Rep W (fun x => x < W.heap.size) (fun _ => none) um m)  (h : laidMetH Tryz.prog Rows.bigPicksRow.laid W) :
    Calls Tryz.prog 5 #[l, m] W fun e w' => e = .returned (.bool true) ∧ (w'.os = W.os ∧ w'.output = W.output ∧ W.heap.size ≤ w'.heap.size ∧ ∀ b, b < W.heap.size → w'.heap[b]? = W.heap[b]?) := by
  obtain ⟨v, h', ⟨nf, he⟩, rfl⟩ := law_w ul um ll lm hul hum
  refine (calls_fast ctxOk1 fine1 he W #[l, m] (globals h) ⟨rfl, fun i v x ev ex => ?_⟩).mono fun e w' hh => ?_
  · match i with
    | 0 =>
      simp at ev ex
      subst ev; subst ex; exact hrl
    | 1 =>
      simp at ev ex
      subst ev; subst ex; exact hrm
    | i + 2 => simp at ev
  · obtain ⟨v, rfl, hk, R, ι, hr⟩ := hh
    cases hr
    exact ⟨rfl, hk⟩

theorem kids : Kids Tryz.prog (· < Tryz.prog.types.size) := kids_rows (by kernel_rfl) (by kernel_rfl)
theorem wide : ∀ t e, t < Tryz.prog.types.size → Tryz.prog.underlying t = some (.slice e) → 0 < Tryz.prog.cellsOf e := slices_full_of Tryz.prog (by kernel_rfl)
theorem known : ∀ t ∈ Tryz.f5.params.toList, t < Tryz.prog.types.size := fun t ht => of_decide_eq_true (List.all_eq_true.1 (show (Tryz.f5.params.toList.all fun t => decide (t < Tryz.prog.types.size)) = true by kernel_rfl) t ht)
set_option maxRecDepth 100000 in
theorem contract (H : Type) (enc : TypeId × Value → H) (W : World) (args : Array Value) (ds gs : List (DataW H)) (before : List MemPlace)
    (hval : ∀ (j : Nat) t v, Tryz.f5.params[j]? = some t → args[j]? = some v → Value.okWide Tryz.prog W .any 0 t v)
    (hW : DataW.Whole enc Tryz.prog Tryz.f5.params.toList Rows.bigPicksSpec.vars false W args.toList ds gs before) (hL : laidMetH Tryz.prog Rows.bigPicksRow.laid W) :
    Calls Tryz.prog 5 args W fun e W' => ∃ v, e = .returned v ∧ Rows.bigPicksSpec.post enc Tryz.prog Tryz.f5 false true false false W args v W' := by
  have hW' := hW
  obtain ⟨p, q, hA0, hV, rfl, hfz, hnd⟩ := hW
  have hA : DataW.TrodAll enc Tryz.prog W 0 (fun _ => true) true Tryz.f5.params.toList args.toList ds p := hA0
  rw [Tryz.params5] at hA hval
  obtain ⟨v0, vs0, d0, ds0, p0, q0, hargs0, rfl, rfl, h0, r0⟩ := trodAll_cons hA
  obtain ⟨v1, vs1, d1, ds1, p1, q1, hargs1, rfl, rfl, h1, r1⟩ := trodAll_cons r0
  obtain ⟨rfl, rfl, rfl⟩ := trodAll_nil r1
  obtain rfl : args = #[v0, v1] := by cases args; simp_all
  obtain ⟨rfl, rfl⟩ := trodVars_none hV
  obtain ⟨ul, ll, hul, hsl, hnl, hrl⟩ := open_intsl (S := [22, 3]) (by intro t ht; simp only [List.mem_cons, List.not_mem_nil, or_false] at ht; rcases ht with rfl | rfl <;> kernel_rfl) List.mem_cons_self Tryz.underlying22 Tryz.underlying3 (by kernel_rfl) (hval 0 22 v0 rfl rfl) h0
  obtain ⟨um, lm, hum, hsm, hnm, hrm⟩ := open_intsl (S := [22, 3]) (by intro t ht; simp only [List.mem_cons, List.not_mem_nil, or_false] at ht; rcases ht with rfl | rfl <;> kernel_rfl) List.mem_cons_self Tryz.underlying22 Tryz.underlying3 (by kernel_rfl) (hval 1 22 v1 rfl rfl) h1
  simp only [List.append_nil] at hW'
  refine (walk W v0 ul ll hul hsl hrl v1 um lm hum hsm hrm  hL).mono fun e W' ⟨he, hk⟩ => ?_
  subst he
  exact ⟨_, rfl, post_plain (pa := _) (pv := []) hW' (trodAll_cons_mk (shut_bool Tryz.underlying4 _) trodAll_mk0) (trodAll_again kids wide hk.2.2.2 known hA0) rfl (kept_of hk _)⟩

/-- a world for the witness: the settled one -/
noncomputable def laidWorld (os : Os) : World := World.doorLaid Tryz.prog 600 os
set_option maxRecDepth 100000
theorem laid_met (os : Os) : laidMet Tryz.prog Rows.bigPicksRow.laid ((laidWorld os).forCall (fun _ _ => 0) ⟨#[], #[.slice none 0 0, .slice none 0 0], []⟩).memory :=
  laidMet_of_rows 8 (by kernel_rfl)
theorem reads (os : Os) {H : Type} (enc : TypeId × Value → H) : ∃ places, DataW.whole enc Tryz.prog ((laidWorld os).forCall (fun _ _ => 0) ⟨#[], #[.slice none 0 0, .slice none 0 0], []⟩).memory Tryz.f5.params.toList Rows.bigPicksSpec.vars false (#[.slice none 0 0, .slice none 0 0] : Array Value).toList 8 = some ([.nil, .nil], [], places) :=
  ⟨[], by kernel_rfl⟩
theorem plain_laid : (Rows.bigPicksRow.laid.all fun x => x.2.handleName?.isNone) = true := by kernel_rfl

theorem lifted (os : Os) (started : os.Started) (H : Type) (enc : TypeId × Value → H) (F : Stop.Interp) :
    ReturnsInHanded {} Tryz.checked os 5 .any ((OpenSpec.ofChange Rows.bigPicksSpec).preRow enc Tryz.prog Tryz.f5 Rows.bigPicksRow.domain false Rows.bigPicksRow.laid) (((OpenSpec.ofChange Rows.bigPicksSpec).at F).post enc Tryz.prog Tryz.f5 false true false false) := by
  obtain ⟨places, hx⟩ := reads os enc
  refine returnsInHanded_of_row (C := Tryz.checked) (s := OpenSpec.ofChange Rows.bigPicksSpec) own started (by kernel_rfl) Tryz.func5
    (witness_row_atRef (enc := enc) (C := Tryz.checked) false (laidWorld os) #[.slice none 0 0, .slice none 0 0] rfl (by kernel_rfl) (by kernel_rfl) (by kernel_rfl)
      (OpenSpec.preRow_of_cond 8 hx (by kernel_rfl) (fun k hk => by cases hk) (by kernel_rfl) (laid_met os))) ?_
  intro W base args ds gs before hval hW _ _ _ hL _ _
  exact contract H enc W args ds gs before hval hW hL

theorem kInPlace : (Rows.bigPicksRow.inPlace == Tryz.pinned.checked.prog.inPlace 5) = true := by kernel_rfl
theorem kUnfollowed : (Rows.bigPicksRow.unfollowed == Tryz.pinned.checked.prog.unfollowed 5) = true := by kernel_rfl
theorem kRecurses : (Rows.bigPicksRow.recurses == Tryz.pinned.checked.prog.recurses 5) = true := by kernel_rfl
theorem kNamed : (Rows.bigPicksRow.named == Tryz.pinned.checked.prog.varsNamed 5) = true := by kernel_rfl
theorem closed : joinedFacts Tryz.pinned.checked.prog 5 Tryz.f5 (OpenSpec.ofChange Rows.bigPicksSpec).bare Rows.bigPicksRow = true := by
  unfold joinedFacts
  rw [kInPlace, kUnfollowed, kRecurses, kNamed]
  kernel_rfl

theorem said : Rows.BigPicksSaid :=
  OpenClaim.holds_of_cond 5 Tryz.f5 rfl rfl rfl rfl rfl rfl rfl ⟨rfl, rfl, rfl, rfl, rfl⟩ rfl rfl rfl rfl rfl (by kernel_rfl) Tryz.func5 closed
    (of_decide_eq_true (by kernel_rfl)) (by unfold Func.isWrapper; first | (rw [if_pos (by decide +kernel)]; kernel_rfl) | (rw [if_neg (by decide +kernel)]; exact ⟨rfl, rfl⟩))
    (fun os started H enc _ F => by rw [OpenClaim.pre_eq_preRow]; exact lifted os started H enc F)

end Go.Proofs.YtfbikhkmamdjmaaGreatDoor.BigPicks
