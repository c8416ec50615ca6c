/-
  The row's statement of GoapGuess: whatever the arguments, the call returns true and leaves them as they were.
  Conditions: those of the given row alone.
-/
import Derived.Test.YtpaadclighadaaaDoorCards
import Derived.Test.YtpaadclighadaaaDoorTie
import Derived.Test.YtpaadclighadaaaDoorGoapGuessM
import Derived.Test.YtpaadclighadaaaDoorWGO2
import Derived.ChangeMaps5
import Derived.Deep.DeepWitnessRowRef
import Derived.LaidMore
namespace Go.Proofs.YtpaadclighadaaaDoor.GoapGuess
open Go Go.Ab CodesG Go.ChangeShapes Go.WideShapes Go.ChangeAt Go.RowKit

theorem own : ownKnob Tryd.prog.godebug = none := by kernel_rfl
theorem globals {W : World} (_ : laidMetH Tryd.prog Rows.goapGuessRow.laid W) : GRel G W (fun b => b < W.heap.size) fun _ => none := by
  intro g v e
  unfold G at e
  cases e
  exact .undef _

def txt (s : ByteArray) : List Nat := s.data.toList.map UInt8.toNat
theorem small (s : ByteArray) : ∀ b ∈ txt s, b < 256 := fun b hb => by
  obtain ⟨c, _, rfl⟩ := List.mem_map.1 hb
  exact c.toNat_lt
theorem int_lt {n : Int} (h : (Lit.int .i64 n).wf = true) : n < 9223372036854775808 := by
  simp only [Lit.wf, Bool.and_eq_true, decide_eq_true_eq] at h
  have e : IntKind.max .i64 = 9223372036854775807 := by decide
  rw [e] at h
  omega
theorem fine0 : Heap.empty.Fine := ⟨rfl, fun f m => by cases m⟩
theorem walk (W : World) (dom : Value) (ddom : DR) (hddom : DGood ddom) (hrdom : Rep W (fun x => x < W.heap.size) (fun _ => none) ddom.v dom) (at0 : Value) (uat0 : V) (lat0 : List Int) (huat0 : IsInts uat0 lat0) (hsat0 : ∀ z ∈ lat0, (Lit.int .i64 z).wf = true) (hrat0 : Rep W (fun x => x < W.heap.size) (fun _ => none) uat0 at0) (act : Int) (_ : (Lit.int .i64 act).wf = true) (h : laidMetH Tryd.prog Rows.goapGuessRow.laid W) :
    Calls Tryd.prog 4 #[dom, at0, .int .i64 act] W fun e w' => e = .returned (.bool true) ∧ (w'.os = W.os ∧ w'.output = W.output ∧ W.heap.size ≤ w'.heap.size ∧ ∀ b, b < W.heap.size → w'.heap[b]? = W.heap[b]?) := by
  obtain ⟨v, h', ⟨nf, he⟩, rfl⟩ := law_w ddom hddom huat0 hsat0 act
  refine (calls_fast ctxOk1 fine1 he W #[dom, at0, .int .i64 act] (globals h) ⟨rfl, fun i v x ev ex => ?_⟩).mono fun e w' hh => ?_
  · match i with
    | 0 =>
      simp at ev ex
      subst ev; subst ex; exact hrdom
    | 1 =>
      simp at ev ex
      subst ev; subst ex; exact hrat0
    | 2 =>
      simp at ev ex
      subst ev; subst ex; exact .int _ _
    | i + 3 => simp at ev
  · obtain ⟨v, rfl, hk, R, ι, hr⟩ := hh
    cases hr
    exact ⟨rfl, hk⟩

theorem kids : Kids Tryd.prog (· < Tryd.prog.types.size) := kids_rows (by kernel_rfl) (by kernel_rfl)
theorem wide : ∀ t e, t < Tryd.prog.types.size → Tryd.prog.underlying t = some (.slice e) → 0 < Tryd.prog.cellsOf e := slices_full_of Tryd.prog (by kernel_rfl)
theorem known : ∀ t ∈ Tryd.f4.params.toList, t < Tryd.prog.types.size := fun t ht => of_decide_eq_true (List.all_eq_true.1 (show (Tryd.f4.params.toList.all fun t => decide (t < Tryd.prog.types.size)) = true by kernel_rfl) t ht)
set_option maxRecDepth 100000 in
theorem contract (H : Type) (enc : TypeId × Value → H) (W : World) (args : Array Value) (ds gs : List (DataW H)) (before : List MemPlace)
    (hval : ∀ (j : Nat) t v, Tryd.f4.params[j]? = some t → args[j]? = some v → Value.okWide Tryd.prog W .any 0 t v)
    (hW : DataW.Whole enc Tryd.prog Tryd.f4.params.toList Rows.goapGuessSpec.vars false W args.toList ds gs before) (hL : laidMetH Tryd.prog Rows.goapGuessRow.laid W) :
    Calls Tryd.prog 4 args W fun e W' => ∃ v, e = .returned v ∧ Rows.goapGuessSpec.post enc Tryd.prog Tryd.f4 false true false false W args v W' := by
  have hW' := hW
  obtain ⟨p, q, hA0, hV, rfl, hfz, hnd⟩ := hW
  have hA : DataW.TrodAll enc Tryd.prog W 0 (fun _ => true) true Tryd.f4.params.toList args.toList ds p := hA0
  rw [Tryd.params4] at hA hval
  obtain ⟨v0, vs0, d0, ds0, p0, q0, hargs0, rfl, rfl, h0, r0⟩ := trodAll_cons hA
  obtain ⟨v1, vs1, d1, ds1, p1, q1, hargs1, rfl, rfl, h1, r1⟩ := trodAll_cons r0
  obtain ⟨v2, vs2, d2, ds2, p2, q2, hargs2, rfl, rfl, h2, r2⟩ := trodAll_cons r1
  obtain ⟨rfl, rfl, rfl⟩ := trodAll_nil r2
  obtain rfl : args = #[v0, v1, v2] := by cases args; simp_all
  obtain ⟨rfl, rfl⟩ := trodVars_none hV
  obtain ⟨nfdom, usdom, hfitdom, hrdom⟩ := open_struct (S := [26, 9, 22, 73, 3, 23, 31, 24, 39, 29, 75, 4]) (fun t ht => List.all_eq_true.1 (show (([26, 9, 22, 73, 3, 23, 31, 24, 39, 29, 75, 4] : List TypeId).all (goodIn Tryd.prog [26, 9, 22, 73, 3, 23, 31, 24, 39, 29, 75, 4])) = true by kernel_rfl) t ht) List.mem_cons_self Tryd.underlying26 (hval 0 26 v0 rfl rfl) h0
  obtain ⟨ddom, rfl, hddom⟩ := dom_of hfitdom
  obtain ⟨uat0, lat0, huat0, hsat0, hnat0, hrat0⟩ := open_intsl (S := [27, 3]) (by intro t ht; simp only [List.mem_cons, List.not_mem_nil, or_false] at ht; rcases ht with rfl | rfl <;> kernel_rfl) List.mem_cons_self Tryd.underlying27 Tryd.underlying3 (by kernel_rfl) (hval 1 27 v1 rfl rfl) h1
  obtain ⟨act, rfl, rfl, rfl, hwf2⟩ := open_int Tryd.underlying3 (hval 2 3 v2 rfl rfl) h2
  simp only [List.append_nil] at hW'
  refine (walk W v0 ddom hddom hrdom v1 uat0 lat0 huat0 hsat0 hrat0 act hwf2 hL).mono fun e W' ⟨he, hk⟩ => ?_
  subst he
  exact ⟨_, rfl, post_plain (pa := _) (pv := []) hW' (trodAll_cons_mk (shut_bool Tryd.underlying4 _) trodAll_mk0) (trodAll_again kids wide hk.2.2.2 known hA0) rfl (kept_of hk _)⟩

/-- a world for the witness: the settled one -/
noncomputable def laidWorld (os : Os) : World := World.doorLaid Tryd.prog 600 os
set_option maxRecDepth 100000
theorem laid_met (os : Os) : laidMet Tryd.prog Rows.goapGuessRow.laid ((laidWorld os).forCall (fun _ _ => 0) ⟨#[], #[.agg #[.string ByteArray.empty, .slice none 0 0, .slice none 0 0, .slice none 0 0], .slice none 0 0, .int .i64 0], []⟩).memory :=
  laidMet_of_rows 8 (by kernel_rfl)
theorem reads (os : Os) {H : Type} (enc : TypeId × Value → H) : ∃ places, DataW.whole enc Tryd.prog ((laidWorld os).forCall (fun _ _ => 0) ⟨#[], #[.agg #[.string ByteArray.empty, .slice none 0 0, .slice none 0 0, .slice none 0 0], .slice none 0 0, .int .i64 0], []⟩).memory Tryd.f4.params.toList Rows.goapGuessSpec.vars false (#[.agg #[.string ByteArray.empty, .slice none 0 0, .slice none 0 0, .slice none 0 0], .slice none 0 0, .int .i64 0] : Array Value).toList 8 = some ([.agg [.lit (.string []), .nil, .nil, .nil], .nil, .lit (.int .i64 0)], [], places) :=
  ⟨[], by kernel_rfl⟩
theorem plain_laid : (Rows.goapGuessRow.laid.all fun x => x.2.handleName?.isNone) = true := by kernel_rfl

theorem lifted (os : Os) (started : os.Started) (H : Type) (enc : TypeId × Value → H) (F : Stop.Interp) :
    ReturnsInHanded {} Tryd.checked os 4 .any ((OpenSpec.ofChange Rows.goapGuessSpec).preRow enc Tryd.prog Tryd.f4 Rows.goapGuessRow.domain false Rows.goapGuessRow.laid) (((OpenSpec.ofChange Rows.goapGuessSpec).at F).post enc Tryd.prog Tryd.f4 false true false false) := by
  obtain ⟨places, hx⟩ := reads os enc
  refine returnsInHanded_of_row (C := Tryd.checked) (s := OpenSpec.ofChange Rows.goapGuessSpec) own started (by kernel_rfl) Tryd.func4
    (witness_row_atRef (enc := enc) (C := Tryd.checked) false (laidWorld os) #[.agg #[.string ByteArray.empty, .slice none 0 0, .slice none 0 0, .slice none 0 0], .slice none 0 0, .int .i64 0] rfl (by kernel_rfl) (by kernel_rfl) (by kernel_rfl)
      (OpenSpec.preRow_of_cond 8 hx (by kernel_rfl) (fun k hk => by cases hk) (by kernel_rfl) (laid_met os))) ?_
  intro W base args ds gs before hval hW _ _ _ hL _ _
  exact contract H enc W args ds gs before hval hW hL

theorem kInPlace : (Rows.goapGuessRow.inPlace == Tryd.pinned.checked.prog.inPlace 4) = true := by kernel_rfl
theorem kUnfollowed : (Rows.goapGuessRow.unfollowed == Tryd.pinned.checked.prog.unfollowed 4) = true := by kernel_rfl
theorem kRecurses : (Rows.goapGuessRow.recurses == Tryd.pinned.checked.prog.recurses 4) = true := by kernel_rfl
theorem kNamed : (Rows.goapGuessRow.named == Tryd.pinned.checked.prog.varsNamed 4) = true := by kernel_rfl
theorem closed : joinedFacts Tryd.pinned.checked.prog 4 Tryd.f4 (OpenSpec.ofChange Rows.goapGuessSpec).bare Rows.goapGuessRow = true := by
  unfold joinedFacts
  rw [kInPlace, kUnfollowed, kRecurses, kNamed]
  kernel_rfl

theorem said : Rows.GoapGuessSaid :=
  OpenClaim.holds_of_cond 4 Tryd.f4 rfl rfl rfl rfl rfl rfl rfl ⟨rfl, rfl, rfl, rfl, rfl⟩ rfl rfl rfl rfl rfl (by kernel_rfl) Tryd.func4 closed
    (of_decide_eq_true (by kernel_rfl)) (by unfold Func.isWrapper; first | (rw [if_pos (by decide +kernel)]; kernel_rfl) | (rw [if_neg (by decide +kernel)]; exact ⟨rfl, rfl⟩))
    (fun os started H enc _ F => by rw [OpenClaim.pre_eq_preRow]; exact lifted os started H enc F)

end Go.Proofs.YtpaadclighadaaaDoor.GoapGuess
