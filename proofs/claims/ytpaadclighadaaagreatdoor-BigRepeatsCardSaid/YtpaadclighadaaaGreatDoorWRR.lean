/- A repeat of an action, ticked from any state. -/
import Derived.Test.YtpaadclighadaaaGreatDoorWRF
namespace Go.Proofs.YtpaadclighadaaaGreatDoor.CodesR
open Go Go.Ab
set_option maxRecDepth 100000

theorem rep_make_all : upto (fun i => isV (repF ((i + 1 : Nat) : Int)) (outF (callFast D1 100000 48 [repV ((i + 1 : Nat) : Int)] Heap.empty))) 20 = true := by kernel_rfl
theorem rep_own (n : Int) : CallW D1 91 [repF n] Heap.empty fun v h1 => V.own v = true ∧ Go.Ab.freeze h1.clean 0 fuelF v = some (repF n) := evalF (n := 100000) (by kernel_rfl)
def repFOf (v : V) : Option Int := match v with
  | .fsl (.agg (_ :: .int .i64 n :: _) :: _) _ => (match V.beq v (repF n) with
    | true => some n
    | false => none)
  | _ => none
theorem repOf_eq {v : V} {n : Int} (h : repOf v = some n) : v = repV n := by
  unfold repOf at h
  split at h
  · split at h
    · rename_i hb
      cases h
      exact beq_sound _ _ hb
    · cases h
  · cases h
theorem repFOf_eq {v : V} {n : Int} (h : repFOf v = some n) : v = repF n := by
  unfold repFOf at h
  split at h
  · split at h
    · rename_i hb
      cases h
      exact beq_sound _ _ hb
    · cases h
  · cases h
def inR : Int → Bool
  | .ofNat (k + 1) => Nat.blt k 20
  | _ => false
def e48 : List V → Option V
  | [v] => match repOf v with
    | some n => (match inR n with
      | true => some (repF n)
      | false => none)
    | none => none
  | _ => none
def e91 : List V → Option V
  | [v] => (repFOf v).map repF
  | _ => none
def e49 : List V → Option V
  | [v] => match repFOf v with
    | some n => (match inR n with
      | true => some (.bool true)
      | false => none)
    | none => none
  | _ => none
theorem e48_ok : SaidN D1 48 e48 := by
  intro a u h
  unfold e48 at h
  split at h
  · split at h
    · rename_i n h1
      have := repOf_eq h1
      subst this
      split at h
      · rename_i hr
        cases h
        unfold inR at hr
        split at hr
        · rename_i k
          have hk : k < 20 := by simpa [Nat.blt_eq] using hr
          exact evalF (n := 100000) (isV_spec (upto_spec rep_make_all k hk))
        · cases hr
      · cases h
    · cases h
  · cases h
theorem e91_ok : SaidN D1 91 e91 := by
  intro a u h
  unfold e91 at h
  split at h
  · obtain ⟨n, h1, rfl⟩ := map_some h
    rw [repFOf_eq h1]
    exact rep_own n
  · cases h
def l3 : List (Nat × (List V → Option V)) := [(48, e48), (91, e91)]
noncomputable def D2 : OCtx := overF D1 l3
theorem l3_ok : ∀ p ∈ l3, SaidN D1 p.1 p.2 := by
  intro p hp
  simp only [l3, List.mem_cons, List.not_mem_nil, or_false] at hp
  rcases hp with rfl | rfl
  · exact e48_ok
  · exact e91_ok
theorem rep_right_all : upto (fun i => isA (.bool true) (out1 (callFast D2 100000 49 [repF ((i + 1 : Nat) : Int)] Heap.empty))) 20 = true := by kernel_rfl
theorem e49_ok : Said D2 49 e49 := by
  intro a u h
  unfold e49 at h
  split at h
  · split at h
    · rename_i n h1
      have := repFOf_eq h1
      subst this
      split at h
      · rename_i hr
        cases h
        unfold inR at hr
        split at hr
        · rename_i k
          have hk : k < 20 := by simpa [Nat.blt_eq] using hr
          exact ⟨rfl, rfl, evalW (n := 100000) (isA_spec (upto_spec rep_right_all k hk))⟩
        · cases hr
      · cases h
    · cases h
  · cases h
def l2 : List (Nat × (List V → Option V)) := [(49, e49)]
noncomputable def D3 : OCtx := over D2 l2
theorem l2_ok : ∀ p ∈ l2, Said D2 p.1 p.2 := by
  intro p hp
  simp only [l2, List.mem_cons, List.not_mem_nil, or_false] at hp
  rcases hp with rfl
  exact e49_ok

/-! ticks -/
def stV (c d : Nat) : V := .fsl [i64 c, i64 d] none
def repA (n c o : Nat) : V := match o with
  | 1 => (match Nat.beq (c + 1) n with
    | true => .agg [i64 1, i64 2, .fsl [deedV [120] 1] none, stV 0 0]
    | false => .agg [i64 3, i64 2, .fsl [deedV [120] 1] none, stV (c + 1) 0])
  | 2 => .agg [i64 2, i64 2, .fsl [deedV [120] 2] none, stV 0 0]
  | _ => .agg [i64 3, i64 2, .fsl [deedV [120] 3] none, stV c 1]
noncomputable def repT (n c o : Nat) (st : V) : Bool := isV (repA n c o) (outF (callFast D3 100000 15 [repV n, st, envV [120] (o : Nat)] Heap.empty))
noncomputable def repTs (n c o : Nat) : Bool := match repT n c o (stV c 0) with
  | true => (match repT n c o (stV c 1) with
    | true => (match c with
      | 0 => repT n c o .nilsl
      | _ => true)
    | false => false)
  | false => false
noncomputable def repAll (n : Nat) : Bool := upto (fun c => upto (fun o => repTs n c (o + 1)) 3) n
end Go.Proofs.YtpaadclighadaaaGreatDoor.CodesR
