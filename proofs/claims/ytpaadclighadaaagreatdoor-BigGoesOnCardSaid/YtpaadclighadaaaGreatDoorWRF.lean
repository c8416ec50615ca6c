/- Small trees, ticked: the trees, and the calls that do not hang on them. -/
import Derived.Test.YtpaadclighadaaaGreatDoorCodesR
import Derived.Test.YtpaadclighadaaaGreatDoorAb5
namespace Go.Proofs.YtpaadclighadaaaGreatDoor.CodesR
open Go Go.Ab
set_option maxRecDepth 100000

def i64 (n : Int) : V := .int .i64 n
def leafV (s : List Nat) : V := .agg [i64 9, i64 0, i64 0, .str s, i64 0, i64 0, .str [], .nilsl, .nilsl, .nilsl]
def treeV (k n : Int) (kids : V) : V := .agg [i64 k, i64 n, i64 0, .str [], i64 0, i64 0, .str [], .nilsl, kids, .nilsl]
def envV (s : List Nat) (o : Int) : V := .agg [i64 0, i64 0, i64 0, .nilsl, .fsl [.agg [.str s, i64 o]] none, .nilsl]
def flatV (k n last up : Int) (s : List Nat) : V := .agg [i64 k, i64 n, i64 0, i64 last, i64 up, .str s, i64 0, i64 0, .str [], .nilsl, .nilsl]
def deedV (s : List Nat) (o : Int) : V := .agg [i64 1, i64 o, .str s, .str [], i64 0, i64 0, i64 0, .str [], .cpx .f64 0 0]

/-! a repeat of the action x -/
def repV (n : Int) : V := treeV 6 n (.fsl [leafV [120]] none)
def repF (n : Int) : V := .fsl [flatV 6 n 2 (-1) [], flatV 9 0 2 0 [120]] none
/-! a row of the first n actions -/
def nameOf (i : Nat) : List Nat := [[97, 98, 99, 101, 102, 103, 104, 105, 106, 107, 108, 109].getD i 0]
def up (f : Nat → V) : Nat → Nat → List V
  | 0, _ => []
  | k + 1, i => f i :: up f k (i + 1)
def rowV (n : Nat) : V := treeV 2 0 (.fsl (up (fun i => leafV (nameOf i)) n 0) none)
def rowF (n : Nat) : V := .fsl (flatV 2 0 (n + 1 : Nat) (-1) [] :: up (fun i => flatV 9 0 (i + 2 : Nat) 0 (nameOf i)) n 0) none

/-! which tree is it? -/
def repOf (v : V) : Option Int := match v with
  | .agg (_ :: .int .i64 n :: _) => (match V.beq v (repV n) with
    | true => some n
    | false => none)
  | _ => none
def isA (u : V) : Option Out → Bool
  | some (.ret v) => V.beq v u
  | _ => false
theorem isA_spec {u : V} {q : Option Out} (h : isA u q = true) : q = some (.ret u) := by
  unfold isA at h
  split at h
  · rename_i v
    have := beq_sound _ _ h
    subst this
    rfl
  · cases h
def isV (u : V) : Option V → Bool
  | some v => V.beq v u
  | _ => false
theorem isV_spec {u : V} {q : Option V} (h : isV u q = true) : q = some u := by
  unfold isV at h
  split at h
  · rename_i v
    have := beq_sound _ _ h
    subst this
    rfl
  · cases h
def upto (p : Nat → Bool) : Nat → Bool
  | 0 => true
  | k + 1 => match p k with
    | true => upto p k
    | false => false
theorem upto_spec {p : Nat → Bool} : ∀ {n : Nat}, upto p n = true → ∀ i, i < n → p i = true
  | n + 1, h, i, hi => by
    unfold upto at h
    split at h
    · rename_i hp
      rcases Nat.lt_succ_iff_lt_or_eq.1 hi with h1 | rfl
      · exact upto_spec h i h1
      · exact hp
    · cases h

/-! the words -/
theorem words_w : CallW D 294 wordsVA Heap.empty fun v _ => v = wordsV := evalW (n := 100000) (isA_spec (by kernel_rfl))
theorem words_low : V.low 0 wordsV = true := by kernel_rfl
theorem wordsA_low : V.lows 0 wordsVA = true := by kernel_rfl
theorem alive_w : CallW D 14 [] Heap.empty fun v _ => v = .bool true := evalW (n := 100000) (isA_spec (by kernel_rfl))
def e294 (a : List V) : Option V := match V.beqs a wordsVA with
  | true => some wordsV
  | false => none
theorem e294_ok : Said D 294 e294 := by
  intro a u h
  unfold e294 at h
  split at h
  · rename_i ha
    have ha := beqs_sound _ _ ha
    subst ha
    cases h
    exact ⟨wordsA_low, words_low, words_w⟩
  · cases h
def e14 : List V → Option V
  | [] => some (.bool true)
  | _ => none
theorem e14_ok : Said D 14 e14 := by
  intro a u h
  unfold e14 at h
  split at h
  · cases h
    exact ⟨rfl, rfl, alive_w⟩
  · cases h
def l1 : List (Nat × (List V → Option V)) := [(294, e294), (14, e14)]
noncomputable def D1 : OCtx := over D l1
theorem l1_ok : ∀ p ∈ l1, Said D p.1 p.2 := by
  intro p hp
  simp only [l1, List.mem_cons, List.not_mem_nil, or_false] at hp
  rcases hp with rfl | rfl
  · exact e294_ok
  · exact e14_ok

end Go.Proofs.YtpaadclighadaaaGreatDoor.CodesR
