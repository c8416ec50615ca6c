/- A clock: what is given; the law's pieces. -/
import Derived.Test.YtfbikhkmamdjmaaGreatDoorWC1
namespace Go.Proofs.YtfbikhkmamdjmaaGreatDoor.CodesW
open Go Go.Ab
set_option maxRecDepth 100000
set_option maxHeartbeats 1600000

def e11 : List V → Option V
  | [] => some (.bool true)
  | _ => none
def e30 : List V → Option V
  | [.int .i64 a, .int .i64 b] => some (i64 (addM a b))
  | _ => none
def e137 : List V → Option V
  | [.agg [.int .i64 (.ofNat 0), .int .i64 _, .int .i64 (.ofNat 0), .str [], .cpx .f64 0 0]] => some (.bool true)
  | _ => none
theorem e11_ok : Said D1 11 e11 := by
  intro a u h
  unfold e11 at h
  split at h
  · cases h
    exact ⟨rfl, rfl, alive_w⟩
  · cases h
theorem e30_ok : Said D1 30 e30 := by
  intro a u h
  unfold e30 at h
  split at h
  · rename_i a b
    cases h
    exact ⟨rfl, rfl, (add_pu a b Heap.empty fine0).mono fun _ _ hc => hc.1⟩
  · cases h
theorem e137_ok : Said D1 137 e137 := by
  intro a u h
  unfold e137 at h
  split at h
  · rename_i n
    cases h
    exact ⟨rfl, rfl, (rightV_pu n Heap.empty fine0).mono fun _ _ hc => hc.1⟩
  · cases h
def l2 : List (Nat × (List V → Option V)) := [(11, e11), (30, e30), (137, e137)]
noncomputable def D2 : OCtx := over D1 l2
theorem l2_ok : ∀ p ∈ l2, Said D1 p.1 p.2 := by
  intro p hp
  simp only [l2, List.mem_cons, List.not_mem_nil, or_false] at hp
  rcases hp with rfl | rfl | rfl
  · exact e11_ok
  · exact e30_ok
  · exact e137_ok
/-! the tree of the law may be ticked -/
def flatV (k e p : Int) (s : List Nat) (x : Int) : V := .agg [i64 k, i64 0, i64 0, i64 e, i64 p, .str s, i64 x, i64 0, .str [], .nilsl, .nilsl]
def treeV : V := .fsl [flatV 0 5 (-1) [] 0, flatV 13 2 0 [] 0, flatV 13 3 0 [] 0, flatV 13 4 0 [] 0, flatV 8 5 0 [97] 5] none
theorem right_w : CallW D2 19 [treeV] Heap.empty fun v _ => v = .bool true := evalW (n := 100000) (by kernel_rfl)
def e19 (a : List V) : Option V := match V.beqs a [treeV] with
  | true => some (.bool true)
  | false => none
theorem e19_ok : SaidF D2 19 e19 := by
  intro a u h
  unfold e19 at h
  split at h
  · rename_i hs
    have := beqs_sound _ _ hs
    subst this
    cases h
    exact ⟨rfl, right_w⟩
  · cases h
def l3 : List (Nat × (List V → Option V)) := [(19, e19)]
noncomputable def D3 : OCtx := overF D2 l3
theorem l3_ok : ∀ p ∈ l3, SaidF D2 p.1 p.2 := by
  intro p hp
  simp only [l3, List.mem_cons, List.not_mem_nil, or_false] at hp
  rcases hp with rfl
  exact e19_ok
theorem alive_pu : PuF D3 11 [] (.bool true) := PuF.orc (D := D3) (g := fun a h => match rows l2 11 a with
  | some u => some (.ret u, h)
  | none => none) rfl fun _ => rfl
theorem add_any (a b : Int) (h : Heap) : CallW D3 30 [i64 a, i64 b] h fun v h' => v = i64 (addM a b) ∧ h' = h := CallW.orc (D := D3) (g := fun a h => match rows l2 30 a with
  | some u => some (.ret u, h)
  | none => none) rfl rfl ⟨rfl, rfl⟩
theorem addM_zero {y : Int} (h0 : 0 ≤ y) (h1 : y ≤ 1099511627776) : addM 0 y = y := by
  unfold addM
  rw [wrap_i64 (n := 9223372036854775807 - y) (by omega) (by omega), if_neg (by omega), if_neg (by omega), Int.zero_add, wrap_i64 (by omega) (by omega)]
/-- the first sum, of a world with so many blocks: nothing and the number that is given -/
noncomputable def addA (n0 : Nat) (y0 : Int) (args : List V) (h : Heap) (a b : List V) : Option (V × Heap × List V × List V) := match args with
  | [.int .i64 x, .int .i64 y] => (match Nat.beq h.next n0 with
    | true => some (.int .i64 y0, h, .int .i64 y :: .int .i64 x :: a, .int .i64 y0 :: .int .i64 0 :: b)
    | false => some (.int .i64 (addM x y), h, a, b))
  | _ => none
theorem add_ans {n0 : Nat} {y0 : Int} (h0 : 0 ≤ y0) (h1 : y0 ≤ 1099511627776) : AnsOk D3 30 (addA n0 y0) := fun args h a b v h' a' b' e he => by
  unfold addA at e
  split at e
  · rename_i x y
    split at e
    · simp only [Option.some.injEq, Prod.mk.injEq] at e
      obtain ⟨rfl, rfl, rfl, rfl⟩ := e
      simp only [List.cons.injEq, V.int.injEq, true_and] at he
      obtain ⟨rfl, rfl, h2⟩ := he
      refine ⟨h2, ?_⟩
      have := add_any 0 y h
      rw [addM_zero h0 h1] at this
      exact this
    · simp only [Option.some.injEq, Prod.mk.injEq] at e
      obtain ⟨rfl, rfl, rfl, rfl⟩ := e
      exact ⟨he, add_any x y h⟩
  · cases e
/-- a call without numbers that are not known, evaluated as ever -/
noncomputable def fastA (f : Nat) (args : List V) (h : Heap) (a b : List V) : Option (V × Heap × List V × List V) := match callFast D3 100000 f args h with
  | some (.ret v, h') => some (v, h', a, b)
  | _ => none
theorem fast_ans (f : Nat) : AnsOk D3 f (fastA f) := fun args h a b v h' a' b' e he => by
  unfold fastA at e
  split at e
  · rename_i v2 h2 hq
    simp only [Option.some.injEq, Prod.mk.injEq] at e
    obtain ⟨rfl, rfl, rfl, rfl⟩ := e
    exact ⟨he, v2, h2, ⟨100000, hq⟩, rfl, rfl⟩
  · cases e
noncomputable def altC (n0 : Nat) (y0 : Int) (f : Nat) : Option (List V → Heap → List V → List V → Option (V × Heap × List V × List V)) := match Nat.beq f 30 with
  | true => some (addA n0 y0)
  | false => (match Nat.beq f 149 with
    | true => some (twoS v149x0 v149x1 1000)
    | false => (match Nat.beq f 13 with
      | true => some (fastA 13)
      | false => none))
theorem alt_ok {n0 : Nat} {y0 : Int} (h0 : 0 ≤ y0) (h1 : y0 ≤ 1099511627776) : AltOk D3 (altC n0 y0) := by
  intro f g h
  unfold altC at h
  split at h
  · rename_i hf
    have := Nat.eq_of_beq_eq_true hf
    subst this
    cases h
    exact add_ans h0 h1
  · split at h
    · rename_i hf
      have := Nat.eq_of_beq_eq_true hf
      subst this
      cases h
      exact two_ans rfl
    · split at h
      · rename_i hf
        have := Nat.eq_of_beq_eq_true hf
        subst this
        cases h
        exact fast_ans 13
      · cases h
def H0 : Heap := { Heap.empty with floors := [0] }
/-- so many pieces of a code, and the code behind them -/
def firstN : Nat → ACode → ACode → ACode
  | 0, acc, _ => acc
  | k + 1, acc, .seq a r => firstN k (.seq acc a) r
  | _ + 1, acc, _ => acc
def mid6 : Nat → ACode := fun k => match c6.body with
  | .seq _ (.seq _ (.seq _ (.seq a r))) => firstN k a r
  | _ => .skip
end Go.Proofs.YtfbikhkmamdjmaaGreatDoor.CodesW
