/- Expressions: the tree, and whether it is big. -/
import Derived.Test.YtfbikhkmamdjmaaDoorWK1
namespace Go.Proofs.YtfbikhkmamdjmaaDoor.CodesK
open Go Go.Ab
set_option maxHeartbeats 800000
set_option maxRecDepth 100000

def In64 (n : Int) : Prop := -9223372036854775808 ≤ n ∧ n ≤ 9223372036854775807
theorem o_max {h : Heap} {a b : Int} {k : IntKind} : Does (.mm true [.v (.int k a), .v (.int k b)]) h (.int k (max a b)) h := by
  refine ⟨?_⟩; rw [op1v]
  have : (if b > a then b else a) = max a b := by split <;> omega
  simp only [op1, List.map_cons, List.map_nil, ev, mmAll, mm2, if_true, Option.bind_some, Option.map_some, this]
theorem o_loadA {n : Nat} {cs : List V} {h : Heap} (hn : Nat.beq (lenL cs) n = true) : Does (.load n true (.v (.fptr cs))) h (.agg cs) h := by
  have := Nat.eq_of_beq_eq_true hn
  rw [lenL_eq] at this
  subst this
  refine ⟨?_⟩; rw [op1v]
  simp [op1, ev, Heap.at, Go.Ab.part]
theorem fz_at {α : Type} {f : α → V} {l : List α} {d : α} (n : Nat) (hn : n < l.length) : (l.map f)[n]? = some (f (l.getD n d)) := by
  rw [List.getElem?_map, List.getElem?_eq_getElem hn]
  simp [List.getD, List.getElem?_eq_getElem hn]
theorem getD_mem {α : Type} {l : List α} {n : Nat} {d : α} (h : n < l.length) : l.getD n d ∈ l := by
  simp only [List.getD, List.getElem?_eq_getElem h, Option.getD_some]
  exact List.getElem_mem h

/-- an expression, as it is handed in: u is its row of parts -/
inductive EX where
  | mk (k n : Int) (name : List Nat) (kids : List EX) (u : V)
def EX.k : EX → Int | .mk k _ _ _ _ => k
def EX.n : EX → Int | .mk _ n _ _ _ => n
def EX.name : EX → List Nat | .mk _ _ s _ _ => s
def EX.kids : EX → List EX | .mk _ _ _ l _ => l
def EX.u : EX → V | .mk _ _ _ _ u => u
def EX.cells (x : EX) : List V := [i64 x.k, i64 x.n, .str x.name, x.u]
def EX.v (x : EX) : V := .agg x.cells
instance : Inhabited EX := ⟨.mk 0 0 [] [] .nilsl⟩
inductive EX.Ok : EX → Prop
  | mk {x : EX} (hk : In64 x.k) (hn : In64 x.n) (hu : IsFz x.u (x.kids.map EX.v)) (h : ∀ y ∈ x.kids, EX.Ok y) : EX.Ok x
theorem EX.Ok.kn {x : EX} (h : x.Ok) : In64 x.k ∧ In64 x.n := by cases h; exact ⟨by assumption, by assumption⟩
theorem EX.Ok.fz {x : EX} (h : x.Ok) : IsFz x.u (x.kids.map EX.v) := by cases h; assumption
theorem EX.Ok.kid {x : EX} (h : x.Ok) {i : Nat} (hi : i < x.kids.length) : (x.kids.getD i default).Ok := by
  cases h with
  | mk hk hn hu h => exact h _ (getD_mem hi)
theorem all_drop {p : EX → Bool} {l : List EX} {i : Nat} (hi : i < l.length) : (l.drop i).all p = (p (l.getD i default) && (l.drop (i + 1)).all p) := by
  rw [List.drop_eq_getElem_cons hi]
  simp only [List.all_cons, List.getD, List.getElem?_eq_getElem hi, Option.getD_some]
theorem any_drop {p : EX → Bool} {l : List EX} {i : Nat} (hi : i < l.length) : (l.drop i).any p = (p (l.getD i default) || (l.drop (i + 1)).any p) := by
  rw [List.drop_eq_getElem_cons hi]
  simp only [List.any_cons, List.getD, List.getElem?_eq_getElem hi, Option.getD_some]

end Go.Proofs.YtfbikhkmamdjmaaDoor.CodesK
