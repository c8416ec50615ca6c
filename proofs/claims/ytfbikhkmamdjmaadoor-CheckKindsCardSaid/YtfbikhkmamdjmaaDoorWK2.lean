/- Expressions: the tree, and whether it is big. -/
import Derived.Test.YtfbikhkmamdjmaaDoorWK1
namespace Go.Proofs.YtfbikhkmamdjmaaDoor.CodesK
open Go Go.Ab
set_option maxHeartbeats 800000
set_option maxRecDepth 100000

def In64 (n : Int) : Prop := -9223372036854775808 ≤ n ∧ n ≤ 9223372036854775807
theorem o_max {h : Heap} {a b : Int} {k : IntKind} : Does (.mm true [.v (.int k a), .v (.int k b)]) h (.int k (max a b)) h := by
  refine ⟨?_⟩; rw [op1v]
  have : (if b > a then b else a) = max a b := by split <;> omega
  simp only [op1, List.map_cons, List.map_nil, ev, mmAll, mm2, if_true, Option.bind_some, Option.map_some, this]
theorem o_loadA {n : Nat} {cs : List V} {h : Heap} (hn : Nat.beq (lenL cs) n = true) : Does (.load n true (.v (.fptr cs))) h (.agg cs) h := by
  have := Nat.eq_of_beq_eq_true hn
  rw [lenL_eq] at this
  subst this
  refine ⟨?_⟩; rw [op1v]
  simp [op1, ev, Heap.at, Go.Ab.part]
theorem fz_at {α : Type} {f : α → V} {l : List α} {d : α} (n : Nat) (hn : n < l.length) : (l.map f)[n]? = some (f (l.getD n d)) := by
  rw [List.getElem?_map, List.getElem?_eq_getElem hn]
  simp [List.getD, List.getElem?_eq_getElem hn]
theorem getD_mem {α : Type} {l : List α} {n : Nat} {d : α} (h : n < l.length) : l.getD n d ∈ l := by
  simp only [List.getD, List.getElem?_eq_getElem h, Option.getD_some]
  exact List.getElem_mem h

/-- an expression, as it is handed in: u is its row of parts -/
inductive EX where
  | mk (k n : Int) (name : List Nat) (kids : List EX) (u : V)
def EX.k : EX → Int | .mk k _ _ _ _ => k
def EX.n : EX → Int | .mk _ n _ _ _ => n
def EX.name : EX → List Nat | .mk _ _ s _ _ => s
def EX.kids : EX → List EX | .mk _ _ _ l _ => l
def EX.u : EX → V | .mk _ _ _ _ u => u
def EX.cells (x : EX) : List V := [i64 x.k, i64 x.n, .str x.name, x.u]
def EX.v (x : EX) : V := .agg x.cells
instance : Inhabited EX := ⟨.mk 0 0 [] [] .nilsl⟩
inductive EX.Ok : EX → Prop
  | mk {x : EX} (hk : In64 x.k) (hn : In64 x.n) (hu : IsFz x.u (x.kids.map EX.v)) (h : ∀ y ∈ x.kids, EX.Ok y) : EX.Ok x
theorem EX.Ok.kn {x : EX} (h : x.Ok) : In64 x.k ∧ In64 x.n := by cases h; exact ⟨by assumption, by assumption⟩
theorem EX.Ok.fz {x : EX} (h : x.Ok) : IsFz x.u (x.kids.map EX.v) := by cases h; assumption
theorem EX.Ok.kid {x : EX} (h : x.Ok) {i : Nat} (hi : i < x.kids.length) : (x.kids.getD i default).Ok := by
  cases h with
  | mk hk hn hu h => exact h _ (getD_mem hi)
theorem all_drop {p : EX → Bool} {l : List EX} {i : Nat} (hi : i < l.length) : (l.drop i).all p = (p (l.getD i default) && (l.drop (i + 1)).all p) := by
  rw [List.drop_eq_getElem_cons hi]
  simp only [List.all_cons, List.getD, List.getElem?_eq_getElem hi, Option.getD_some]
theorem any_drop {p : EX → Bool} {l : List EX} {i : Nat} (hi : i < l.length) : (l.drop i).any p = (p (l.getD i default) || (l.drop (i + 1)).any p) := by
  rw [List.drop_eq_getElem_cons hi]
  simp only [List.any_cons, List.getD, List.getElem?_eq_getElem hi, Option.getD_some]

def bigF : Nat → EX → Bool
  | 0, _ => true
  | f + 1, x => decide (4 < x.kids.length) || (decide (60 < x.name.length) || x.kids.any (bigF f))
theorem big_pu : ∀ (f : Nat) (x : EX), f ≤ 46 → x.Ok → PuF D1 11 [x.v, i64 (46 - f)] (.bool (bigF f x))
  | 0, x, _, hx => by
    refine PuF.tidy rfl rfl rfl rfl rfl fun h hf => ?_
    repeat' (first
        | refine WS.near rfl (o_lenZ hx.fz) rfl ?_ | refine W.seq ?_ | refine W.region ?_ | refine WS.nil ?_ | refine W.skip ?_ | refine W.block ?_ | refine W.ret ?_ | refine W.exit ?_ | refine W.yes rfl rfl ?_ | refine W.no rfl rfl ?_ | refine W.fork rfl (fun _ => ?_) (fun _ => ?_) | refine WS.guardT rfl ?_ | refine WS.guardF rfl rfl rfl ?_ | refine WS.guardK rfl (fun _ => ?_) (fun _ => ?_) | refine WS.near rfl o_mov rfl ?_ | refine WS.near rfl o_pickT rfl ?_ | refine WS.near rfl o_pickF rfl ?_ | refine WS.near rfl o_lss rfl ?_ | refine WS.near rfl o_gtr rfl ?_ | refine WS.near rfl o_lenS rfl ?_ | refine WS.near rfl o_faddr rfl ?_ | refine WS.near rfl (o_loadH rfl) rfl ?_ | refine WS.near rfl (o_boxH 0 rfl) rfl ?_ | refine WS.near rfl (o_add (by omega) (by omega)) rfl ?_ | fail)
    all_goals first | exact ⟨_, rfl, fin_bool rfl⟩ | (exfalso; omega)
  | f + 1, x, hf46, hx => by
    have hkm : (x.kids.map EX.v).length = x.kids.length := List.length_map ..
    have e2 : bigF (f + 1) x = (decide (4 < x.kids.length) || (decide (60 < x.name.length) || x.kids.any (bigF f))) := rfl
    refine PuF.tidy rfl rfl rfl rfl rfl fun h hf => ?_
    repeat' (first
        | refine WS.near rfl (o_lenZ hx.fz) rfl ?_ | refine W.seq ?_ | refine W.region ?_ | refine WS.nil ?_ | refine W.skip ?_ | refine W.block ?_ | refine W.ret ?_ | refine W.exit ?_ | refine W.yes rfl rfl ?_ | refine W.no rfl rfl ?_ | refine W.fork rfl (fun _ => ?_) (fun _ => ?_) | refine WS.guardT rfl ?_ | refine WS.guardF rfl rfl rfl ?_ | refine WS.guardK rfl (fun _ => ?_) (fun _ => ?_) | refine WS.near rfl o_mov rfl ?_ | refine WS.near rfl o_pickT rfl ?_ | refine WS.near rfl o_pickF rfl ?_ | refine WS.near rfl o_lss rfl ?_ | refine WS.near rfl o_gtr rfl ?_ | refine WS.near rfl o_lenS rfl ?_ | refine WS.near rfl o_faddr rfl ?_ | refine WS.near rfl (o_loadH rfl) rfl ?_ | refine WS.near rfl (o_boxH 0 rfl) rfl ?_ | refine WS.near rfl (o_add (by omega) (by omega)) rfl ?_ | fail)
    · exfalso; omega
    · rename_i h1 h2
      have h3 : 4 < x.kids.length := by omega
      exact ⟨_, rfl, fin_bool (by rw [e2, decide_eq_true h3]; rfl)⟩
    · rename_i h1 h2 h3
      have h4 : 60 < x.name.length := by omega
      exact ⟨_, rfl, fin_bool (by rw [e2, decide_eq_true h4]; simp)⟩
    rename_i h1 h2 h3
    rw [decide_eq_false (show ¬ 4 < x.kids.length by omega), decide_eq_false (show ¬ 60 < x.name.length by omega), Bool.false_or, Bool.false_or] at e2
    refine W.loop (fun i : Nat => [(1, i64 (46 - ((f + 1 : Nat) : Int))), (2, .mptr (h.next + 0) 0), (4, .int .i64 (i : Nat))]) (fun _ => hp h [some x.cells])
      (fun i => i ≤ x.kids.length ∧ bigF (f + 1) x = (x.kids.drop i).any (bigF f)) (fun i => x.kids.length - i)
      0 ⟨Nat.zero_le _, by rw [List.drop_zero]; exact e2⟩ ⟨rfl, rfl, rfl, trivial⟩ rfl ?_
    rintro i ⟨hi, hs⟩
    repeat' (first
        | refine WS.near rfl (o_lenZ hx.fz) rfl ?_ | refine W.seq ?_ | refine W.region ?_ | refine WS.nil ?_ | refine W.skip ?_ | refine W.block ?_ | refine W.ret ?_ | refine W.exit ?_ | refine W.yes rfl rfl ?_ | refine W.no rfl rfl ?_ | refine W.fork rfl (fun _ => ?_) (fun _ => ?_) | refine WS.guardT rfl ?_ | refine WS.guardF rfl rfl rfl ?_ | refine WS.guardK rfl (fun _ => ?_) (fun _ => ?_) | refine WS.near rfl o_mov rfl ?_ | refine WS.near rfl o_pickT rfl ?_ | refine WS.near rfl o_pickF rfl ?_ | refine WS.near rfl o_lss rfl ?_ | refine WS.near rfl o_gtr rfl ?_ | refine WS.near rfl o_lenS rfl ?_ | refine WS.near rfl o_faddr rfl ?_ | refine WS.near rfl (o_loadH rfl) rfl ?_ | refine WS.near rfl (o_boxH 0 rfl) rfl ?_ | refine WS.near rfl (o_add (by omega) (by omega)) rfl ?_ | fail)
    · have hlt : i < x.kids.length := by omega
      rw [any_drop hlt] at hs
      have hy := hx.kid hlt
      refine WS.near rfl (o_iaddrZ i hx.fz rfl (fz_at (d := default) i hlt) rfl) rfl ?_
      generalize x.kids.getD i default = y at hs hy ⊢
      have e1 : (i : Int) + 1 = ((i + 1 : Nat) : Int) := by omega
      have ed : (46 - ((f + 1 : Nat) : Int)) + 1 = 46 - (f : Nat) := by omega
      have ih := big_pu f y (by omega) hy
      rw [← ed] at ih
      repeat' (first
          | refine WS.near rfl (o_loadA rfl) rfl ?_ | refine W.seq ?_ | refine W.region ?_ | refine WS.nil ?_ | refine W.skip ?_ | refine W.block ?_ | refine W.ret ?_ | refine W.exit ?_ | refine W.yes rfl rfl ?_ | refine W.no rfl rfl ?_ | refine W.fork rfl (fun _ => ?_) (fun _ => ?_) | refine WS.guardT rfl ?_ | refine WS.guardF rfl rfl rfl ?_ | refine WS.guardK rfl (fun _ => ?_) (fun _ => ?_) | refine WS.near rfl o_mov rfl ?_ | refine WS.near rfl o_pickT rfl ?_ | refine WS.near rfl o_pickF rfl ?_ | refine WS.near rfl o_lss rfl ?_ | refine WS.near rfl o_gtr rfl ?_ | refine WS.near rfl o_lenS rfl ?_ | refine WS.near rfl o_faddr rfl ?_ | refine WS.near rfl (o_loadH rfl) rfl ?_ | refine WS.near rfl (o_boxH 0 rfl) rfl ?_ | refine WS.near rfl (o_add (by omega) (by omega)) rfl ?_ | fail)
      cases hb : bigF f y with
      | true =>
        rw [hb] at ih hs
        refine WS.puF hf rfl rfl ih ?_
        repeat' (first
            | refine W.seq ?_ | refine W.region ?_ | refine WS.nil ?_ | refine W.skip ?_ | refine W.block ?_ | refine W.ret ?_ | refine W.exit ?_ | refine W.yes rfl rfl ?_ | refine W.no rfl rfl ?_ | refine W.fork rfl (fun _ => ?_) (fun _ => ?_) | refine WS.guardT rfl ?_ | refine WS.guardF rfl rfl rfl ?_ | refine WS.guardK rfl (fun _ => ?_) (fun _ => ?_) | refine WS.near rfl o_mov rfl ?_ | refine WS.near rfl o_pickT rfl ?_ | refine WS.near rfl o_pickF rfl ?_ | refine WS.near rfl o_lss rfl ?_ | refine WS.near rfl o_gtr rfl ?_ | refine WS.near rfl o_lenS rfl ?_ | refine WS.near rfl o_faddr rfl ?_ | refine WS.near rfl (o_loadH rfl) rfl ?_ | refine WS.near rfl (o_boxH 0 rfl) rfl ?_ | refine WS.near rfl (o_add (by omega) (by omega)) rfl ?_ | fail)
        exact ⟨_, rfl, fin_bool (by rw [hs]; rfl)⟩
      | false =>
        rw [hb] at ih hs
        rw [Bool.false_or] at hs
        refine WS.puF hf rfl rfl ih ?_
        repeat' (first
            | refine W.seq ?_ | refine W.region ?_ | refine WS.nil ?_ | refine W.skip ?_ | refine W.block ?_ | refine W.ret ?_ | refine W.exit ?_ | refine W.yes rfl rfl ?_ | refine W.no rfl rfl ?_ | refine W.fork rfl (fun _ => ?_) (fun _ => ?_) | refine WS.guardT rfl ?_ | refine WS.guardF rfl rfl rfl ?_ | refine WS.guardK rfl (fun _ => ?_) (fun _ => ?_) | refine WS.near rfl o_mov rfl ?_ | refine WS.near rfl o_pickT rfl ?_ | refine WS.near rfl o_pickF rfl ?_ | refine WS.near rfl o_lss rfl ?_ | refine WS.near rfl o_gtr rfl ?_ | refine WS.near rfl o_lenS rfl ?_ | refine WS.near rfl o_faddr rfl ?_ | refine WS.near rfl (o_loadH rfl) rfl ?_ | refine WS.near rfl (o_boxH 0 rfl) rfl ?_ | refine WS.near rfl (o_add (by omega) (by omega)) rfl ?_ | fail)
        exact ⟨i + 1, ⟨by omega, hs⟩, by show x.kids.length - (i + 1) < x.kids.length - i; omega, ⟨rfl, rfl, congrArg (fun z => some (V.int .i64 z)) e1, trivial⟩, rfl⟩
    · have hge : x.kids.drop i = [] := List.drop_eq_nil_of_le (by omega)
      rw [hge] at hs
      exact ⟨_, rfl, fin_bool hs.symm⟩
end Go.Proofs.YtfbikhkmamdjmaaDoor.CodesK
