/- The abstract machine, part 2. What the abstract machine's values and heap are in the model's memory. How memory may change beside the abstract heap. The operations that read and write memory. The operations that build and take apart. Slices' literals, fields, elements, parts of slices. Parts of strings and slices; conversions; what is made at a length. Conversions; what is made at a length; small built-in functions. Rows of cells; small operations. Small operations. Operators. Comparisons with nil and of structs. Appending and copying. Copying, struct comparison, and all operations together. All operations together. All operations together. All operations together. -/
import Derived.Test.YtfbikhkmamdjmaaGreatDoorAb1
import Derived.Laws.AppendOwn
import Derived.Calls
import Derived.Laws.Tables
import Derived.Laws.BytesString
import Derived.Laws.MakeOwn
import Derived.Laws.Bits
import Derived.Laws.Strings
import Derived.Laws.StructEq
import Derived.MapKept
import Derived.DeepKeys3
import Derived.Laws.StandIn
namespace Go.Ab

/-! ### the heap's own laws -/

theorem get_lt {h : Heap} {id : Nat} {b : Blk} (e : h.get id = some b) : id < h.next := by
  unfold Heap.get at e; split at e
  · assumption
  · cases e

theorem get_new_same (h : Heap) (b : Blk) : (h.new b).get h.next = some b := by
  simp [Heap.get, Heap.new]

theorem get_new_lt {h : Heap} {b : Blk} {id : Nat} (hi : id < h.next) : (h.new b).get id = h.get id := by
  have e : h.next + 1 - 1 - id = (h.next - 1 - id) + 1 := by omega
  simp only [Heap.get, Heap.new, hi, if_true, show id < h.next + 1 by omega, e, List.getElem?_cons_succ]

theorem get_put_same {h : Heap} {id : Nat} (b : Option Blk) (hi : id < h.next) (hl : h.bl.length = h.next) : (h.put id b).get id = b := by
  have : h.next - 1 - id < h.bl.length := by omega
  simp [Heap.get, Heap.put, hi, this]

theorem get_put_ne {h : Heap} {id j : Nat} (b : Option Blk) (hj : j ≠ id) (hi : id < h.next) : (h.put id b).get j = h.get j := by
  unfold Heap.get Heap.put
  by_cases hlt : j < h.next
  · simp only [hlt, if_true]
    rw [List.getElem?_set_ne (by omega)]
  · simp [hlt]

theorem get_tidied {h h0 : Heap} {id : Nat} (hi : id < h0.next) (hn : h0.next ≤ h.next) : (h.tidied h0).get id = h.get id := by
  have e : h.next - h0.next + (h0.next - 1 - id) = h.next - 1 - id := by omega
  simp only [Heap.get, Heap.tidied, hi, if_true, show id < h.next by omega, List.getElem?_drop, e]

theorem cellsOf_get {h : Heap} {id : Nat} {l : List V} (e : h.cellsOf id = some l) : h.get id = some (.cells l) := by
  unfold Heap.cellsOf at e
  split at e
  · cases e; assumption
  · cases e

theorem lows_spec {n : Nat} {l : List V} : V.lows n l = true ↔ ∀ v ∈ l, V.low n v = true := by
  induction l with
  | nil => simp [V.lows]
  | cons v r ih => simp [V.lows, ih]

/-! ### values -/

structure Loc where
  b : Nat
  n : Nat

inductive Rep (w : World) (R : Nat → Prop) (ι : Nat → Option Loc) : V → Value → Prop
  | undef (x : Value) : Rep w R ι .undef x
  | bool (b : Bool) : Rep w R ι (.bool b) (.bool b)
  | int (k : IntKind) (n : Int) : Rep w R ι (.int k n) (.int k n)
  | str (x : ByteArray) : Rep w R ι (.str (x.data.toList.map UInt8.toNat)) (.string x)
  | flt (k : FloatKind) (b : Nat) : Rep w R ι (.flt k b) (.float k b)
  | cpx (k : FloatKind) (a b : Nat) : Rep w R ι (.cpx k a b) (.complex k a b)
  | nilsl : Rep w R ι .nilsl (.slice none 0 0)
  | esl (ad : Addr) (c : Nat) : Rep w R ι .esl (.slice (some ad) 0 c)
  | fsl (es : List V) (c : Option Nat) (a : Addr) (cap sz : Nat) (f : Nat → Value) (hs : a.spot = none) (hR : R a.block) (hlc : es.length ≤ cap)
      (hc : ∀ c', c = some c' → cap = c') (hsz : ∀ e ∈ es, e.cells.length = sz) (hone : ∀ v ∈ es.flatMap V.cells, v.one = true)
      (hlow : V.lows 0 (es.flatMap V.cells) = true)
      (hcell : ∀ (i : Nat) v, (es.flatMap V.cells)[i]? = some v → w.cell? ⟨a.block, a.off + i, none⟩ = some (f i))
      (hr : ∀ (i : Nat) v, (es.flatMap V.cells)[i]? = some v → Rep w R ι v (f i)) : Rep w R ι (.fsl es c) (.slice (some a) es.length cap)
  | msl (id sz off len : Nat) (cap : Option Nat) (loc : Loc) (c : Nat) (hι : ι id = some loc) (hlc : len ≤ c) (hfull : cap = none → (off + c) * sz = loc.n)
      (hcap : ∀ c', cap = some c' → c = c') : Rep w R ι (.msl id sz off len cap) (.slice (some ⟨loc.b, off * sz, none⟩) len c)
  | nilptr : Rep w R ι .nilptr (.pointer none)
  | fptr (cs : List V) (a : Addr) (f : Nat → Value) (hs : a.spot = none) (hR : R a.block) (hone : ∀ v ∈ cs, v.one = true)
      (hlow : V.lows 0 cs = true)
      (hcell : ∀ (i : Nat) v, cs[i]? = some v → w.cell? ⟨a.block, a.off + i, none⟩ = some (f i))
      (hr : ∀ (i : Nat) v, cs[i]? = some v → Rep w R ι v (f i)) : Rep w R ι (.fptr cs) (.pointer (some a))
  | mptr (id off : Nat) (loc : Loc) (hι : ι id = some loc) : Rep w R ι (.mptr id off) (.pointer (some ⟨loc.b, off, none⟩))
  | agg (cs : List V) (xs : List Value) (hl : cs.length = xs.length) (hone : ∀ v ∈ cs, v.one = true)
      (hr : ∀ (i : Nat) v x, cs[i]? = some v → xs[i]? = some x → Rep w R ι v x) : Rep w R ι (.agg cs) (.agg xs.toArray)
  | tup (cs : List V) (xs : List Value) (hl : cs.length = xs.length)
      (hr : ∀ (i : Nat) v x, cs[i]? = some v → xs[i]? = some x → Rep w R ι v x) : Rep w R ι (.tup cs) (.tuple xs.toArray)
  | fn (f : Nat) (pre caps : List V) (xs ys : List Value) (hl : pre.length = xs.length) (hl' : caps.length = ys.length)
      (hr : ∀ (i : Nat) v x, pre[i]? = some v → xs[i]? = some x → Rep w R ι v x)
      (hr' : ∀ (i : Nat) v x, caps[i]? = some v → ys[i]? = some x → Rep w R ι v x) : Rep w R ι (.fn f pre caps) (.func (.func f) xs.toArray ys.toArray)
  | nilfn : Rep w R ι .nilfn .nilFunc
  | ifc (t : Nat) (v : V) (x : Value) (h : Rep w R ι v x) : Rep w R ι (.ifc t v) (.iface t x)
  | nilifc : Rep w R ι .nilifc .nilIface
  | mp (id : Nat) (loc : Loc) (hι : ι id = some loc) : Rep w R ι (.mp id) (.map (some loc.b))
  | nilmp : Rep w R ι .nilmp (.map none)

def RepL (w : World) (R : Nat → Prop) (ι : Nat → Option Loc) (vs : List V) (xs : List Value) : Prop :=
  vs.length = xs.length ∧ ∀ (i : Nat) v x, vs[i]? = some v → xs[i]? = some x → Rep w R ι v x

theorem Rep.mono {w w' : World} {R R' : Nat → Prop} {ι ι' : Nat → Option Loc} (hR : ∀ b, R b → R' b) (hw : ∀ b, R b → w'.heap[b]? = w.heap[b]?)
    (hι : ∀ id loc, ι id = some loc → ι' id = some loc) {v : V} {x : Value} (h : Rep w R ι v x) : Rep w' R' ι' v x := by
  have hcell : ∀ a : Addr, R a.block → w'.cell? a = w.cell? a := fun a ha => World.cell?_of_block (hw _ ha)
  induction h with
  | undef x => exact .undef x
  | bool b => exact .bool b
  | int k n => exact .int k n
  | str x => exact .str x
  | flt k b => exact .flt k b
  | cpx k a b => exact .cpx k a b
  | nilsl => exact .nilsl
  | esl ad c => exact .esl ad c
  | fsl es c a cap sz f hs hRa hlc hc hsz hone hlow hce hr ih =>
    exact .fsl es c a cap sz f hs (hR _ hRa) hlc hc hsz hone hlow (fun i v e => (hcell ⟨a.block, a.off + i, none⟩ hRa).trans (hce i v e)) ih
  | msl id sz off len cap loc c h1 h2 h3 h4 => exact .msl id sz off len cap loc c (hι _ _ h1) h2 h3 h4
  | nilptr => exact .nilptr
  | fptr cs a f hs hRa hone hlow hce hr ih => exact .fptr cs a f hs (hR _ hRa) hone hlow (fun i v e => (hcell ⟨a.block, a.off + i, none⟩ hRa).trans (hce i v e)) ih
  | mptr id off loc h1 => exact .mptr id off loc (hι _ _ h1)
  | agg cs xs hl hone hr ih => exact .agg cs xs hl hone ih
  | tup cs xs hl hr ih => exact .tup cs xs hl ih
  | fn f pre caps xs ys hl hl' hr hr' ih ih' => exact .fn f pre caps xs ys hl hl' ih ih'
  | nilfn => exact .nilfn
  | ifc t v x h ih => exact .ifc t v x ih
  | nilifc => exact .nilifc
  | mp id loc h1 => exact .mp id loc (hι _ _ h1)
  | nilmp => exact .nilmp


mutual
theorem low_mono {n m : Nat} (hnm : n ≤ m) : ∀ v : V, V.low n v = true → V.low m v = true
  | .msl .., h | .mptr .., h | .mp _, h => by simp only [V.low, decide_eq_true_eq] at *; omega
  | .agg cs, h | .tup cs, h => by simp only [V.low] at *; exact lows_mono hnm cs h
  | .fn _ a cs, h => by simp only [V.low, Bool.and_eq_true] at *; exact ⟨lows_mono hnm a h.1, lows_mono hnm cs h.2⟩
  | .ifc _ v, h => by simp only [V.low] at *; exact low_mono hnm v h
  | .undef, _ | .bool _, _ | .int .., _ | .str _, _ | .flt .., _ | .cpx .., _ | .nilsl, _ | .esl, _ | .fsl .., _ | .nilptr, _ | .fptr _, _ | .nilfn, _ | .nilifc, _ | .nilmp, _ => by simp only [V.low]
theorem lows_mono {n m : Nat} (hnm : n ≤ m) : ∀ l : List V, V.lows n l = true → V.lows m l = true
  | [], _ => rfl
  | v :: r, h => by simp only [V.lows, Bool.and_eq_true] at *; exact ⟨low_mono hnm v h.1, lows_mono hnm r h.2⟩
end

theorem low_at {n : Nat} {cs : List V} (hl : V.lows n cs = true) {i : Nat} {v : V} (e : cs[i]? = some v) : V.low n v = true :=
  lows_spec.1 hl v (List.mem_of_getElem? e)

/-- the same values, the names of blocks from n on forgotten -/
theorem Rep.forget {w : World} {R : Nat → Prop} {ι ι' : Nat → Option Loc} {n : Nat}
    (hι : ∀ id, id < n → ι' id = ι id) {v : V} {x : Value} (h : Rep w R ι v x) : V.low n v = true → Rep w R ι' v x := by
  induction h with
  | undef x => exact fun _ => .undef x
  | bool b => exact fun _ => .bool b
  | int k n => exact fun _ => .int k n
  | str x => exact fun _ => .str x
  | flt k b => exact fun _ => .flt k b
  | cpx k a b => exact fun _ => .cpx k a b
  | nilsl => exact fun _ => .nilsl
  | esl ad c => exact fun _ => .esl ad c
  | fsl es c a cap sz f hs hRa hlc hc hsz hone hlow hce hr ih =>
    exact fun _ => .fsl es c a cap sz f hs hRa hlc hc hsz hone hlow hce fun i v e => ih i v e (low_mono (Nat.zero_le _) v (low_at hlow e))
  | msl id sz off len cap loc c h1 h2 h3 h4 =>
    intro h; simp only [V.low, decide_eq_true_eq] at h
    exact .msl id sz off len cap loc c ((hι id h).trans h1) h2 h3 h4
  | nilptr => exact fun _ => .nilptr
  | fptr cs a f hs hRa hone hlow hce hr ih =>
    exact fun _ => .fptr cs a f hs hRa hone hlow hce fun i v e => ih i v e (low_mono (Nat.zero_le _) v (low_at hlow e))
  | mptr id off loc h1 =>
    intro h; simp only [V.low, decide_eq_true_eq] at h
    exact .mptr id off loc ((hι id h).trans h1)
  | agg cs xs hl hone hr ih =>
    intro h; simp only [V.low] at h
    exact .agg cs xs hl hone fun i v x e e' => ih i v x e e' (low_at h e)
  | tup cs xs hl hr ih =>
    intro h; simp only [V.low] at h
    exact .tup cs xs hl fun i v x e e' => ih i v x e e' (low_at h e)
  | fn f pre caps xs ys hl hl' hr hr' ih ih' =>
    intro h; simp only [V.low, Bool.and_eq_true] at h
    exact .fn f pre caps xs ys hl hl' (fun i v x e e' => ih i v x e e' (low_at h.1 e)) (fun i v x e e' => ih' i v x e e' (low_at h.2 e))
  | nilfn => exact fun _ => .nilfn
  | ifc t v x _ ih => intro h; simp only [V.low] at h; exact .ifc t v x (ih h)
  | nilifc => exact fun _ => .nilifc
  | mp id loc h1 =>
    intro h; simp only [V.low, decide_eq_true_eq] at h
    exact .mp id loc ((hι id h).trans h1)
  | nilmp => exact fun _ => .nilmp

theorem lows_of_at {n : Nat} : ∀ {cs : List V}, (∀ (i : Nat) (v : V), cs[i]? = some v → V.low n v = true) → V.lows n cs = true
  | [], _ => rfl
  | v :: r, h => by
    simp only [V.lows, Bool.and_eq_true]
    exact ⟨h 0 v rfl, lows_of_at fun i v e => h (i + 1) v (by simpa using e)⟩

/-- whatever is told of memory leads to blocks that there are -/
theorem Rep.low {w : World} {R : Nat → Prop} {ι : Nat → Option Loc} {n : Nat} (hn : ∀ id, n ≤ id → ι id = none) {v : V} {x : Value}
    (h : Rep w R ι v x) : V.low n v = true := by
  have hlt : ∀ {id loc}, ι id = some loc → id < n := fun {id loc} e => by
    rcases Nat.lt_or_ge id n with h | h
    · exact h
    · rw [hn id h] at e; cases e
  induction h with
  | msl id sz off len cap loc c h1 h2 h3 h4 => simp only [V.low, decide_eq_true_eq]; exact hlt h1
  | mptr id off loc h1 => simp only [V.low, decide_eq_true_eq]; exact hlt h1
  | mp id loc h1 => simp only [V.low, decide_eq_true_eq]; exact hlt h1
  | agg cs xs hl hone hr ih =>
    simp only [V.low]
    exact lows_of_at fun i v e => by
      have hi : i < xs.length := by rw [← hl]; exact (List.getElem?_eq_some_iff.1 e).1
      exact ih i v _ e (List.getElem?_eq_getElem hi)
  | tup cs xs hl hr ih =>
    simp only [V.low]
    exact lows_of_at fun i v e => by
      have hi : i < xs.length := by rw [← hl]; exact (List.getElem?_eq_some_iff.1 e).1
      exact ih i v _ e (List.getElem?_eq_getElem hi)
  | fn f pre caps xs ys hl hl' hr hr' ih ih' =>
    simp only [V.low, Bool.and_eq_true]
    exact ⟨lows_of_at fun i v e => by
      have hi : i < xs.length := by rw [← hl]; exact (List.getElem?_eq_some_iff.1 e).1
      exact ih i v _ e (List.getElem?_eq_getElem hi), lows_of_at fun i v e => by
      have hi : i < ys.length := by rw [← hl']; exact (List.getElem?_eq_some_iff.1 e).1
      exact ih' i v _ e (List.getElem?_eq_getElem hi)⟩
  | ifc t v x _ ih => simpa only [V.low] using ih
  | _ => simp only [V.low]

theorem Rep.oneCell {w : World} {R : Nat → Prop} {ι : Nat → Option Loc} {v : V} {x : Value} (h : Rep w R ι v x) (ho : v.one = true) : x.oneCell' = true := by
  cases h <;> first | rfl | (simp [V.one] at ho)

/-- a value's cells -/
theorem Rep.cells {w : World} {R : Nat → Prop} {ι : Nat → Option Loc} {v : V} {x : Value} (h : Rep w R ι v x) (hne : v.cells ≠ []) :
    RepL w R ι v.cells x.cells.toList ∧ ∀ u ∈ v.cells, u.one = true := by
  have single : ∀ {v : V} {x : Value}, Rep w R ι v x → v.cells = [v] → x.cells = #[x] → v.one = true → RepL w R ι v.cells x.cells.toList ∧ ∀ u ∈ v.cells, u.one = true := by
    intro v x h e1 e2 ho
    rw [e1, e2]
    refine ⟨⟨rfl, fun i u y e e' => ?_⟩, by simpa using ho⟩
    cases i with
    | zero => simp at e e'; subst e; subst e'; exact h
    | succ i => simp at e
  cases h with
  | undef x => exact absurd rfl hne
  | tup cs xs hl hr => exact absurd rfl hne
  | agg cs xs hl hone hr => exact ⟨⟨by simpa [V.cells, Value.cells] using hl, by simpa [V.cells, Value.cells] using hr⟩, hone⟩
  | bool b => exact single (.bool b) rfl rfl rfl
  | int k n => exact single (.int k n) rfl rfl rfl
  | str x => exact single (.str x) rfl rfl rfl
  | flt k b => exact single (.flt k b) rfl rfl rfl
  | cpx k a b => exact single (.cpx k a b) rfl rfl rfl
  | nilsl => exact single .nilsl rfl rfl rfl
  | esl ad c => exact single (.esl ad c) rfl rfl rfl
  | fsl es c a cap sz f h1 h2 h3 h4 h5 h6 h7 h8 h9 => exact single (.fsl es c a cap sz f h1 h2 h3 h4 h5 h6 h7 h8 h9) rfl rfl rfl
  | msl id sz off len cap loc c h1 h2 h3 h4 => exact single (.msl id sz off len cap loc c h1 h2 h3 h4) rfl rfl rfl
  | nilptr => exact single .nilptr rfl rfl rfl
  | fptr cs a f h1 h2 h3 h4 h5 h6 => exact single (.fptr cs a f h1 h2 h3 h4 h5 h6) rfl rfl rfl
  | mptr id off loc h1 => exact single (.mptr id off loc h1) rfl rfl rfl
  | fn f pre caps xs ys h1 h2 h3 h4 => exact single (.fn f pre caps xs ys h1 h2 h3 h4) rfl rfl rfl
  | nilfn => exact single .nilfn rfl rfl rfl
  | ifc t v x h1 => exact single (.ifc t v x h1) rfl rfl rfl
  | nilifc => exact single .nilifc rfl rfl rfl
  | mp id loc h1 => exact single (.mp id loc h1) rfl rfl rfl
  | nilmp => exact single .nilmp rfl rfl rfl

/-! ### the heap -/

/-- what a map's block holds -/
def MapRel (w : World) (R : Nat → Prop) (ι : Nat → Option Loc) (es : List (V × V)) (b : Nat) : Prop :=
  ∃ ents clock, w.heap[b]? = some (.map ents clock) ∧ ents.size = es.length ∧ ∀ (i : Nat) k v, es[i]? = some (k, v) → ∃ me, ents[i]? = some me ∧ Rep w R ι k me.key ∧ Rep w R ι v me.val

theorem MapRel.moveL {w w' : World} {R R' : Nat → Prop} {ι ι' : Nat → Option Loc} {es : List (V × V)} {b b' : Nat} (hb : w'.heap[b']? = w.heap[b]?)
    (hm : ∀ p ∈ es, (∀ x, Rep w R ι p.1 x → Rep w' R' ι' p.1 x) ∧ ∀ x, Rep w R ι p.2 x → Rep w' R' ι' p.2 x) (h : MapRel w R ι es b) : MapRel w' R' ι' es b' := by
  obtain ⟨ents, clock, h1, h2, h3⟩ := h
  refine ⟨ents, clock, hb.trans h1, h2, fun i k v e => ?_⟩
  obtain ⟨me, g1, g2, g3⟩ := h3 i k v e
  obtain ⟨m1, m2⟩ := hm (k, v) (List.mem_of_getElem? e)
  exact ⟨me, g1, m1 _ g2, m2 _ g3⟩

theorem MapRel.move {w w' : World} {R R' : Nat → Prop} {ι ι' : Nat → Option Loc} {es : List (V × V)} {b : Nat} (hb : w'.heap[b]? = w.heap[b]?)
    (hm : ∀ {v x}, Rep w R ι v x → Rep w' R' ι' v x) (h : MapRel w R ι es b) : MapRel w' R' ι' es b := h.moveL hb fun _ _ => ⟨fun _ => hm, fun _ => hm⟩

structure HRel (w : World) (R : Nat → Prop) (ι : Nat → Option Loc) (h : Heap) : Prop where
  len : h.bl.length = h.next
  none : ∀ id, h.next ≤ id → ι id = Option.none
  lt : ∀ b, R b → b < w.heap.size
  cells : ∀ id l loc, h.get id = some (.cells l) → ι id = some loc → ∃ cur e, w.heap[loc.b]? = some (.cells cur e (0, 0)) ∧ cur.size = loc.n ∧ l.length ≤ cur.size ∧
    (∀ v ∈ l, v.one = true) ∧ ∀ (i : Nat) v, l[i]? = some v → ∃ x, cur[i]? = some x ∧ Rep w R ι v x
  maps : ∀ id es loc, h.get id = some (.map es) → ι id = some loc → MapRel w R ι es loc.b
  inj : ∀ id id' blk blk' loc loc', h.get id = some blk → h.get id' = some blk' → ι id = some loc → ι id' = some loc' → id ≠ id' → loc.b ≠ loc'.b
  apart : ∀ id blk loc, h.get id = some blk → ι id = some loc → ¬ R loc.b
  low : ∀ f ∈ h.floors, ∀ id l loc, id < f → h.get id = some (.cells l) → ι id = some loc → V.lows f l = true
  floor : ∀ f ∈ h.floors, f ≤ h.next
  lowM : ∀ f ∈ h.floors, ∀ id es loc, id < f → h.get id = some (.map es) → ι id = some loc → ∀ p ∈ es, V.low f p.1 = true ∧ V.low f p.2 = true

/-- what becomes of memory -/
structure Post (w : World) (R : Nat → Prop) (ι : Nat → Option Loc) (h : Heap) (w' : World) (R' : Nat → Prop) (ι' : Nat → Option Loc) (h' : Heap) : Prop where
  rel : HRel w' R' ι' h'
  sub : ∀ b, R b → R' b
  names : ∀ id, id < h.next → ι' id = ι id
  size : w.heap.size ≤ w'.heap.size
  os : w'.os = w.os
  tape : w'.tape = w.tape
  output : w'.output = w.output
  keep : ∀ b, b < w.heap.size → (∀ id blk loc, h.get id = some blk → ι id = some loc → loc.b ≠ b) → w'.heap[b]? = w.heap[b]?
  own : ∀ id blk loc, h'.get id = some blk → ι' id = some loc → w.heap.size ≤ loc.b ∨ ∃ id0 blk0 loc0, h.get id0 = some blk0 ∧ ι id0 = some loc0 ∧ loc0.b = loc.b
  ghost : ∀ id, id < h.next → ι id = Option.none → h'.get id = h.get id
  next : h.next ≤ h'.next
  floors : h'.floors = h.floors
  news : ∀ b, R' b → R b ∨ w.heap.size ≤ b ∨ ∃ id blk loc, h.get id = some blk ∧ ι id = some loc ∧ loc.b = b

section
variable {w w' w'' : World} {R R' R'' : Nat → Prop} {ι ι' ι'' : Nat → Option Loc} {h h' h'' : Heap}

theorem HRel.ι_lt (hr : HRel w R ι h) {id : Nat} {loc : Loc} (e : ι id = some loc) : id < h.next := by
  rcases Nat.lt_or_ge id h.next with h | hge
  · exact h
  · rw [hr.none id hge] at e; cases e

theorem HRel.blk_lt (hr : HRel w R ι h) {id : Nat} {blk : Blk} {loc : Loc} (e : h.get id = some blk) (f : ι id = some loc) : loc.b < w.heap.size := by
  cases blk with
  | cells l =>
    obtain ⟨cur, t, g1, _⟩ := hr.cells id l loc e f
    exact (Array.getElem?_eq_some_iff.1 g1).1
  | map es =>
    obtain ⟨ents, clock, g1, _⟩ := hr.maps id es loc e f
    exact (Array.getElem?_eq_some_iff.1 g1).1

theorem Post.refl (hr : HRel w R ι h) : Post w R ι h w R ι h :=
  ⟨hr, fun _ h => h, fun _ _ => rfl, Nat.le_refl _, rfl, rfl, rfl, fun _ _ _ => rfl, fun id blk loc e e' => .inr ⟨id, blk, loc, e, e', rfl⟩, fun _ _ _ => rfl, Nat.le_refl _, rfl, fun _ h => .inl h⟩

theorem Post.Rw (hr : HRel w R ι h) (p : Post w R ι h w' R' ι' h') : ∀ b, R b → w'.heap[b]? = w.heap[b]? :=
  fun b hb => p.keep b (hr.lt b hb) fun id blk _ e e' heq => hr.apart id blk _ e e' (heq ▸ hb)

theorem Post.val (hr : HRel w R ι h) (p : Post w R ι h w' R' ι' h') {v : V} {x : Value} (hv : Rep w R ι v x) : Rep w' R' ι' v x :=
  hv.mono p.sub (p.Rw hr) fun id _ e => (p.names id (hr.ι_lt e)).trans e

theorem Post.vals (hr : HRel w R ι h) (p : Post w R ι h w' R' ι' h') {vs : List V} {xs : List Value} (hv : RepL w R ι vs xs) : RepL w' R' ι' vs xs :=
  ⟨hv.1, fun i v x e e' => p.val hr (hv.2 i v x e e')⟩

theorem Post.trans (p : Post w R ι h w' R' ι' h') (q : Post w' R' ι' h' w'' R'' ι'' h'') : Post w R ι h w'' R'' ι'' h'' where
  rel := q.rel
  sub := fun b hb => q.sub b (p.sub b hb)
  names := fun id hi => (q.names id (Nat.lt_of_lt_of_le hi p.next)).trans (p.names id hi)
  size := Nat.le_trans p.size q.size
  os := q.os.trans p.os
  tape := q.tape.trans p.tape
  output := q.output.trans p.output
  keep := fun b hb hno => (q.keep b (Nat.lt_of_lt_of_le hb p.size) fun id blk loc e e' heq => by
    rcases p.own id blk loc e e' with hge | ⟨id0, blk0, loc0, e0, e1, e2⟩
    · omega
    · exact hno id0 blk0 loc0 e0 e1 (e2.trans heq)).trans (p.keep b hb hno)
  own := fun id blk loc e e' => by
    rcases q.own id blk loc e e' with hge | ⟨id0, blk0, loc0, e0, e1, e2⟩
    · exact .inl (Nat.le_trans p.size hge)
    · rcases p.own id0 blk0 loc0 e0 e1 with hge | ⟨id1, blk1, loc1, f0, f1, f2⟩
      · exact .inl (e2 ▸ hge)
      · exact .inr ⟨id1, blk1, loc1, f0, f1, f2.trans e2⟩
  ghost := fun id hi hn => (q.ghost id (Nat.lt_of_lt_of_le hi p.next) ((p.names id hi).trans hn)).trans (p.ghost id hi hn)
  next := Nat.le_trans p.next q.next
  floors := q.floors.trans p.floors
  news := fun b hb => by
    rcases q.news b hb with h | h | ⟨id, blk, loc, e0, e1, e2⟩
    · exact p.news b h
    · exact .inr (.inl (Nat.le_trans p.size h))
    · rcases p.own id blk loc e0 e1 with hge | ⟨id0, blk0, loc0, f0, f1, f2⟩
      · exact .inr (.inl (e2 ▸ hge))
      · exact .inr (.inr ⟨id0, blk0, loc0, f0, f1, f2.trans e2⟩)
end
end Go.Ab

namespace Go.Ab
section
variable {w w' : World} {R : Nat → Prop} {ι : Nat → Option Loc} {h : Heap}

/-- the same heap, another count of draws -/
theorem HRel.same (hr : HRel w R ι h) (hw : w'.heap = w.heap) : HRel w' R ι h where
  len := hr.len
  none := hr.none
  lt := by rw [hw]; exact hr.lt
  cells := fun id l loc e e' => by
    obtain ⟨cur, t, h1, h2, h3, h4, h5⟩ := hr.cells id l loc e e'
    exact ⟨cur, t, by rw [hw]; exact h1, h2, h3, h4, fun i v ev => by
      obtain ⟨x, hx, hv⟩ := h5 i v ev
      exact ⟨x, hx, hv.mono (fun _ h => h) (fun _ _ => by rw [hw]) (fun _ _ h => h)⟩⟩
  maps := fun id es loc e e' => (hr.maps id es loc e e').move (by rw [hw]) fun hv => hv.mono (fun _ h => h) (fun _ _ => by rw [hw]) (fun _ _ h => h)
  inj := hr.inj
  apart := hr.apart
  low := hr.low
  floor := hr.floor
  lowM := hr.lowM

theorem Post.same (hr : HRel w R ι h) (hw : w'.heap = w.heap) (h1 : w'.os = w.os) (h2 : w'.tape = w.tape) (h3 : w'.output = w.output) : Post w R ι h w' R ι h :=
  ⟨hr.same hw, fun _ h => h, fun _ _ => rfl, by rw [hw]; exact Nat.le_refl _, h1, h2, h3, fun _ _ _ => by rw [hw], fun id blk loc e e' => .inr ⟨id, blk, loc, e, e', rfl⟩, fun _ _ _ => rfl, Nat.le_refl _, rfl, fun _ h => .inl h⟩

def named (ι : Nat → Option Loc) (id : Nat) (loc : Loc) : Nat → Option Loc := fun j => if j = id then some loc else ι j

theorem named_same (ι : Nat → Option Loc) (id : Nat) (loc : Loc) : named ι id loc id = some loc := by simp [named]
theorem named_ne (ι : Nat → Option Loc) {id j : Nat} (loc : Loc) (hj : j ≠ id) : named ι id loc j = ι j := by simp [named, hj]

/-- a block is made -/
theorem Post.alloc (hr : HRel w R ι h) {cur : Array Value} {t : TypeId} {l : List V} (hw : w'.heap = w.heap.push (.cells cur t (0, 0)))
    (h1 : w'.os = w.os) (h2 : w'.tape = w.tape) (h3 : w'.output = w.output) (hl : l.length ≤ cur.size) (hone : ∀ v ∈ l, v.one = true)
    (hrep : ∀ (i : Nat) v, l[i]? = some v → ∃ x, cur[i]? = some x ∧ Rep w R ι v x) :
    Post w R ι h w' R (named ι h.next ⟨w.heap.size, cur.size⟩) (h.new (.cells l)) := by
  have hsz : w'.heap.size = w.heap.size + 1 := by rw [hw]; simp
  have hold : ∀ b, b < w.heap.size → w'.heap[b]? = w.heap[b]? := fun b hb => by
    rw [hw, Array.getElem?_push]; simp [Nat.ne_of_lt hb]
  have hnew : w'.heap[w.heap.size]? = some (.cells cur t (0, 0)) := by rw [hw]; simp
  have hι : ∀ id loc, ι id = some loc → named ι h.next ⟨w.heap.size, cur.size⟩ id = some loc := fun id loc e => by
    rw [named_ne _ _ (Nat.ne_of_lt (hr.ι_lt e))]; exact e
  have hmono : ∀ {v x}, Rep w R ι v x → Rep w' R (named ι h.next ⟨w.heap.size, cur.size⟩) v x := fun hv =>
    hv.mono (fun _ h => h) (fun b hb => hold b (hr.lt b hb)) hι
  have hget : ∀ id blk, (h.new (.cells l)).get id = some blk → (id = h.next ∧ blk = .cells l) ∨ (id < h.next ∧ h.get id = some blk) := fun id blk e => by
    have hlt := get_lt e
    have hlt' : id < h.next + 1 := hlt
    rcases Nat.lt_or_ge id h.next with hi | hi
    · rw [get_new_lt hi] at e; exact .inr ⟨hi, e⟩
    · have : id = h.next := by omega
      subst this
      rw [get_new_same] at e
      exact .inl ⟨rfl, (Option.some.inj e).symm⟩
  refine ⟨⟨?_, ?_, ?_, ?_, ?_, ?_, ?_, ?_, ?_, ?_⟩, fun _ h => h, fun id hi => named_ne _ _ (Nat.ne_of_lt hi), by omega, h1, h2, h3, fun b hb _ => hold b hb, ?_, fun id hi _ => get_new_lt hi, by simp [Heap.new], rfl, fun _ h => .inl h⟩
  · simp [Heap.new, hr.len]
  · intro id hi
    have hi' : h.next + 1 ≤ id := hi
    rw [named_ne _ _ (by omega)]
    exact hr.none id (by omega)
  · intro b hb; have := hr.lt b hb; omega
  · intro id l' loc e e'
    rcases hget id _ e with ⟨rfl, hb⟩ | ⟨hi, e⟩
    · cases hb
      rw [named_same] at e'
      obtain rfl := Option.some.inj e'
      exact ⟨cur, t, hnew, rfl, hl, hone, fun i v ev => by
        obtain ⟨x, hx, hv⟩ := hrep i v ev
        exact ⟨x, hx, hmono hv⟩⟩
    · rw [named_ne _ _ (Nat.ne_of_lt hi)] at e'
      obtain ⟨cur', t', g1, g2, g3, g4, g5⟩ := hr.cells id l' loc e e'
      have hb : loc.b < w.heap.size := (Array.getElem?_eq_some_iff.1 g1).1
      exact ⟨cur', t', by rw [hold _ hb]; exact g1, g2, g3, g4, fun i v ev => by
        obtain ⟨x, hx, hv⟩ := g5 i v ev
        exact ⟨x, hx, hmono hv⟩⟩
  · intro id es loc e e'
    rcases hget id _ e with ⟨_, hb⟩ | ⟨hi, e⟩
    · cases hb
    · rw [named_ne _ _ (Nat.ne_of_lt hi)] at e'
      exact (hr.maps id es loc e e').move (hold _ (hr.blk_lt e e')) hmono
  · intro id id' blk blk' loc loc' e e' f f' hne
    have hlt : ∀ {id blk loc}, h.get id = some blk → ι id = some loc → loc.b < w.heap.size := fun {id blk loc} e f => hr.blk_lt e f
    rcases hget id _ e with ⟨rfl, _⟩ | ⟨hi, e⟩ <;> rcases hget id' _ e' with ⟨rfl, _⟩ | ⟨hi', e'⟩
    · exact absurd rfl hne
    · rw [named_same] at f; obtain rfl := Option.some.inj f
      rw [named_ne _ _ (Nat.ne_of_lt hi')] at f'
      exact fun heq => Nat.ne_of_lt (hlt e' f') heq.symm
    · rw [named_same] at f'; obtain rfl := Option.some.inj f'
      rw [named_ne _ _ (Nat.ne_of_lt hi)] at f
      exact Nat.ne_of_lt (hlt e f)
    · rw [named_ne _ _ (Nat.ne_of_lt hi)] at f
      rw [named_ne _ _ (Nat.ne_of_lt hi')] at f'
      exact hr.inj id id' blk blk' loc loc' e e' f f' hne
  · intro id blk loc e f
    rcases hget id _ e with ⟨rfl, _⟩ | ⟨hi, e⟩
    · rw [named_same] at f; obtain rfl := Option.some.inj f
      exact fun hR => Nat.lt_irrefl _ (hr.lt _ hR)
    · rw [named_ne _ _ (Nat.ne_of_lt hi)] at f; exact hr.apart id blk loc e f
  · intro f hf id l' loc hid e e'
    have hlt : id < h.next := Nat.lt_of_lt_of_le hid (hr.floor f hf)
    rw [get_new_lt hlt] at e
    rw [named_ne _ _ (Nat.ne_of_lt hlt)] at e'
    exact hr.low f hf id l' loc hid e e'
  · intro f hf; have := hr.floor f hf; show f ≤ h.next + 1; omega
  · intro f hf id es loc hid e e'
    have hlt : id < h.next := Nat.lt_of_lt_of_le hid (hr.floor f hf)
    rw [get_new_lt hlt] at e
    rw [named_ne _ _ (Nat.ne_of_lt hlt)] at e'
    exact hr.lowM f hf id es loc hid e e'
  · intro id blk loc e f
    rcases hget id _ e with ⟨rfl, _⟩ | ⟨hi, e⟩
    · rw [named_same] at f; obtain rfl := Option.some.inj f
      exact .inl (Nat.le_refl _)
    · rw [named_ne _ _ (Nat.ne_of_lt hi)] at f
      exact .inr ⟨id, blk, loc, e, f, rfl⟩

/-- a block's cells are written -/
theorem Post.put (hr : HRel w R ι h) {id : Nat} {l l' : List V} {loc : Loc} (hg : h.get id = some (.cells l)) (hi : ι id = some loc) {cur cur' : Array Value} {t : TypeId}
    (hc : w.heap[loc.b]? = some (.cells cur t (0, 0))) (hs : cur'.size = cur.size) (hl : l'.length ≤ cur.size) (hone : ∀ v ∈ l', v.one = true)
    (hrep : ∀ (i : Nat) v, l'[i]? = some v → ∃ x, cur'[i]? = some x ∧ Rep w R ι v x) (hlow : ∀ f ∈ h.floors, id < f → V.lows f l' = true) :
    Post w R ι h (w.setRow loc.b cur') R ι (h.put id (some (.cells l'))) := by
  have hlt := get_lt hg
  have hnR := hr.apart id _ loc hg hi
  have hold : ∀ b, b ≠ loc.b → (w.setRow loc.b cur').heap[b]? = w.heap[b]? := fun b hb => setRow_other w loc.b b cur' hb
  have hsz : (w.setRow loc.b cur').heap.size = w.heap.size := by simp [World.setRow]
  have hmono : ∀ {v x}, Rep w R ι v x → Rep (w.setRow loc.b cur') R ι v x := fun hv =>
    hv.mono (fun _ h => h) (fun b hb => hold b (fun e => hnR (e ▸ hb))) (fun _ _ h => h)
  have hn : loc.n = cur.size := by
    obtain ⟨cur2, t2, g1, g2, _⟩ := hr.cells id l loc hg hi
    rw [hc] at g1; cases g1; exact g2.symm
  have hget : ∀ j blk, (h.put id (some (.cells l'))).get j = some blk → (j = id ∧ blk = .cells l') ∨ (j ≠ id ∧ h.get j = some blk) := fun j blk e => by
    by_cases hj : j = id
    · subst hj; rw [get_put_same _ hlt hr.len] at e; exact .inl ⟨rfl, (Option.some.inj e).symm⟩
    · rw [get_put_ne _ hj hlt] at e; exact .inr ⟨hj, e⟩
  have hback : ∀ j blk, (h.put id (some (.cells l'))).get j = some blk → ∃ blk0, h.get j = some blk0 := fun j blk e => by
    rcases hget j blk e with ⟨rfl, _⟩ | ⟨_, e⟩
    · exact ⟨_, hg⟩
    · exact ⟨_, e⟩
  refine ⟨⟨?_, hr.none, ?_, ?_, ?_, ?_, ?_, ?_, hr.floor, ?_⟩, fun _ h => h, fun _ _ => rfl, by omega, rfl, rfl, rfl, ?_, ?_, ?_, Nat.le_refl _, rfl, fun _ h => .inl h⟩
  · simp [Heap.put, hr.len]
  · intro b hb; rw [hsz]; exact hr.lt b hb
  · intro j l2 loc2 e f
    rcases hget j _ e with ⟨rfl, hb⟩ | ⟨hj, e⟩
    · cases hb
      rw [hi] at f; obtain rfl := Option.some.inj f
      exact ⟨cur', t, setRow_heap w _ cur cur' t _ hc, by rw [hs, hn], by omega, hone, fun i v ev => by
        obtain ⟨x, hx, hv⟩ := hrep i v ev
        exact ⟨x, hx, hmono hv⟩⟩
    · obtain ⟨cur2, t2, g1, g2, g3, g4, g5⟩ := hr.cells j l2 loc2 e f
      exact ⟨cur2, t2, by rw [hold _ (hr.inj j id _ _ loc2 loc e hg f hi hj)]; exact g1, g2, g3, g4, fun i v ev => by
        obtain ⟨x, hx, hv⟩ := g5 i v ev
        exact ⟨x, hx, hmono hv⟩⟩
  · intro j es loc2 e f
    rcases hget j _ e with ⟨_, hb⟩ | ⟨hj, e⟩
    · cases hb
    · exact (hr.maps j es loc2 e f).move (hold _ (hr.inj j id _ _ loc2 loc e hg f hi hj)) hmono
  · intro j j' blk blk' loc1 loc2 e e' f f' hne
    obtain ⟨b0, e0⟩ := hback j blk e
    obtain ⟨b1, e1⟩ := hback j' blk' e'
    exact hr.inj j j' b0 b1 loc1 loc2 e0 e1 f f' hne
  · intro j blk loc2 e f
    obtain ⟨b0, e0⟩ := hback j blk e
    exact hr.apart j b0 loc2 e0 f
  · intro f hf j l2 loc2 hj e e'
    rcases hget j _ e with ⟨rfl, hb⟩ | ⟨_, e⟩
    · cases hb; exact hlow f hf hj
    · exact hr.low f hf j l2 loc2 hj e e'
  · intro f hf j es loc2 hj e e'
    rcases hget j _ e with ⟨_, hb⟩ | ⟨_, e⟩
    · cases hb
    · exact hr.lowM f hf j es loc2 hj e e'
  · intro b _ hno
    exact hold b (fun e => hno id _ loc hg hi e.symm)
  · intro j blk loc2 e f
    obtain ⟨b0, e0⟩ := hback j blk e
    exact .inr ⟨j, b0, loc2, e0, f, rfl⟩
  · intro j hj hn'
    exact get_put_ne _ (fun e => by subst e; rw [hi] at hn'; cases hn') hlt

/-- a block is forgotten; what it holds may be kept as it is for good -/
theorem Post.killed (hr : HRel w R ι h) {id : Nat} {blk : Blk} {loc : Loc} (hg : h.get id = some blk) (hi : ι id = some loc) (keep : Bool)
    (hw : ∀ k, k ≠ loc.b → w'.heap[k]? = w.heap[k]?) (hsz : w'.heap.size = w.heap.size) (h1 : w'.os = w.os) (h2 : w'.tape = w.tape) (h3 : w'.output = w.output) :
    Post w R ι h w' (fun b => R b ∨ (keep = true ∧ b = loc.b)) ι (h.put id none) := by
  have hlt := get_lt hg
  have hget : ∀ j blk, (h.put id none).get j = some blk → j ≠ id ∧ h.get j = some blk := fun j blk e => by
    by_cases hj : j = id
    · subst hj; rw [get_put_same _ hlt hr.len] at e; cases e
    · rw [get_put_ne _ hj hlt] at e; exact ⟨hj, e⟩
  have hb : loc.b < w.heap.size := hr.blk_lt hg hi
  have hnR := hr.apart id _ loc hg hi
  have hmono : ∀ {v x}, Rep w R ι v x → Rep w' (fun b => R b ∨ (keep = true ∧ b = loc.b)) ι v x := fun hv =>
    hv.mono (fun _ h => .inl h) (fun b hb => hw b (fun e => hnR (e ▸ hb))) (fun _ _ h => h)
  refine ⟨⟨?_, hr.none, ?_, ?_, ?_, ?_, ?_, ?_, hr.floor, ?_⟩, fun _ h => .inl h, fun _ _ => rfl, by omega, h1, h2, h3, ?_, ?_, ?_, Nat.le_refl _, rfl, fun b hb => hb.elim .inl fun h => .inr (.inr ⟨id, blk, loc, hg, hi, h.2.symm⟩)⟩
  · simp [Heap.put, hr.len]
  · rintro b (hb' | ⟨_, rfl⟩)
    · rw [hsz]; exact hr.lt b hb'
    · rw [hsz]; exact hb
  · intro j l2 loc2 e f
    obtain ⟨cur2, t2, g1, g2, g3, g4, g5⟩ := hr.cells j l2 loc2 (hget j _ e).2 f
    exact ⟨cur2, t2, by rw [hw _ (hr.inj j id _ _ loc2 loc (hget j _ e).2 hg f hi (hget j _ e).1)]; exact g1, g2, g3, g4, fun i v ev => by
      obtain ⟨x, hx, hv⟩ := g5 i v ev
      exact ⟨x, hx, hmono hv⟩⟩
  · intro j es loc2 e f
    exact (hr.maps j es loc2 (hget j _ e).2 f).move (hw _ (hr.inj j id _ _ loc2 loc (hget j _ e).2 hg f hi (hget j _ e).1)) hmono
  · intro j j' blk blk' loc1 loc2 e e' f f' hne
    exact hr.inj j j' blk blk' loc1 loc2 (hget j _ e).2 (hget j' _ e').2 f f' hne
  · rintro j blk2 loc2 e f (hR | ⟨_, heq⟩)
    · exact hr.apart j blk2 loc2 (hget j _ e).2 f hR
    · exact hr.inj j id blk2 blk loc2 loc (hget j _ e).2 hg f hi (hget j _ e).1 heq
  · intro f hf j l2 loc2 hj e e'
    exact hr.low f hf j l2 loc2 hj (hget j _ e).2 e'
  · intro f hf j es loc2 hj e e'
    exact hr.lowM f hf j es loc2 hj (hget j _ e).2 e'
  · intro b _ hno
    exact hw b (fun e => hno id blk loc hg hi e.symm)
  · intro j blk2 loc2 e f
    exact .inr ⟨j, blk2, loc2, (hget j _ e).2, f, rfl⟩
  · intro j hj hn'
    exact get_put_ne _ (fun e => by subst e; rw [hi] at hn'; cases hn') hlt

theorem Post.kill (hr : HRel w R ι h) {id : Nat} {blk : Blk} {loc : Loc} (hg : h.get id = some blk) (hi : ι id = some loc) (keep : Bool) :
    Post w R ι h w (fun b => R b ∨ (keep = true ∧ b = loc.b)) ι (h.put id none) :=
  Post.killed hr hg hi keep (fun _ _ => rfl) rfl rfl rfl rfl

/-- a block is made that will not change -/
theorem Post.push (hr : HRel w R ι h) {o : Obj} (hw : w'.heap = w.heap.push o) (h1 : w'.os = w.os) (h2 : w'.tape = w.tape) (h3 : w'.output = w.output) :
    Post w R ι h w' (fun b => R b ∨ b = w.heap.size) ι h := by
  have hsz : w'.heap.size = w.heap.size + 1 := by rw [hw]; simp
  have hold : ∀ b, b < w.heap.size → w'.heap[b]? = w.heap[b]? := fun b hb => by
    rw [hw, Array.getElem?_push]; simp [Nat.ne_of_lt hb]
  have hmono : ∀ {v x}, Rep w R ι v x → Rep w' (fun b => R b ∨ b = w.heap.size) ι v x := fun hv =>
    hv.mono (fun _ h => .inl h) (fun b hb => hold b (hr.lt b hb)) (fun _ _ h => h)
  refine ⟨⟨hr.len, hr.none, ?_, ?_, fun id es loc e f => (hr.maps id es loc e f).move (hold _ (hr.blk_lt e f)) hmono, hr.inj, ?_, hr.low, hr.floor, hr.lowM⟩, fun _ h => .inl h, fun _ _ => rfl, by omega, h1, h2, h3, fun b hb _ => hold b hb,
    fun id blk loc e e' => .inr ⟨id, blk, loc, e, e', rfl⟩, fun _ _ _ => rfl, Nat.le_refl _, rfl, fun b hb => hb.elim .inl fun h => .inr (.inl (Nat.le_of_eq h.symm))⟩
  · rintro b (hb | rfl)
    · have := hr.lt b hb; omega
    · omega
  · intro id l loc e f
    obtain ⟨cur, t, g1, g2, g3, g4, g5⟩ := hr.cells id l loc e f
    have hb : loc.b < w.heap.size := (Array.getElem?_eq_some_iff.1 g1).1
    exact ⟨cur, t, by rw [hold _ hb]; exact g1, g2, g3, g4, fun i v ev => by
      obtain ⟨x, hx, hv⟩ := g5 i v ev
      exact ⟨x, hx, hmono hv⟩⟩
  · rintro id blk loc e f (hR | heq)
    · exact hr.apart id blk loc e f hR
    · have := hr.blk_lt e f
      omega

/-- a map is made -/
theorem Post.allocM (hr : HRel w R ι h) {clock : Nat} (hw : w'.heap = w.heap.push (.map #[] clock)) (h1 : w'.os = w.os) (h2 : w'.tape = w.tape) (h3 : w'.output = w.output) :
    Post w R ι h w' R (named ι h.next ⟨w.heap.size, 0⟩) (h.new (.map [])) := by
  have hsz : w'.heap.size = w.heap.size + 1 := by rw [hw]; simp
  have hold : ∀ b, b < w.heap.size → w'.heap[b]? = w.heap[b]? := fun b hb => by
    rw [hw, Array.getElem?_push]; simp [Nat.ne_of_lt hb]
  have hnew : w'.heap[w.heap.size]? = some (.map #[] clock) := by rw [hw]; simp
  have hι : ∀ id loc, ι id = some loc → named ι h.next ⟨w.heap.size, 0⟩ id = some loc := fun id loc e => by
    rw [named_ne _ _ (Nat.ne_of_lt (hr.ι_lt e))]; exact e
  have hmono : ∀ {v x}, Rep w R ι v x → Rep w' R (named ι h.next ⟨w.heap.size, 0⟩) v x := fun hv =>
    hv.mono (fun _ h => h) (fun b hb => hold b (hr.lt b hb)) hι
  have hget : ∀ id blk, (h.new (.map [])).get id = some blk → (id = h.next ∧ blk = .map []) ∨ (id < h.next ∧ h.get id = some blk) := fun id blk e => by
    have hlt := get_lt e
    have hlt' : id < h.next + 1 := hlt
    rcases Nat.lt_or_ge id h.next with hi | hi
    · rw [get_new_lt hi] at e; exact .inr ⟨hi, e⟩
    · have : id = h.next := by omega
      subst this
      rw [get_new_same] at e
      exact .inl ⟨rfl, (Option.some.inj e).symm⟩
  refine ⟨⟨?_, ?_, ?_, ?_, ?_, ?_, ?_, ?_, ?_, ?_⟩, fun _ h => h, fun id hi => named_ne _ _ (Nat.ne_of_lt hi), by omega, h1, h2, h3, fun b hb _ => hold b hb, ?_, fun id hi _ => get_new_lt hi, by simp [Heap.new], rfl, fun _ h => .inl h⟩
  · simp [Heap.new, hr.len]
  · intro id hi
    have hi' : h.next + 1 ≤ id := hi
    rw [named_ne _ _ (by omega)]
    exact hr.none id (by omega)
  · intro b hb; have := hr.lt b hb; omega
  · intro id l' loc e e'
    rcases hget id _ e with ⟨_, hb⟩ | ⟨hi, e⟩
    · cases hb
    · rw [named_ne _ _ (Nat.ne_of_lt hi)] at e'
      obtain ⟨cur', t', g1, g2, g3, g4, g5⟩ := hr.cells id l' loc e e'
      have hb : loc.b < w.heap.size := (Array.getElem?_eq_some_iff.1 g1).1
      exact ⟨cur', t', by rw [hold _ hb]; exact g1, g2, g3, g4, fun i v ev => by
        obtain ⟨x, hx, hv⟩ := g5 i v ev
        exact ⟨x, hx, hmono hv⟩⟩
  · intro id es loc e e'
    rcases hget id _ e with ⟨rfl, hb⟩ | ⟨hi, e⟩
    · cases hb
      rw [named_same] at e'
      obtain rfl := Option.some.inj e'
      exact ⟨#[], clock, hnew, rfl, fun i k v ev => by simp at ev⟩
    · rw [named_ne _ _ (Nat.ne_of_lt hi)] at e'
      exact (hr.maps id es loc e e').move (hold _ (hr.blk_lt e e')) hmono
  · intro id id' blk blk' loc loc' e e' f f' hne
    rcases hget id _ e with ⟨rfl, _⟩ | ⟨hi, e⟩ <;> rcases hget id' _ e' with ⟨rfl, _⟩ | ⟨hi', e'⟩
    · exact absurd rfl hne
    · rw [named_same] at f; obtain rfl := Option.some.inj f
      rw [named_ne _ _ (Nat.ne_of_lt hi')] at f'
      exact fun heq => Nat.ne_of_lt (hr.blk_lt e' f') heq.symm
    · rw [named_same] at f'; obtain rfl := Option.some.inj f'
      rw [named_ne _ _ (Nat.ne_of_lt hi)] at f
      exact Nat.ne_of_lt (hr.blk_lt e f)
    · rw [named_ne _ _ (Nat.ne_of_lt hi)] at f
      rw [named_ne _ _ (Nat.ne_of_lt hi')] at f'
      exact hr.inj id id' blk blk' loc loc' e e' f f' hne
  · intro id blk loc e f
    rcases hget id _ e with ⟨rfl, _⟩ | ⟨hi, e⟩
    · rw [named_same] at f; obtain rfl := Option.some.inj f
      exact fun hR => Nat.lt_irrefl _ (hr.lt _ hR)
    · rw [named_ne _ _ (Nat.ne_of_lt hi)] at f; exact hr.apart id blk loc e f
  · intro f hf id l' loc hid e e'
    have hlt : id < h.next := Nat.lt_of_lt_of_le hid (hr.floor f hf)
    rw [get_new_lt hlt] at e
    rw [named_ne _ _ (Nat.ne_of_lt hlt)] at e'
    exact hr.low f hf id l' loc hid e e'
  · intro f hf; have := hr.floor f hf; show f ≤ h.next + 1; omega
  · intro f hf id es loc hid e e'
    have hlt : id < h.next := Nat.lt_of_lt_of_le hid (hr.floor f hf)
    rw [get_new_lt hlt] at e
    rw [named_ne _ _ (Nat.ne_of_lt hlt)] at e'
    exact hr.lowM f hf id es loc hid e e'
  · intro id blk loc e f
    rcases hget id _ e with ⟨rfl, _⟩ | ⟨hi, e⟩
    · rw [named_same] at f; obtain rfl := Option.some.inj f
      exact .inl (Nat.le_refl _)
    · rw [named_ne _ _ (Nat.ne_of_lt hi)] at f
      exact .inr ⟨id, blk, loc, e, f, rfl⟩

/-- a map's entries are written -/
theorem Post.putM (hr : HRel w R ι h) {id : Nat} {es es' : List (V × V)} {loc : Loc} (hg : h.get id = some (.map es)) (hi : ι id = some loc) {ents ents' : Array MapEntry} {clock clock' : Nat}
    (hc : w.heap[loc.b]? = some (.map ents clock)) (hs : ents'.size = es'.length) (hrep : ∀ (i : Nat) k v, es'[i]? = some (k, v) → ∃ me, ents'[i]? = some me ∧ Rep w R ι k me.key ∧ Rep w R ι v me.val)
    (hlow : ∀ f ∈ h.floors, id < f → ∀ p ∈ es', V.low f p.1 = true ∧ V.low f p.2 = true) :
    Post w R ι h { w with heap := w.heap.setIfInBounds loc.b (.map ents' clock') } R ι (h.put id (some (.map es'))) := by
  have hlt := get_lt hg
  have hnR := hr.apart id _ loc hg hi
  have hb : loc.b < w.heap.size := (Array.getElem?_eq_some_iff.1 hc).1
  have hold : ∀ b, b ≠ loc.b → (w.heap.setIfInBounds loc.b (.map ents' clock'))[b]? = w.heap[b]? := fun b hb => by
    rw [Array.getElem?_setIfInBounds, if_neg (Ne.symm hb)]
  have hsame : (w.heap.setIfInBounds loc.b (.map ents' clock'))[loc.b]? = some (.map ents' clock') := by
    rw [Array.getElem?_setIfInBounds, if_pos rfl, if_pos hb]
  have hsz : (w.heap.setIfInBounds loc.b (.map ents' clock')).size = w.heap.size := by simp
  have hmono : ∀ {v x}, Rep w R ι v x → Rep { w with heap := w.heap.setIfInBounds loc.b (.map ents' clock') } R ι v x := fun hv =>
    hv.mono (fun _ h => h) (fun b hb => hold b (fun e => hnR (e ▸ hb))) (fun _ _ h => h)
  have hget : ∀ j blk, (h.put id (some (.map es'))).get j = some blk → (j = id ∧ blk = .map es') ∨ (j ≠ id ∧ h.get j = some blk) := fun j blk e => by
    by_cases hj : j = id
    · subst hj; rw [get_put_same _ hlt hr.len] at e; exact .inl ⟨rfl, (Option.some.inj e).symm⟩
    · rw [get_put_ne _ hj hlt] at e; exact .inr ⟨hj, e⟩
  have hback : ∀ j blk, (h.put id (some (.map es'))).get j = some blk → ∃ blk0, h.get j = some blk0 := fun j blk e => by
    rcases hget j blk e with ⟨rfl, _⟩ | ⟨_, e⟩
    · exact ⟨_, hg⟩
    · exact ⟨_, e⟩
  refine ⟨⟨?_, hr.none, ?_, ?_, ?_, ?_, ?_, ?_, hr.floor, ?_⟩, fun _ h => h, fun _ _ => rfl, ?_, rfl, rfl, rfl, ?_, ?_, ?_, Nat.le_refl _, rfl, fun _ h => .inl h⟩
  · simp [Heap.put, hr.len]
  · intro b hb; show b < _; rw [hsz]; exact hr.lt b hb
  · intro j l2 loc2 e f
    rcases hget j _ e with ⟨_, hb⟩ | ⟨hj, e⟩
    · cases hb
    · obtain ⟨cur2, t2, g1, g2, g3, g4, g5⟩ := hr.cells j l2 loc2 e f
      exact ⟨cur2, t2, (hold _ (hr.inj j id _ _ loc2 loc e hg f hi hj)).trans g1, g2, g3, g4, fun i v ev => by
        obtain ⟨x, hx, hv⟩ := g5 i v ev
        exact ⟨x, hx, hmono hv⟩⟩
  · intro j es2 loc2 e f
    rcases hget j _ e with ⟨rfl, hb⟩ | ⟨hj, e⟩
    · cases hb
      rw [hi] at f; obtain rfl := Option.some.inj f
      exact ⟨ents', clock', hsame, hs, fun i k v ev => by
        obtain ⟨me, g1, g2, g3⟩ := hrep i k v ev
        exact ⟨me, g1, hmono g2, hmono g3⟩⟩
    · exact (hr.maps j es2 loc2 e f).move (hold _ (hr.inj j id _ _ loc2 loc e hg f hi hj)) hmono
  · intro j j' blk blk' loc1 loc2 e e' f f' hne
    obtain ⟨b0, e0⟩ := hback j blk e
    obtain ⟨b1, e1⟩ := hback j' blk' e'
    exact hr.inj j j' b0 b1 loc1 loc2 e0 e1 f f' hne
  · intro j blk loc2 e f
    obtain ⟨b0, e0⟩ := hback j blk e
    exact hr.apart j b0 loc2 e0 f
  · intro f hf j l2 loc2 hj e e'
    rcases hget j _ e with ⟨_, hb⟩ | ⟨_, e⟩
    · cases hb
    · exact hr.low f hf j l2 loc2 hj e e'
  · intro f hf j es2 loc2 hj e e'
    rcases hget j _ e with ⟨rfl, hb⟩ | ⟨_, e⟩
    · cases hb; exact hlow f hf hj
    · exact hr.lowM f hf j es2 loc2 hj e e'
  · show _ ≤ (w.heap.setIfInBounds loc.b (.map ents' clock')).size
    rw [hsz]; exact Nat.le_refl _
  · intro b _ hno
    exact hold b (fun e => hno id _ loc hg hi e.symm)
  · intro j blk loc2 e f
    obtain ⟨b0, e0⟩ := hback j blk e
    exact .inr ⟨j, b0, loc2, e0, f, rfl⟩
  · intro j hj hn'
    exact get_put_ne _ (fun e => by subst e; rw [hi] at hn'; cases hn') hlt
end
end Go.Ab

namespace Go.Ab

structure ERel (w : World) (R : Nat → Prop) (ι : Nat → Option Loc) (fr : List V) (a : Act) : Prop where
  len : fr.length = a.tmps.size
  tmps : ∀ (i : Nat) v x, fr[i]? = some v → a.tmps[i]? = some x → Rep w R ι v x

def GRel (G : Nat → Option V) (w : World) (R : Nat → Prop) (ι : Nat → Option Loc) : Prop :=
  ∀ g v, G g = some v → Rep w R ι v (.pointer (some ⟨g, 0, none⟩))

section
variable {P : Program} {G : Nat → Option V} {w w' : World} {R R' : Nat → Prop} {ι ι' : Nat → Option Loc} {h h' : Heap} {fr : List V} {a : Act}

theorem vOf_rep {x : Value} {v : V} (e : vOf x = some v) : Rep w R ι v x := by
  unfold vOf at e
  split at e <;> first | (cases e; constructor) | cases e

theorem vOf_one {x : Value} {v : V} (e : vOf x = some v) : v.one = true := by
  unfold vOf at e
  split at e <;> first | (cases e; rfl) | cases e

theorem vsOf_spec : ∀ {xs : List Value} {vs : List V}, vsOf xs = some vs → vs.length = xs.length ∧ (∀ v ∈ vs, v.one = true) ∧
    ∀ (i : Nat) v, vs[i]? = some v → ∃ x, xs[i]? = some x ∧ ∀ {w : World} {R : Nat → Prop} {ι : Nat → Option Loc}, Rep w R ι v x
  | [], vs, e => by cases e; exact ⟨rfl, by simp, by simp⟩
  | x :: r, vs, e => by
    unfold vsOf at e
    split at e
    · rename_i v' r' h1 h2
      cases e
      obtain ⟨i1, i2, i3⟩ := vsOf_spec h2
      refine ⟨by simp [i1], ?_, ?_⟩
      · intro v hv
        rcases List.mem_cons.1 hv with rfl | hv
        · exact vOf_one h1
        · exact i2 v hv
      · intro i v hv
        cases i with
        | zero => simp at hv; subst hv; exact ⟨x, rfl, fun {_ _ _} => vOf_rep h1⟩
        | succ i => simpa using i3 i v (by simpa using hv)
    · cases e

theorem cOf_rep {x : Value} {v : V} (e : cOf x = some v) : Rep w R ι v x := by
  unfold cOf at e
  split at e
  · rename_i xs
    obtain ⟨l, hl, hh⟩ : ∃ l, vsOf xs.toList = some l ∧ V.agg l = v := by
      cases hv : vsOf xs.toList with
      | none => rw [hv] at e; cases e
      | some l => rw [hv] at e; cases e; exact ⟨l, rfl, rfl⟩
    subst hh
    obtain ⟨h1, h2, h3⟩ := vsOf_spec hl
    have := Rep.agg (w := w) (R := R) (ι := ι) l xs.toList h1 h2 fun i v x ev ex => by
      obtain ⟨y, hy, hr⟩ := h3 i v ev
      rw [ex] at hy; cases hy; exact hr
    simpa using this
  · exact vOf_rep e

theorem ev_rel (hG : GRel G w R ι) (hE : ERel w R ι fr a) {x : Operand} {y : Opd} (e : opd G x = some y) : Rep w R ι (ev fr y) (a.eval x) := by
  unfold opd at e
  split at e
  · cases e
    simp only [ev, Act.eval]
    rename_i t
    rcases Nat.lt_or_ge t fr.length with hlt | hge
    · have h1 : fr[t]? = some fr[t] := List.getElem?_eq_getElem hlt
      have hlt' : t < a.tmps.size := by rw [← hE.len]; exact hlt
      have h2 : a.tmps[t]? = some a.tmps[t] := Array.getElem?_eq_getElem hlt'
      have := hE.tmps t _ _ h1 h2
      simpa [List.getD, h1, Array.getD, hlt'] using this
    · have : fr.getD t .undef = .undef := by simp [List.getD, List.getElem?_eq_none hge]
      rw [this]; exact .undef _
  · rename_i v
    cases hv : cOf v with
    | none => rw [hv] at e; cases e
    | some u => rw [hv] at e; cases e; exact cOf_rep hv
  · rename_i g
    cases hg : G g with
    | none => rw [hg] at e; cases e
    | some u => rw [hg] at e; cases e; exact hG g u hg
  · cases e
    exact .fn _ [] [] [] [] rfl rfl (by simp) (by simp)

theorem addr_add {a : Addr} (hs : a.spot = none) (j : Nat) : a.add j = ⟨a.block, a.off + j, none⟩ := by
  unfold Addr.add
  split
  · subst_vars; cases a; simp_all
  · simp

/-- one value for each -/
theorem list_of {α β : Type} {Q : Nat → α → β → Prop} : ∀ (cs : List α), (∀ (i : Nat) u, cs[i]? = some u → ∃ y, Q i u y) →
    ∃ ys : List β, ys.length = cs.length ∧ ∀ (i : Nat) u y, cs[i]? = some u → ys[i]? = some y → Q i u y := by
  intro cs
  induction cs generalizing Q with
  | nil => intro _; exact ⟨[], rfl, by simp⟩
  | cons c r ih =>
    intro hq
    obtain ⟨y, hy⟩ := hq 0 c rfl
    obtain ⟨ys, hl, hys⟩ := ih (Q := fun i => Q (i + 1)) (fun i u e => hq (i + 1) u (by simpa using e))
    refine ⟨y :: ys, by simp [hl], fun i u z e e' => ?_⟩
    cases i with
    | zero => simp at e e'; subst e; subst e'; exact hy
    | succ i => exact hys i u z (by simpa using e) (by simpa using e')

/-- what lies at an address -/
theorem at_cells (hr : HRel w R ι h) {v : V} {cs : List V} {x : Value} (e : h.at v = some cs) (hv : Rep w R ι v x) :
    ∃ ad : Addr, x = .pointer (some ad) ∧ ad.spot = none ∧ ∀ (i : Nat) u, cs[i]? = some u → u.one = true ∧ ∃ y, w.cell? (ad.add i) = some y ∧ Rep w R ι u y := by
  unfold Heap.at at e
  split at e
  · cases e
    cases hv with
    | fptr cs ad f hs hR hone hlow hcell hr' =>
      exact ⟨ad, rfl, hs, fun i u eu => ⟨hone u (List.mem_of_getElem? eu), f i, by rw [addr_add hs]; exact hcell i u eu, hr' i u eu⟩⟩
  · rename_i id off
    cases hc : h.cellsOf id with
    | none => rw [hc] at e; cases e
    | some l =>
      rw [hc] at e; cases e
      cases hv with
      | mptr id off loc hι =>
        obtain ⟨cur, t, g1, g2, g3, g4, g5⟩ := hr.cells id l loc (cellsOf_get hc) hι
        refine ⟨⟨loc.b, off, none⟩, rfl, rfl, fun i u eu => ?_⟩
        rw [List.getElem?_drop] at eu
        obtain ⟨y, hy, hrep⟩ := g5 _ u eu
        refine ⟨g4 u (List.mem_of_getElem? eu), y, ?_, hrep⟩
        rw [addr_add rfl]
        simp [World.cell?, g1, hy]
  · cases e

theorem run_isAgg {t : TypeId} {g : Bool} (e : aggT P t = some g) (w : World) : (isAgg t).run P w = .ok g w := by
  unfold aggT at e
  split at e
  · rename_i fs hu; cases e; simp [isAgg, run_underlying hu]
  · rename_i n el hu; cases e; simp [isAgg, run_underlying hu]
  · rename_i d h1 h2 hu
    cases e
    simp only [isAgg, Sem.run_bind, run_underlying hu, Result.andThen_ok]
    rfl
  · cases e

theorem run_sizeOf {t : TypeId} {i : TypeInfo} (e : P.info? t = some i) (w : World) : (sizeOf t).run P w = .ok i.size w := by
  simp [sizeOf, typeInfo, e]

/-- a variable of memory is read -/
theorem load_ok (hr : HRel w R ι h) {t : TypeId} {g : Bool} {i : TypeInfo} (hg : aggT P t = some g) (hi : P.info? t = some i) (h1 : (g || i.size == 1) = true)
    {v u : V} {x : Value} {cs : List V} (e : h.at v = some cs) (ep : part g i.size cs = some u) (hv : Rep w R ι v x) :
    ∃ y, (Instr.loadAt t x).run P w = .ok y w ∧ Rep w R ι u y := by
  obtain ⟨ad, rfl, hs, hcs⟩ := at_cells hr e hv
  unfold part at ep
  split at ep
  · cases ep
  · rename_i hlen
    cases g with
    | true =>
      simp only [if_true] at ep
      cases ep
      obtain ⟨ys, hyl, hys⟩ := list_of (Q := fun i u y => w.cell? (ad.add i) = some y ∧ Rep w R ι u y) (cs.take i.size) (fun j u eu => (hcs j u (by
        rw [List.getElem?_take] at eu; split at eu
        · exact eu
        · cases eu)).2)
      have hl : (cs.take i.size).length = i.size := by simp; omega
      refine ⟨.agg ys.toArray, ?_, .agg _ ys hyl.symm ?_ ?_⟩
      · have hload : (loadCells ad ys.length).run P w = .ok ys.toArray w := run_loadCells_list w ad ys (fun j y ey => by
          have hj : j < (cs.take i.size).length := by rw [← hyl]; exact (List.getElem?_eq_some_iff.1 ey).1
          exact (hys j _ y (List.getElem?_eq_getElem hj) ey).1)
        rw [hyl, hl] at hload
        simp [Instr.loadAt, Instr.sureAddr, loadVar, run_isAgg hg, run_sizeOf hi, hload]
      · intro z hz
        have hz' := List.mem_of_mem_take hz
        obtain ⟨j, hj⟩ := List.mem_iff_getElem?.1 hz'
        exact (hcs j z hj).1
      · intro j z y ez ey
        exact (hys j z y ez ey).2
    | false =>
      simp only [Bool.false_eq_true, if_false] at ep
      split at ep
      · rename_i c r
        split at ep
        · cases ep
          obtain ⟨_, y, hy, hrep⟩ := hcs 0 u rfl
          refine ⟨y, ?_, hrep⟩
          have : ad.add 0 = ad := by simp [Addr.add]
          rw [this] at hy
          simp [Instr.loadAt, Instr.sureAddr, loadVar, run_isAgg hg, hy]
        · cases ep
      · cases ep

/-- a variable of memory is written -/
theorem store_ok (hr : HRel w R ι h) {t : TypeId} {i : TypeInfo} (hi : P.info? t = some i) (hpos : 0 < i.size) {id off : Nat} {l : List V} (hc : h.cellsOf id = some l)
    {u : V} {x y : Value} (hv : Rep w R ι (.mptr id off) x) (hu : Rep w R ι u y) (hlen : u.cells.length = i.size) (hfit : off + i.size ≤ l.length) (hmay : h.mayPut id u.cells = true) :
    ∃ w', (Instr.storeAt t x y).run P w = .ok () w' ∧ Post w R ι h w' R ι (h.put id (some (.cells (l.take off ++ u.cells ++ l.drop (off + i.size))))) := by
  cases hv with
  | mptr _ _ loc hι =>
    have hg := cellsOf_get hc
    obtain ⟨cur, te, g1, g2, g3, g4, g5⟩ := hr.cells id l loc hg hι
    · have hne : u.cells ≠ [] := by intro e; rw [e] at hlen; simp at hlen; omega
      obtain ⟨⟨hcl, hcr⟩, hone⟩ := hu.cells hne
      have hys : y.cells.toList.length = i.size := by rw [← hcl, hlen]
      have hst := run_storeCells_at P loc.b off te y.cells.toList 0 cur w g1 (by rw [hys]; omega) (by
        intro z hz'
        obtain ⟨j, hj⟩ := List.mem_iff_getElem?.1 hz'
        have hj' : j < u.cells.length := by rw [hcl]; exact (List.getElem?_eq_some_iff.1 hj).1
        exact (hcr j _ z (List.getElem?_eq_getElem hj') hj).oneCell (hone _ (List.getElem_mem hj')))
      have hsz : (y.cells).size = i.size := by simpa using hys
      refine ⟨_, ?_, Post.put hr hg hι (cur' := (cur.toList.take (off + 0) ++ y.cells.toList ++ cur.toList.drop (off + 0 + y.cells.toList.length)).toArray) g1 ?_ ?_ ?_ ?_ ?_⟩
      · simp only [Instr.storeAt, Instr.sureAddr, Sem.run_bind, Sem.run_pure, Result.andThen_ok, storeVar, run_sizeOf hi, hsz, ne_eq, not_true, if_false, hst]
      · simp only [List.size_toArray, List.length_append, List.length_take, List.length_drop, hys, Array.length_toList]; omega
      · simp only [List.length_append, List.length_take, List.length_drop, hlen]; omega
      · intro z hz'
        simp only [List.mem_append] at hz'
        rcases hz' with (hz' | hz') | hz'
        · exact g4 z (List.mem_of_mem_take hz')
        · exact hone z hz'
        · exact g4 z (List.mem_of_mem_drop hz')
      · intro j z ez
        have hl1 : (l.take off).length = off := by simp; omega
        have hl2 : (cur.toList.take (off + 0)).length = off := by simp; omega
        simp only [List.getElem?_toArray, List.append_assoc]
        simp only [List.append_assoc] at ez
        rcases Nat.lt_or_ge j off with hj | hj
        · rw [List.getElem?_append_left (by omega), List.getElem?_take, if_pos hj] at ez
          rw [List.getElem?_append_left (by omega), List.getElem?_take, if_pos (by omega)]
          simpa using g5 j z ez
        · rw [List.getElem?_append_right (by omega), hl1] at ez
          rw [List.getElem?_append_right (by omega), hl2]
          rcases Nat.lt_or_ge (j - off) i.size with hj2 | hj2
          · rw [List.getElem?_append_left (by omega)] at ez
            rw [List.getElem?_append_left (by omega)]
            have hj3 : j - off < y.cells.toList.length := by omega
            exact ⟨_, List.getElem?_eq_getElem hj3, hcr _ z _ ez (List.getElem?_eq_getElem hj3)⟩
          · rw [List.getElem?_append_right (by omega), List.getElem?_drop, hlen] at ez
            rw [List.getElem?_append_right (by omega), List.getElem?_drop, hys]
            have e1 : off + i.size + (j - off - i.size) = j := by omega
            have e2 : off + 0 + i.size + (j - off - i.size) = j := by omega
            rw [e1] at ez
            rw [e2]
            simpa using g5 j z ez
      · intro f hf hid
        have hm := (List.all_eq_true.1 hmay) f hf
        simp only [Bool.or_eq_true, decide_eq_true_eq] at hm
        rcases hm with hm | hm
        · omega
        · have hlow := hr.low f hf id l loc hid hg hι
          refine lows_spec.2 fun z hz' => ?_
          simp only [List.mem_append] at hz'
          rcases hz' with (hz' | hz') | hz'
          · exact lows_spec.1 hlow z (List.mem_of_mem_take hz')
          · exact lows_spec.1 hm z hz'
          · exact lows_spec.1 hlow z (List.mem_of_mem_drop hz')
end
end Go.Ab

namespace Go.Ab
section
variable {P : Program} {G : Nat → Option V} {w w' : World} {R R' : Nat → Prop} {ι ι' : Nat → Option Loc} {h h' : Heap} {fr : List V} {a : Act}

theorem foldl_set (off : Nat) : ∀ (xs : List Value) (k : Nat) (cells : Array Value), off + k + xs.length ≤ cells.size →
    ((xs.zipIdx k).foldl (fun (cs : Array Value) (p : Value × Nat) => cs.setIfInBounds (off + p.2) p.1) cells).toList =
      cells.toList.take (off + k) ++ xs ++ cells.toList.drop (off + k + xs.length)
  | [], k, cells, _ => by simp
  | x :: r, k, cells, hl => by
    simp only [List.length_cons] at hl
    simp only [List.zipIdx_cons, List.foldl_cons]
    rw [foldl_set off r (k + 1) (cells.setIfInBounds (off + k) x) (by simp; omega)]
    have hk : off + k < cells.toList.length := by simp; omega
    simp only [Array.toList_setIfInBounds]
    apply List.ext_getElem?
    intro j
    simp only [List.length_cons]
    have e1 : ((cells.toList.set (off + k) x).take (off + (k + 1))).length = off + k + 1 := by simp; omega
    have e2 : (cells.toList.take (off + k)).length = off + k := by simp; omega
    rcases Nat.lt_trichotomy j (off + k) with hj | hj | hj
    · rw [List.append_assoc, List.getElem?_append_left (by omega), List.getElem?_take, if_pos (by omega), List.getElem?_set_ne (by omega)]
      rw [List.append_assoc, List.getElem?_append_left (by omega), List.getElem?_take, if_pos hj]
    · subst hj
      rw [List.append_assoc, List.getElem?_append_left (by omega), List.getElem?_take, if_pos (by omega), List.getElem?_set_self (by omega)]
      rw [List.append_assoc, List.getElem?_append_right (by omega), e2]
      simp
    · have hL : ((cells.toList.set (off + k) x).take (off + (k + 1)) ++ r ++ (cells.toList.set (off + k) x).drop (off + (k + 1) + r.length))[j]? =
          (r ++ (cells.toList.set (off + k) x).drop (off + (k + 1) + r.length))[j - (off + k + 1)]? := by
        rw [List.append_assoc, List.getElem?_append_right (by omega), e1]
      have hR : (cells.toList.take (off + k) ++ x :: r ++ cells.toList.drop (off + k + (r.length + 1)))[j]? =
          (r ++ cells.toList.drop (off + k + (r.length + 1)))[j - (off + k + 1)]? := by
        rw [List.append_assoc, List.getElem?_append_right (by omega), e2, show j - (off + k) = (j - (off + k + 1)) + 1 by omega, List.cons_append, List.getElem?_cons_succ]
      rw [hL, hR]
      rcases Nat.lt_or_ge (j - (off + k + 1)) r.length with h1 | h1
      · rw [List.getElem?_append_left h1, List.getElem?_append_left h1]
      · rw [List.getElem?_append_right h1, List.getElem?_append_right h1, List.getElem?_drop, List.getElem?_drop, List.getElem?_set_ne (by omega)]
        congr 1; omega

/-- lists that agree in three pieces -/
theorem RepL.splice {A M C : List V} {X Y Z : List Value} (h1 : RepL w R ι A X) (h2 : RepL w R ι M Y) (h3 : RepL w R ι C Z) : RepL w R ι (A ++ M ++ C) (X ++ Y ++ Z) := by
  refine ⟨by simp [h1.1, h2.1, h3.1], fun i v x e e' => ?_⟩
  have l1 := h1.1
  have l2 := h2.1
  rw [List.append_assoc] at e e'
  rcases Nat.lt_or_ge i A.length with hi | hi
  · rw [List.getElem?_append_left hi] at e
    rw [List.getElem?_append_left (by omega)] at e'
    exact h1.2 i v x e e'
  · rw [List.getElem?_append_right hi] at e
    rw [List.getElem?_append_right (by omega), ← l1] at e'
    rcases Nat.lt_or_ge (i - A.length) M.length with hj | hj
    · rw [List.getElem?_append_left hj] at e
      rw [List.getElem?_append_left (by omega)] at e'
      exact h2.2 _ v x e e'
    · rw [List.getElem?_append_right hj] at e
      rw [List.getElem?_append_right (by omega), ← l2] at e'
      exact h3.2 _ v x e e'

theorem RepL.take {A : List V} {X : List Value} (h1 : RepL w R ι A X) (n : Nat) : RepL w R ι (A.take n) (X.take n) :=
  ⟨by simp [h1.1], fun i v x e e' => by
    rw [List.getElem?_take] at e e'
    split at e
    · rename_i hi; rw [if_pos hi] at e'; exact h1.2 i v x e e'
    · cases e⟩
theorem RepL.drop {A : List V} {X : List Value} (h1 : RepL w R ι A X) (n : Nat) : RepL w R ι (A.drop n) (X.drop n) :=
  ⟨by simp [h1.1], fun i v x e e' => by
    rw [List.getElem?_drop] at e e'
    exact h1.2 _ v x e e'⟩

theorem fill_ok (hG : GRel G w R ι) (hE : ERel w R ι fr a) {place : Nat → Option (Nat × Nat)} : ∀ (ps : List (Nat × Operand)) (aps : List (Nat × Nat × Opd)) (cells : List V) (cur : Array Value) (cs : List V),
    partsOf G place ps = some aps → RepL w R ι cells cur.toList → (∀ v ∈ cells, v.one = true) → fill cells (aps.map fun p => (p.1, p.2.1, ev fr p.2.2)) = some cs →
    ∃ cur', Instr.fill place cur (ps.map fun p => (p.1, a.eval p.2)) = some cur' ∧ RepL w R ι cs cur'.toList ∧ ∀ v ∈ cs, v.one = true
  | [], aps, cells, cur, cs, hp, hl, ho, hf => by
    cases hp
    simp only [List.map_nil, fill] at hf
    cases hf
    exact ⟨cur, rfl, hl, ho⟩
  | (i, x) :: r, aps, cells, cur, cs, hp, hl, ho, hf => by
    unfold partsOf at hp
    split at hp
    · rename_i o n y l h1 h2 h3
      cases hp
      simp only [List.map_cons, fill] at hf
      split at hf
      · rename_i hc
        simp only [Bool.and_eq_true, decide_eq_true_eq] at hc
        obtain ⟨⟨hc1, hc2⟩, hc3⟩ := hc
        have hv := ev_rel hG hE h2
        have hne : (ev fr y).cells ≠ [] := by intro e; rw [e] at hc1; simp at hc1; omega
        obtain ⟨hcl, hone⟩ := hv.cells hne
        have hsz : (a.eval x).cells.size = n := by rw [← hc1]; simpa using hcl.1.symm
        have hcs : cur.size = cells.length := by simpa using hl.1.symm
        have hset := foldl_set o (a.eval x).cells.toList 0 cur (by simp; omega)
        have hz : (a.eval x).cells.zipIdx.foldl (fun (cs : Array Value) (p : Value × Nat) => cs.setIfInBounds (o + p.2) p.1) cur =
            ((a.eval x).cells.toList.zipIdx 0).foldl (fun (cs : Array Value) (p : Value × Nat) => cs.setIfInBounds (o + p.2) p.1) cur := by
          rw [← Array.foldl_toList]; simp
        obtain ⟨cur', g1, g2, g3⟩ := fill_ok hG hE r l (cells.take o ++ (ev fr y).cells ++ cells.drop (o + n))
          ((a.eval x).cells.zipIdx.foldl (fun (cs : Array Value) (p : Value × Nat) => cs.setIfInBounds (o + p.2) p.1) cur) cs h3 (by
            rw [hz, hset]
            have : (a.eval x).cells.toList.length = n := by simpa using hsz
            rw [this, Nat.add_zero]
            exact (hl.take o).splice hcl (hl.drop (o + n))) (by
            intro v hv'
            simp only [List.mem_append] at hv'
            rcases hv' with (hv' | hv') | hv'
            · exact ho v (List.mem_of_mem_take hv')
            · exact hone v hv'
            · exact ho v (List.mem_of_mem_drop hv')) hf
        refine ⟨cur', ?_, g2, g3⟩
        simp only [List.map_cons, Instr.fill, h1, hsz]
        rw [if_neg (by simp; omega)]
        exact g1
      · cases hf
    · cases hp

theorem zeroOf_spec {t : TypeId} {z : List V} (e : zeroOf P t = some z) : ∃ i v, P.info? t = some i ∧ i.zero = some v ∧ vsOf v.cells.toList = some z ∧ z.length = i.size := by
  unfold zeroOf at e
  split at e
  · rename_i i hi
    split at e
    · rename_i v hv
      split at e
      · rename_i l hl
        split at e
        · rename_i hs; cases e; exact ⟨i, v, hi, hv, hl, hs⟩
        · cases e
      · cases e
    · cases e
  · cases e

theorem vsOf_repL {xs : List Value} {vs : List V} (e : vsOf xs = some vs) : RepL w R ι vs xs ∧ ∀ v ∈ vs, v.one = true := by
  obtain ⟨h1, h2, h3⟩ := vsOf_spec e
  exact ⟨⟨h1, fun i v x ev ex => by
    obtain ⟨y, hy, hr⟩ := h3 i v ev
    rw [ex] at hy; cases hy; exact hr⟩, h2⟩

theorem RepL.get {vs : List V} {xs : List Value} (h1 : RepL w R ι vs xs) {i : Nat} {v : V} (e : vs[i]? = some v) : ∃ x, xs[i]? = some x ∧ Rep w R ι v x := by
  have hi : i < xs.length := by rw [← h1.1]; exact (List.getElem?_eq_some_iff.1 e).1
  exact ⟨xs[i], List.getElem?_eq_getElem hi, h1.2 i v _ e (List.getElem?_eq_getElem hi)⟩

theorem alloc_ok (hr : HRel w R ι h) {t : TypeId} {z : List V} (e : zeroOf P t = some z) :
    ∃ w' ι' x, (Instr.alloc t true (.tuple #[])).run P w = .ok x w' ∧ Post w R ι h w' R ι' (h.new (.cells z)) ∧ Rep w' R ι' (.mptr h.next 0) x := by
  obtain ⟨i, v, hi, hv, hz, hl⟩ := zeroOf_spec e
  obtain ⟨hrep, hone⟩ := vsOf_repL (w := w) (R := R) (ι := ι) hz
  refine ⟨{ w with heap := w.heap.push (.cells v.cells t) }, _, .pointer (some ⟨w.heap.size, 0, none⟩), ?_,
    Post.alloc hr (cur := v.cells) (t := t) rfl rfl rfl rfl (by have := hrep.1; simp at this; omega) hone (fun j u eu => ?_), .mptr _ 0 ⟨w.heap.size, v.cells.size⟩ (named_same ..)⟩
  · simp [Instr.alloc, zeroValue, typeInfo, hi, hv, newVar, newRow]
  · simpa using hrep.get eu

theorem box_ok (hr : HRel w R ι h) {t : TypeId} {u : V} {x : Value} (hu : Rep w R ι u x) :
    ∃ w' ι' y, (Instr.box t x).run P w = .ok y w' ∧ Post w R ι h w' R ι' (h.new (.cells u.cells)) ∧ Rep w' R ι' (.mptr h.next 0) y := by
  refine ⟨{ w with heap := w.heap.push (.cells x.cells t) }, _, .pointer (some ⟨w.heap.size, 0, none⟩), ?_,
    Post.alloc hr (cur := x.cells) (t := t) rfl rfl rfl rfl ?_ ?_ ?_, .mptr _ 0 ⟨w.heap.size, x.cells.size⟩ (named_same ..)⟩
  · simp [Instr.box, newVar, newRow]
  · by_cases hne : u.cells = []
    · simp [hne]
    · have := (hu.cells hne).1.1; simp at this; omega
  · intro v hv
    by_cases hne : u.cells = []
    · simp [hne] at hv
    · exact (hu.cells hne).2 v hv
  · intro j v ev'
    by_cases hne : u.cells = []
    · simp [hne] at ev'
    · simpa using (hu.cells hne).1.get ev'

theorem built_ok (hG : GRel G w R ι) (hE : ERel w R ι fr a) {t : TypeId} {ps : Array (Nat × Operand)} {o : Oper} (ho : o.op = .build t ps) {ao : AOp} (e : aop P G o = some ao)
    {v : V} (e1 : op1 fr h ao = some (v, h')) : h' = h ∧ ∃ y, (Instr.build t (ps.map fun (i, x) => (i, a.eval x))).run P w = .ok y w ∧ Rep w R ι v y := by
  unfold aop at e
  simp only [ho] at e
  have fin : ∀ {place : Nat → Option (Nat × Nat)} {z : List V}, zeroOf P t = some z → ((partsOf G place ps.toList).map (AOp.build z)) = some ao →
      (∀ cells, (∀ zv : Value, (P.info? t).bind (·.zero) = some zv → Instr.fill place zv.cells (ps.map fun (i, x) => (i, a.eval x)).toList = some cells) →
        (P.info? t).isSome → P.built t (ps.map fun (i, x) => (i, a.eval x)).toList = some cells) →
      h' = h ∧ ∃ y, (Instr.build t (ps.map fun (i, x) => (i, a.eval x))).run P w = .ok y w ∧ Rep w R ι v y := by
    intro place z hz hp hb
    cases hps : partsOf G place ps.toList with
    | none => rw [hps] at hp; cases hp
    | some aps =>
      rw [hps] at hp
      cases hp
      simp only [op1] at e1
      cases hf : fill z (aps.map fun p => (p.1, p.2.1, ev fr p.2.2)) with
      | none => rw [hf] at e1; cases e1
      | some cs =>
        rw [hf] at e1
        cases e1
        obtain ⟨i, zv, hi, hzv, hvs, hl⟩ := zeroOf_spec hz
        obtain ⟨hrep, hone⟩ := vsOf_repL (w := w) (R := R) (ι := ι) hvs
        obtain ⟨cur', g1, g2, g3⟩ := fill_ok hG hE ps.toList aps z zv.cells cs hps hrep hone hf
        refine ⟨rfl, .agg cur', run_build w t _ cur' (hb cur' (fun zv' hzv' => ?_) (by rw [hi]; rfl)), ?_⟩
        · rw [hi] at hzv'
          simp only [Option.bind_some, hzv] at hzv'
          cases hzv'
          rw [Array.toList_map]
          exact g1
        · have := Rep.agg cs cur'.toList (by simpa using g2.1) g3 g2.2
          simpa using this
  split at e
  · rename_i it fs z h1 h2 h3
    split at e
    · rename_i pl h4
      refine fin h3 e fun cells hb _ => ?_
      obtain ⟨i, zv, hi, hzv, _⟩ := zeroOf_spec h3
      have := hb zv (by rw [hi]; exact hzv)
      simp only [Program.built, hi, h2, hzv, h4]
      exact this
    · cases e
  · rename_i it n el z h1 h2 h3
    split at e
    · rename_i ie h4
      refine fin h3 e fun cells hb _ => ?_
      obtain ⟨i, zv, hi, hzv, _⟩ := zeroOf_spec h3
      have := hb zv (by rw [hi]; exact hzv)
      simp only [Program.built, hi, h2, hzv, h4]
      exact this
    · cases e
  · cases e
end
end Go.Ab

namespace Go.Ab
section
variable {P : Program} {G : Nat → Option V} {w w' : World} {R R' : Nat → Prop} {ι ι' : Nat → Option Loc} {h h' : Heap} {fr : List V} {a : Act}

theorem flatten_replicate (z : List V) : ∀ (n i : Nat), (List.replicate n z).flatten[i]? = if i < n * z.length then z[i % z.length]? else none
  | 0, i => by simp
  | n + 1, i => by
    simp only [List.replicate_succ, List.flatten_cons]
    rcases Nat.lt_or_ge i z.length with hi | hi
    · rw [List.getElem?_append_left hi, if_pos (by rw [Nat.add_mul]; omega), Nat.mod_eq_of_lt hi]
    · rw [List.getElem?_append_right hi, flatten_replicate z n (i - z.length)]
      have e : (i - z.length) % z.length = i % z.length := by
        conv => rhs; rw [show i = (i - z.length) + z.length by omega, Nat.add_mod_right]
      rw [e]
      by_cases hc : i < (n + 1) * z.length
      · rw [if_pos hc, if_pos (by rw [Nat.add_mul] at hc; omega)]
      · rw [if_neg hc, if_neg (by rw [Nat.add_mul] at hc; omega)]

theorem zeros_rep {z : List V} {zc : Array Value} (hl : RepL w R ι z zc.toList) (n : Nat) :
    RepL w R ι (List.replicate n z).flatten (((Array.range (n * zc.size)).map fun i => zc[i % zc.size]!).toList) := by
  have hs : z.length = zc.size := by simpa using hl.1
  refine ⟨by simp [hs], fun i v x e e' => ?_⟩
  rw [flatten_replicate] at e
  split at e
  · rename_i hi
    rw [hs] at hi e
    have hp : 0 < zc.size := by
      rcases Nat.eq_zero_or_pos zc.size with h0 | h0
      · rw [h0] at hi; simp at hi
      · exact h0
    have hm : i % zc.size < zc.size := Nat.mod_lt _ hp
    simp only [Array.toList_map, Array.toList_range, List.getElem?_map, List.getElem?_range hi, Option.map_some, Option.some.injEq] at e'
    subst e'
    refine hl.2 _ v _ e ?_
    simp [hm]
  · cases e

theorem lit_ok (hr : HRel w R ι h) (hG : GRel G w R ι) (hE : ERel w R ι fr a) {t el : TypeId} {n : Nat} {ps : Array (Nat × Operand)} {z : List V} {ie : TypeInfo} {aps : List (Nat × Nat × Opd)}
    (hu : P.underlying t = some (.slice el)) (hz : zeroOf P el = some z) (hi : P.info? el = some ie) (hn : n * z.length ≤ 16777216) (hz0 : 0 < z.length)
    (hp : partsOf G (fun i => some (i * ie.size, ie.size)) ps.toList = some aps) {cs : List V} (hf : fill (List.replicate n z).flatten (aps.map fun p => (p.1, p.2.1, ev fr p.2.2)) = some cs) :
    ∃ w' ι' x, (Instr.buildSlice t n (ps.map fun (i, x) => (i, a.eval x))).run P w = .ok x w' ∧ Post w R ι h w' R ι' (h.new (.cells cs)) ∧ Rep w' R ι' (.msl h.next ie.size 0 n none) x := by
  obtain ⟨i, v, hi', hv, hvs, hl⟩ := zeroOf_spec hz
  rw [hi] at hi'; cases hi'
  obtain ⟨hrep, hone⟩ := vsOf_repL (w := w) (R := R) (ι := ι) hvs
  have hzs : v.cells.size = ie.size := by rw [← hl]; simpa using hrep.1.symm
  have hzr := zeros_rep hrep n
  obtain ⟨cur', g1, g2, g3⟩ := fill_ok hG hE ps.toList aps _ ((Array.range (n * v.cells.size)).map fun i => v.cells[i % v.cells.size]!) cs hp hzr (by
    intro u hu'
    obtain ⟨l, hl1, hl2⟩ := List.mem_flatten.1 hu'
    rw [List.eq_of_mem_replicate hl1] at hl2
    exact hone u hl2) hf
  have hcl : cs.length = n * ie.size := by
    have fl : ∀ (ps : List (Nat × Nat × V)) (c c' : List V), fill c ps = some c' → c'.length = c.length := by
      intro ps
      induction ps with
      | nil => intro c c' e; simp only [fill] at e; cases e; rfl
      | cons p r ih =>
        intro c c' e
        obtain ⟨o, m, u⟩ := p
        simp only [fill] at e
        split at e
        · rename_i hc
          simp only [Bool.and_eq_true, decide_eq_true_eq] at hc
          rw [ih _ _ e]; simp only [List.length_append, List.length_take, List.length_drop, hc.1.1]; omega
        · cases e
    rw [fl _ _ _ hf]; simp [hl]
  have hcz : cur'.size = n * ie.size := by rw [← hcl]; simpa using g2.1.symm
  refine ⟨{ w with heap := w.heap.push (.cells cur' el) }, _, .slice (some ⟨w.heap.size, 0, none⟩) n n, ?_,
    Post.alloc hr (cur := cur') (t := el) rfl rfl rfl rfl (by omega) g3 (fun j u eu => by simpa using g2.get eu), ?_⟩
  · have hle : ¬ (2 ^ 24 < n * ie.size) := by rw [← hl]; omega
    have hle' : ¬ (16777216 < n * ie.size) := by rw [← hl]; omega
    rw [hzs] at g1
    have g1' : Instr.fill (fun i => some (i * ie.size, ie.size)) ((Array.range (n * ie.size)).map fun x => v.cells[x % ie.size]!) (ps.map fun (i, x) => (i, a.eval x)).toList = some cur' := by
      rw [Array.toList_map]; exact g1
    by_cases hn0 : n = 0
    · subst hn0
      have hz0' : ∀ f : Nat → Value, (Array.range 0).map f = #[] := fun f => by simp
      simp [Instr.buildSlice, run_underlying hu, run_sizeOf hi, newRow]
      simp at g1'
      rw [hz0'] at g1' ⊢
      rw [g1']
      simp
    · have hnz : ¬ (n * ie.size = 0) := by
        intro e
        rcases Nat.mul_eq_zero.1 e with h0 | h0
        · omega
        · omega
      simp [Instr.buildSlice, run_underlying hu, run_sizeOf hi, hle', hnz, zeroValue, typeInfo, hi, hv, hzs, newRow]
      simp at g1'
      rw [g1']
      simp
  · have := Rep.msl (w := { w with heap := w.heap.push (.cells cur' el) }) (R := R) (ι := named ι h.next ⟨w.heap.size, cur'.size⟩) h.next ie.size 0 n none ⟨w.heap.size, cur'.size⟩ n (named_same ..) (Nat.le_refl _)
      (fun _ => by simp [hcz]) (fun _ e => by cases e)
    simpa using this

/-! fields -/

theorem info_of_cellsOf {t : TypeId} (e : P.cellsOf t ≠ 0) : ∃ i, P.info? t = some i ∧ i.size = P.cellsOf t := by
  unfold Program.cellsOf at *
  cases hi : P.info? t with
  | none => rw [hi] at e; exact absurd rfl e
  | some i => exact ⟨i, rfl, rfl⟩

theorem faddr_ok {t : TypeId} {fs : Array Field} {k : Nat} {f : Field} (hu : P.underlying t = some (.struct fs)) (hf : fs[k]? = some f) (h0 : P.cellsOf f.type ≠ 0)
    {v u : V} {x : Value} (hv : Rep w R ι v x) (e : op1 [v] h (.faddr f.offset (.t 0)) = some (u, h')) : h' = h ∧ ∃ y, (Instr.fieldAt t x k).run P w = .ok y w ∧ Rep w R ι u y := by
  obtain ⟨i, hi, hs⟩ := info_of_cellsOf h0
  have run : ∀ ad : Addr, x = .pointer (some ad) → (Instr.fieldAt t x k).run P w = .ok (.pointer (some (ad.add f.offset))) w := by
    rintro ad rfl
    simp [Instr.fieldAt, run_underlying hu, hf, Instr.sureAddr, fieldPlace, run_sizeOf hi, show i.size ≠ 0 by omega]
  simp only [op1, ev, List.getD_cons_zero] at e
  split at e
  · rename_i cs
    split at e
    · rename_i hle
      cases e
      cases hv with
      | fptr cs ad g hs' hR hone hlow hcell hr =>
        refine ⟨rfl, _, run ad rfl, ?_⟩
        rw [addr_add hs']
        refine .fptr _ _ (fun i => g (f.offset + i)) rfl hR (fun v hv => hone v (List.mem_of_mem_drop hv)) (lows_spec.2 fun v hv => lows_spec.1 hlow v (List.mem_of_mem_drop hv)) (fun j v ej => ?_) (fun j v ej => ?_)
        · rw [List.getElem?_drop] at ej
          have := hcell _ v ej
          rw [← Nat.add_assoc] at this
          exact this
        · rw [List.getElem?_drop] at ej; exact hr _ v ej
    · cases e
  · rename_i id o
    cases e
    cases hv with
    | mptr _ _ loc hι =>
      refine ⟨rfl, _, run _ rfl, ?_⟩
      rw [addr_add rfl]
      exact .mptr id (o + f.offset) loc hι
  · cases e

theorem part_ok {t : TypeId} {g : Bool} {n : Nat} (hg : aggT P t = some g) (hn : P.cellsOf t = n) (hi : g = true → P.info? t ≠ none) {cs : List V} {xs : Array Value} {off : Nat} (hl : RepL w R ι cs xs.toList) (ho : ∀ v ∈ cs, v.one = true)
    {u : V} (e : part g n (cs.drop off) = some u) : ∃ y, (Go.part t xs off).run P w = .ok y w ∧ Rep w R ι u y := by
  unfold part at e
  split at e
  · cases e
  · rename_i hlen
    have hlen' : off + n ≤ cs.length ∨ n = 0 := by simp only [List.length_drop] at hlen; omega
    cases g with
    | true =>
      simp only [if_true] at e
      cases e
      obtain ⟨i, hi'⟩ := Option.ne_none_iff_exists'.1 (hi rfl)
      have hsz : i.size = n := by rw [← hn]; simp [Program.cellsOf, hi']
      refine ⟨.agg (xs.extract off (off + n)), by simp [Go.part, run_isAgg hg, run_sizeOf hi', hsz], ?_⟩
      have h2 := (hl.drop off).take n
      have := Rep.agg _ _ h2.1 (fun v hv => ho v (List.mem_of_mem_drop (List.mem_of_mem_take hv))) h2.2
      have e3 : ((xs.toList.drop off).take n).toArray = xs.extract off (off + n) := by
        apply Array.ext'
        simp
      rwa [e3] at this
    | false =>
      simp only [Bool.false_eq_true, if_false] at e
      split at e
      · rename_i c r hd
        split at e
        · cases e
          have he : cs[off]? = some u := by
            have : (cs.drop off)[0]? = some u := by rw [hd]; rfl
            simpa using this
          obtain ⟨y, hy, hrep⟩ := hl.get he
          refine ⟨y, ?_, hrep⟩
          have hy' : xs[off]? = some y := by simpa using hy
          simp [Go.part, run_isAgg hg, hy']
        · cases e
      · cases e

theorem field_ok {t : TypeId} {fs : Array Field} {k : Nat} {f : Field} {g : Bool} (hu : P.underlying t = some (.struct fs)) (hf : fs[k]? = some f) (hg : aggT P f.type = some g)
    {v u : V} {x : Value} (hv : Rep w R ι v x) (e : op1 [v] h (.field f.offset (P.cellsOf f.type) g (.t 0)) = some (u, h')) : h' = h ∧ ∃ y, (Instr.field t x k).run P w = .ok y w ∧ Rep w R ι u y := by
  simp only [op1, ev, List.getD_cons_zero] at e
  split at e
  · rename_i cs
    cases hp : part g (P.cellsOf f.type) (cs.drop f.offset) with
    | none => rw [hp] at e; cases e
    | some p =>
      rw [hp] at e
      cases e
      cases hv with
      | agg _ xs hl hone hr =>
        have hi : g = true → P.info? f.type ≠ none := by
          rintro rfl hn
          unfold aggT Program.underlying at hg
          rw [hn] at hg
          cases hg
        obtain ⟨y, h1, h2⟩ := part_ok (w := w) (R := R) (ι := ι) hg rfl hi (xs := xs.toArray) ⟨by simpa using hl, by simpa using hr⟩ hone hp
        exact ⟨rfl, y, by simp [Instr.field, run_underlying hu, hf, asAgg, h1], h2⟩
  · cases e

/-! elements -/

theorem flat_at {sz : Nat} : ∀ {es : List V} (_ : ∀ e ∈ es, e.cells.length = sz) {i : Nat} {e : V}, es[i]? = some e → ∀ j, j < sz → (es.flatMap V.cells)[i * sz + j]? = e.cells[j]?
  | [], _, i, e, he, _, _ => by simp at he
  | x :: r, hs, i, e, he, j, hj => by
    have hx : x.cells.length = sz := hs x (List.mem_cons_self ..)
    simp only [List.flatMap_cons]
    cases i with
    | zero =>
      simp at he; subst he
      rw [List.getElem?_append_left (by omega)]; congr 1; omega
    | succ i =>
      have h1 : (i + 1) * sz + j = sz + (i * sz + j) := by rw [Nat.add_mul]; omega
      rw [h1, List.getElem?_append_right (by omega), hx, show sz + (i * sz + j) - sz = i * sz + j by omega]
      exact flat_at (fun e' h' => hs e' (List.mem_cons_of_mem _ h')) (by simpa using he) j hj

theorem flat_length {sz : Nat} : ∀ {es : List V} (_ : ∀ e ∈ es, e.cells.length = sz), (es.flatMap V.cells).length = es.length * sz
  | [], _ => by simp
  | x :: r, hs => by
    have hx : x.cells.length = sz := hs x (List.mem_cons_self ..)
    simp only [List.flatMap_cons, List.length_append, List.length_cons, hx, flat_length fun e' h' => hs e' (List.mem_cons_of_mem _ h'), Nat.add_mul]; omega

theorem idx_spec {v : V} {n : Nat} {x : Value} (e : idx v = some n) (hv : Rep w R ι v x) : ∃ k, x = .int k (n : Int) := by
  unfold idx at e
  split at e
  · rename_i k i
    split at e
    · rename_i h0
      cases e
      cases hv
      exact ⟨k, by rw [Int.toNat_of_nonneg h0]⟩
    · cases e
  · cases e

theorem iaddr_ok {t el : TypeId} (hu : P.underlying t = some (.slice el)) (h0 : 0 < P.cellsOf el) {v i u : V} {x y : Value} (hv : Rep w R ι v x) (hi : Rep w R ι i y)
    (e : op1 [v, i] h (.iaddr (P.cellsOf el) (.t 0) (.t 1)) = some (u, h')) : h' = h ∧ ∃ z, (Instr.indexAt t x y).run P w = .ok z w ∧ Rep w R ι u z := by
  obtain ⟨ie, hie, hsz⟩ := info_of_cellsOf (P := P) (t := el) (by omega)
  have run : ∀ (ad : Addr) (len cap n : Nat) (k : IntKind), x = .slice (some ad) len cap → y = .int k (n : Int) → n < len → (Instr.indexAt t x y).run P w = .ok (.pointer (some (ad.add (n * P.cellsOf el)))) w := by
    rintro ad len cap n k rfl rfl hlt
    simp [Instr.indexAt, run_underlying hu, asIntOf, run_sizeOf hie, hlt, hsz]
  simp only [op1, ev, List.getD_cons_zero, List.getD_cons_succ] at e
  split at e
  · rename_i n hn
    obtain ⟨k, hy⟩ := idx_spec hn hi
    split at e
    · rename_i es cap
      cases he : es[n]? with
      | none => rw [he] at e; cases e
      | some el' =>
        rw [he] at e
        simp only [Option.bind_some] at e
        split at e
        · rename_i hlen
          cases e
          cases hv with
          | fsl es c ad cap sz g hs hR hlc hc hsz' hone hlow hcell hr =>
            have hlt : n < es.length := (List.getElem?_eq_some_iff.1 he).1
            have hs2 : sz = P.cellsOf el := by rw [← hlen]; exact (hsz' _ (List.mem_of_getElem? he)).symm
            subst hs2
            refine ⟨rfl, _, run ad es.length cap n k rfl hy hlt, ?_⟩
            rw [addr_add hs]
            have key : ∀ (j : Nat) v, el'.cells[j]? = some v → (es.flatMap V.cells)[n * P.cellsOf el + j]? = some v := fun j v ej => by
              rw [flat_at hsz' he j (by rw [← hlen]; exact (List.getElem?_eq_some_iff.1 ej).1)]; exact ej
            refine .fptr _ _ (fun j => g (n * P.cellsOf el + j)) rfl hR (fun v hv => ?_) (lows_spec.2 fun v hv => ?_) (fun j v ej => ?_) (fun j v ej => hr _ v (key j v ej))
            · obtain ⟨j, hj⟩ := List.mem_iff_getElem?.1 hv
              exact hone v (List.mem_of_getElem? (key j v hj))
            · obtain ⟨j, hj⟩ := List.mem_iff_getElem?.1 hv
              exact lows_spec.1 hlow v (List.mem_of_getElem? (key j v hj))
            · have := hcell _ v (key j v ej)
              rw [← Nat.add_assoc] at this
              exact this
        · cases e
    · rename_i id sz' off len cap
      split at e
      · rename_i hc
        simp only [Bool.and_eq_true, decide_eq_true_eq] at hc
        obtain ⟨rfl, hlt⟩ := hc
        cases e
        cases hv with
        | msl _ _ _ _ _ loc c hι hlc hfull hcap =>
          refine ⟨rfl, _, run _ len c n k rfl hy hlt, ?_⟩
          rw [addr_add rfl]
          have := Rep.mptr (w := w) (R := R) id ((off + n) * P.cellsOf el) loc hι
          rw [Nat.add_mul] at this ⊢
          exact this
      · cases e
    · cases e
  · cases e

theorem iaddrA_ok {t el : TypeId} {len : Nat} (hu : P.underlying t = some (.array len el)) (h0 : 0 < P.cellsOf el) {v i u : V} {x y : Value} (hv : Rep w R ι v x) (hi : Rep w R ι i y)
    (e : op1 [v, i] h (.iaddrA (P.cellsOf el) len (.t 0) (.t 1)) = some (u, h')) : h' = h ∧ ∃ z, (Instr.indexAt t x y).run P w = .ok z w ∧ Rep w R ι u z := by
  obtain ⟨ie, hie, hsz⟩ := info_of_cellsOf (P := P) (t := el) (by omega)
  have run : ∀ (ad : Addr) (n : Nat) (k : IntKind), x = .pointer (some ad) → y = .int k (n : Int) → n < len → (Instr.indexAt t x y).run P w = .ok (.pointer (some (ad.add (n * P.cellsOf el)))) w := by
    rintro ad n k rfl rfl hlt
    simp [Instr.indexAt, run_underlying hu, asIntOf, run_sizeOf hie, hlt, hsz, Instr.sureAddr]
  simp only [op1, ev, List.getD_cons_zero, List.getD_cons_succ] at e
  split at e
  · rename_i n hn
    obtain ⟨k, hy⟩ := idx_spec hn hi
    split at e
    · rename_i hlt
      split at e
      · rename_i cs
        split at e
        · rename_i hle
          cases e
          cases hv with
          | fptr cs ad g hs' hR hone hlow hcell hr =>
            refine ⟨rfl, _, run ad n k rfl hy hlt, ?_⟩
            rw [addr_add hs']
            refine .fptr _ _ (fun j => g (n * P.cellsOf el + j)) rfl hR (fun v hv => hone v (List.mem_of_mem_drop hv)) (lows_spec.2 fun v hv => lows_spec.1 hlow v (List.mem_of_mem_drop hv)) (fun j v ej => ?_) (fun j v ej => ?_)
            · rw [List.getElem?_drop] at ej
              have := hcell _ v ej
              rw [← Nat.add_assoc] at this
              exact this
            · rw [List.getElem?_drop] at ej; exact hr _ v ej
        · cases e
      · rename_i id o
        cases e
        cases hv with
        | mptr _ _ loc hι =>
          refine ⟨rfl, _, run _ n k rfl hy hlt, ?_⟩
          rw [addr_add rfl]
          exact .mptr id (o + n * P.cellsOf el) loc hι
      · cases e
    · cases e
  · cases e

theorem index_ok {t : TypeId} (hu : P.underlying t = some .string) {v i u : V} {x y : Value} (hv : Rep w R ι v x) (hi : Rep w R ι i y)
    (e : op1 [v, i] h (.index (.t 0) (.t 1)) = some (u, h')) : h' = h ∧ ∃ z, (Instr.index t x y).run P w = .ok z w ∧ Rep w R ι u z := by
  simp only [op1, ev, List.getD_cons_zero, List.getD_cons_succ] at e
  split at e
  · rename_i s n hn
    obtain ⟨k, rfl⟩ := idx_spec hn hi
    cases hv with
    | str s =>
      cases hb : (s.data.toList.map UInt8.toNat)[n]? with
      | none => rw [hb] at e; cases e
      | some b =>
        rw [hb] at e
        cases e
        rw [List.getElem?_map] at hb
        cases hd : s.data.toList[n]? with
        | none => rw [hd] at hb; cases hb
        | some c =>
          rw [hd] at hb
          cases hb
          have hlt : n < s.size := by have := (List.getElem?_eq_some_iff.1 hd).1; rw [Array.length_toList] at this; exact this
          have hc : s[n]? = some c := by
            have h1 := (List.getElem?_eq_some_iff.1 hd).2
            rw [getElem?_pos s n hlt]
            rw [Array.getElem_toList] at h1
            exact congrArg some h1
          refine ⟨rfl, .int .u8 c.toNat, ?_, .int _ _⟩
          simp [Instr.index, run_underlying hu, asIntOf, hc]
  · cases e

theorem extract_ok {k : Nat} {v u : V} {x : Value} (hv : Rep w R ι v x) (e : op1 [v] h (.extract (.t 0) k) = some (u, h')) : h' = h ∧ ∃ z, (Instr.extract x k).run P w = .ok z w ∧ Rep w R ι u z := by
  simp only [op1, ev, List.getD_cons_zero] at e
  split at e
  · rename_i vs
    cases hk : vs[k]? with
    | none => rw [hk] at e; cases e
    | some z =>
      rw [hk] at e
      cases e
      cases hv with
      | tup _ xs hl hr =>
        obtain ⟨y, hy, hrep⟩ := RepL.get (w := w) (R := R) (ι := ι) ⟨hl, hr⟩ hk
        exact ⟨rfl, y, by simp [Instr.extract, hy], hrep⟩
  · cases e
end
end Go.Ab

namespace Go.Ab
section
variable {P : Program} {G : Nat → Option V} {w w' : World} {R R' : Nat → Prop} {ι ι' : Nat → Option Loc} {h h' : Heap} {fr : List V} {a : Act}

/-- a bound of a slice -/
theorem bound_spec (hG : GRel G w R ι) (hE : ERel w R ι fr a) {lo : Option Operand} {lo' : Option Opd} (e : oopd G lo = some lo') {d l : Nat} (e1 : optIdx fr lo' d = some l) :
    (lo = none ∧ lo' = none ∧ l = d) ∨ ∃ o k, lo = some o ∧ lo'.isSome = true ∧ a.eval o = .int k (l : Int) := by
  cases lo with
  | none => cases e; cases e1; exact .inl ⟨rfl, rfl, rfl⟩
  | some o =>
    simp only [oopd] at e
    cases ho : opd G o with
    | none => rw [ho] at e; cases e
    | some y =>
      rw [ho] at e; cases e
      obtain ⟨k, hk⟩ := idx_spec e1 (ev_rel hG hE ho)
      exact .inr ⟨o, k, rfl, rfl, hk⟩

theorem sliceBound_run (k : IntKind) {n y : Nat} (hn : n ≤ y) (code : BoundsCode) (w : World) : (Instr.sliceBound (.int k (n : Int)) y code).run P w = .ok n w := by
  simp [Instr.sliceBound, asIntOf, hn]

/-- the bounds that a slice expression comes to -/
theorem bounds_run (hG : GRel G w R ι) (hE : ERel w R ι fr a) {lo hi mx : Option Operand} {lo' hi' mx' : Option Opd} (e1 : oopd G lo = some lo') (e2 : oopd G hi = some hi') (e3 : oopd G mx = some mx')
    {len cap l r m : Nat} (f1 : optIdx fr lo' 0 = some l) (f2 : optIdx fr hi' len = some r) (f3 : optIdx fr mx' cap = some m) (hlr : l ≤ r) (hrm : r ≤ m) (hmc : m ≤ cap)
    (hh : mx' = none ∨ hi'.isSome = true) (isSlice : Bool) :
    (Instr.sliceBounds isSlice len cap (lo.map a.eval) (hi.map a.eval) (mx.map a.eval)).run P w = .ok (l, r, m) w := by
  rcases bound_spec hG hE e1 f1 with ⟨rfl, rfl, rfl⟩ | ⟨o1, k1, rfl, _, h1⟩ <;> rcases bound_spec hG hE e2 f2 with ⟨rfl, rfl, rfl⟩ | ⟨o2, k2, rfl, _, h2⟩ <;>
    rcases bound_spec hG hE e3 f3 with ⟨rfl, rfl, rfl⟩ | ⟨o3, k3, rfl, h4, h3⟩ <;>
    simp_all [Instr.sliceBounds, sliceBound_run]

theorem str_len (s : ByteArray) : (s.data.toList.map UInt8.toNat).length = s.size := by rw [List.length_map, Array.length_toList]; rfl

theorem toNat_extract (s : ByteArray) (l r : Nat) : (s.extract l r).data.toList.map UInt8.toNat = ((s.data.toList.map UInt8.toNat).take r).drop l := by
  have : (s.extract l r).data.toList = (s.data.toList.take r).drop l := by
    rw [ByteArray.data_extract, Array.toList_extract, List.extract_eq_take_drop]
    rw [List.drop_take]
  rw [this, List.map_drop, List.map_take]

theorem sliceS_ok (hG : GRel G w R ι) (hE : ERel w R ι fr a) {t : TypeId} (hu : P.underlying t = some .string) {x : Operand} {x' : Opd} (ex : opd G x = some x')
    {lo hi : Option Operand} {lo' hi' : Option Opd} (e1 : oopd G lo = some lo') (e2 : oopd G hi = some hi') {u : V} (e : op1 fr h (.sliceS x' lo' hi') = some (u, h')) :
    h' = h ∧ ∃ z, (Instr.sliceAt t (a.eval x) (lo.map a.eval) (hi.map a.eval) none).run P w = .ok z w ∧ Rep w R ι u z := by
  have hv := ev_rel hG hE ex
  simp only [op1] at e
  split at e
  · rename_i s hs
    rw [hs] at hv
    cases hl : optIdx fr lo' 0 with
    | none => rw [hl] at e; cases e
    | some l =>
      rw [hl] at e; simp only [Option.bind_some] at e
      cases hr : optIdx fr hi' s.length with
      | none => rw [hr] at e; cases e
      | some r =>
        rw [hr] at e; simp only [Option.bind_some] at e
        split at e
        · rename_i hc
          simp only [Bool.and_eq_true, decide_eq_true_eq] at hc
          cases e
          generalize a.eval x = xv at hv
          cases hv with
          | str s =>
            rw [str_len] at hr hc
            refine ⟨rfl, .string (s.extract l r), ?_, ?_⟩
            · have hb := bounds_run (P := P) hG hE e1 e2 (mx := none) (mx' := none) rfl hl hr (cap := s.size) rfl hc.1 hc.2 (Nat.le_refl _) (.inl rfl) false
              simp only [Option.map_none] at hb
              simp [Instr.sliceAt, Instr.slice, run_underlying hu, hb]
            · rw [← toNat_extract]; exact .str _
        · cases e
  · cases e

theorem flat_drop {sz : Nat} : ∀ {es : List V} (_ : ∀ e ∈ es, e.cells.length = sz) (l : Nat), (es.drop l).flatMap V.cells = (es.flatMap V.cells).drop (l * sz)
  | [], _, l => by simp
  | x :: r, hs, l => by
    have hx : x.cells.length = sz := hs x (List.mem_cons_self ..)
    cases l with
    | zero => simp
    | succ l =>
      simp only [List.drop_succ_cons, List.flatMap_cons]
      rw [flat_drop (fun e' h' => hs e' (List.mem_cons_of_mem _ h')) l, Nat.add_mul, Nat.one_mul, Nat.add_comm (l * sz) sz, List.drop_append, hx, show x.cells.drop (sz + l * sz) = [] from List.drop_eq_nil_of_le (by rw [hx]; exact Nat.le_add_right ..), Nat.add_sub_cancel_left, List.nil_append]

theorem flat_take_sub {es : List V} (n : Nat) {i : Nat} {v : V} (e : ((es.take n).flatMap V.cells)[i]? = some v) : (es.flatMap V.cells)[i]? = some v := by
  have : es.flatMap V.cells = (es.take n).flatMap V.cells ++ (es.drop n).flatMap V.cells := by rw [← List.flatMap_append, List.take_append_drop]
  rw [this, List.getElem?_append_left (List.getElem?_eq_some_iff.1 e).1]
  exact e

/-- a part of a frozen slice -/
theorem fsl_part {es : List V} {ad : Addr} {sz : Nat} {g : Nat → Value} (hs : ad.spot = none) (hR : R ad.block) (hsz : ∀ e ∈ es, e.cells.length = sz)
    (hone : ∀ v ∈ es.flatMap V.cells, v.one = true) (hlow : V.lows 0 (es.flatMap V.cells) = true)
    (hcell : ∀ (i : Nat) v, (es.flatMap V.cells)[i]? = some v → w.cell? ⟨ad.block, ad.off + i, none⟩ = some (g i))
    (hr : ∀ (i : Nat) v, (es.flatMap V.cells)[i]? = some v → Rep w R ι v (g i)) {l r m : Nat} (hlr : l ≤ r) (hr' : r ≤ es.length) (hrm : r ≤ m) {c : Option Nat} (hc : ∀ c', c = some c' → m - l = c') :
    Rep w R ι (.fsl ((es.take r).drop l) c) (.slice (if m = l then some ad else (some ad).map (·.add (l * sz))) (r - l) (m - l)) := by
  have hlen : ((es.take r).drop l).length = r - l := by simp; omega
  have hsub : ∀ (i : Nat) v, (((es.take r).drop l).flatMap V.cells)[i]? = some v → (es.flatMap V.cells)[l * sz + i]? = some v := fun i v ei => by
    rw [flat_drop (fun e' h' => hsz e' (List.mem_of_mem_take h')), List.getElem?_drop] at ei
    exact flat_take_sub r ei
  have hmem : ∀ v ∈ ((es.take r).drop l).flatMap V.cells, v ∈ es.flatMap V.cells := fun v hv => by
    obtain ⟨i, hi⟩ := List.mem_iff_getElem?.1 hv
    exact List.mem_of_getElem? (hsub i v hi)
  by_cases hm : m = l
  · have hrl : r = l := by omega
    subst hm; subst hrl
    have he : (es.take r).drop r = [] := by simp
    rw [he, if_pos rfl]
    have := Rep.fsl (w := w) (R := R) (ι := ι) [] c ad (r - r) sz g hs hR (by simp) (by simpa using hc) (by simp) (by simp) rfl (by simp) (by simp)
    simpa using this
  · rw [if_neg hm, Option.map_some, addr_add hs]
    have := Rep.fsl (w := w) (R := R) (ι := ι) ((es.take r).drop l) c ⟨ad.block, ad.off + l * sz, none⟩ (m - l) sz (fun i => g (l * sz + i)) rfl hR (by rw [hlen]; omega) hc
      (fun e' h' => hsz e' (List.mem_of_mem_take (List.mem_of_mem_drop h'))) (fun v hv => hone v (hmem v hv)) (lows_spec.2 fun v hv => lows_spec.1 hlow v (hmem v hv))
      (fun i v ei => by have := hcell _ v (hsub i v ei); rw [← Nat.add_assoc] at this; exact this) (fun i v ei => hr _ v (hsub i v ei))
    rw [hlen] at this
    exact this

theorem slice_run {t el : TypeId} (hu : P.underlying t = some (.slice el)) {ie : TypeInfo} (hie : P.info? el = some ie) {base : Option Addr} {len cap l r m : Nat} {lo hi mx : Option Value} {w : World}
    (hb : (Instr.sliceBounds true len cap lo hi mx).run P w = .ok (l, r, m) w) :
    (Instr.sliceAt t (.slice base len cap) lo hi mx).run P w = .ok (.slice (if m = l then base else base.map (·.add (l * ie.size))) (r - l) (m - l)) w := by
  simp [Instr.sliceAt, Instr.slice, run_underlying hu, hb, run_sizeOf hie]

theorem slice_ok (hr0 : HRel w R ι h) (hG : GRel G w R ι) (hE : ERel w R ι fr a) {t el : TypeId} (hu : P.underlying t = some (.slice el)) (h0 : 0 < P.cellsOf el) {x : Operand} {x' : Opd} (ex : opd G x = some x')
    {lo hi mx : Option Operand} {lo' hi' mx' : Option Opd} (e1 : oopd G lo = some lo') (e2 : oopd G hi = some hi') (e3 : oopd G mx = some mx') (hh : mx' = none ∨ hi'.isSome = true)
    {u : V} (e : op1 fr h (.slice (P.cellsOf el) x' lo' hi' mx') = some (u, h')) :
    h' = h ∧ ∃ z, (Instr.sliceAt t (a.eval x) (lo.map a.eval) (hi.map a.eval) (mx.map a.eval)).run P w = .ok z w ∧ Rep w R ι u z := by
  obtain ⟨ie, hie, hes⟩ := info_of_cellsOf (P := P) (t := el) (by omega)
  have hv := ev_rel hG hE ex
  generalize a.eval x = xv at hv
  simp only [op1] at e
  split at e
  · -- a nil slice
    rename_i hx
    rw [hx] at hv
    cases hv
    cases hl : optIdx fr lo' 0 with
    | none => rw [hl] at e; cases e
    | some l =>
      rw [hl] at e; simp only [Option.bind_some] at e
      cases hr : optIdx fr hi' 0 with
      | none => rw [hr] at e; cases e
      | some r =>
        rw [hr] at e; simp only [Option.bind_some] at e
        cases hm : optIdx fr mx' 0 with
        | none => rw [hm] at e; cases e
        | some m =>
          rw [hm] at e; simp only [Option.bind_some] at e
          split at e
          · rename_i hc
            simp only [Bool.and_eq_true, decide_eq_true_eq] at hc
            obtain ⟨⟨rfl, rfl⟩, rfl⟩ := hc
            cases e
            refine ⟨rfl, _, slice_run hu hie (bounds_run hG hE e1 e2 e3 (len := 0) (cap := 0) hl hr hm (Nat.le_refl _) (Nat.le_refl _) (Nat.le_refl _) hh true), ?_⟩
            exact .nilsl
          · cases e
  · -- an empty one
    rename_i hx
    rw [hx] at hv
    cases hv with
    | esl ad c =>
      cases hl : optIdx fr lo' 0 with
      | none => rw [hl] at e; cases e
      | some l =>
        rw [hl] at e; simp only [Option.bind_some] at e
        cases hr : optIdx fr hi' 0 with
        | none => rw [hr] at e; cases e
        | some r =>
          rw [hr] at e; simp only [Option.bind_some] at e
          split at e
          · rename_i hc
            simp only [Bool.and_eq_true, decide_eq_true_eq, Option.isNone_iff_eq_none] at hc
            obtain ⟨⟨rfl, rfl⟩, rfl⟩ := hc
            cases e
            refine ⟨rfl, _, slice_run hu hie (bounds_run hG hE e1 e2 e3 (len := 0) (cap := c) hl hr rfl (Nat.le_refl _) (Nat.zero_le _) (Nat.le_refl _) hh true), ?_⟩
            have e' : (if c - 0 = 0 then some ad else (some ad).map (·.add (0 * ie.size))) = some ad := by split <;> simp [Addr.add]
            by_cases hc0 : c = 0
            · rw [if_pos hc0]; exact .esl ad _
            · rw [if_neg hc0]; simp only [Option.map_some]; exact .esl _ _
          · cases e
  · -- a frozen one
    rename_i es cap hx
    rw [hx] at hv
    cases hv with
    | fsl _ _ ad c sz g hs hR hlc hcap hsz hone hlow hcell hrep =>
      cases hl : optIdx fr lo' 0 with
      | none => rw [hl] at e; cases e
      | some l =>
        rw [hl] at e; simp only [Option.bind_some] at e
        cases hr : optIdx fr hi' es.length with
        | none => rw [hr] at e; cases e
        | some r =>
          rw [hr] at e; simp only [Option.bind_some] at e
          split at e
          · rename_i hc
            simp only [Bool.and_eq_true, decide_eq_true_eq] at hc
            obtain ⟨⟨hlr, hrl⟩, hhd⟩ := hc
            have hsz' : ∀ e ∈ es, e.cells.length = ie.size := by
              intro e' he'
              cases es with
              | nil => cases he'
              | cons y ys =>
                simp only [headSz, decide_eq_true_eq] at hhd
                rw [hsz e' he', ← hsz y (List.mem_cons_self ..), hhd, hes]
            split at e
            · cases e
              refine ⟨rfl, _, slice_run hu hie (bounds_run hG hE e1 e2 e3 (len := es.length) (cap := c) (m := c) hl hr rfl hlr (by omega) (Nat.le_refl _) hh true), ?_⟩
              refine fsl_part hs hR hsz' hone hlow hcell hrep hlr hrl (by omega) (fun c' hc' => ?_)
              cases cap with
              | none => cases hc'
              | some c0 => rw [hcap c0 rfl]; simpa using hc'
            · rename_i o
              cases hm : idx (ev fr o) with
              | none => rw [hm] at e; cases e
              | some m =>
                rw [hm] at e; simp only [Option.bind_some] at e
                split at e
                · rename_i hc2
                  simp only [Bool.and_eq_true, decide_eq_true_eq] at hc2
                  cases e
                  refine ⟨rfl, _, slice_run hu hie (bounds_run hG hE e1 e2 e3 (len := es.length) (cap := c) (m := m) hl hr hm hlr hc2.1 (by omega) hh true), ?_⟩
                  exact fsl_part hs hR hsz' hone hlow hcell hrep hlr hrl hc2.1 (fun c' hc' => by simpa using hc')
                · cases e
          · cases e
  · -- one of the call's own
    rename_i id sz off len cap hx
    rw [hx] at hv
    cases hv with
    | msl _ _ _ _ _ loc c hι hlc hfull hcap =>
      cases hcs : h.cellsOf id with
      | none => rw [hcs] at e; cases e
      | some cs =>
        rw [hcs] at e; simp only at e
        cases hl : optIdx fr lo' 0 with
        | none => rw [hl] at e; cases e
        | some l =>
          rw [hl] at e; simp only [Option.bind_some] at e
          cases hr : optIdx fr hi' len with
          | none => rw [hr] at e; cases e
          | some r =>
            rw [hr] at e; simp only [Option.bind_some] at e
            split at e
            · rename_i hc
              simp only [Bool.and_eq_true, decide_eq_true_eq] at hc
              obtain ⟨⟨⟨hlr, hfit⟩, rfl⟩, hcl⟩ := hc
              obtain ⟨cur, te, g1, g2, g3, g4, g5⟩ := hr0.cells id cs loc (cellsOf_get hcs) hι
              -- the capacity holds what is asked
              have hroom : ∀ k, (off + k) * P.cellsOf el ≤ cs.length → (cap.all fun c => decide (k ≤ c)) = true → k ≤ c := by
                intro k hk hkc
                cases cap with
                | some c0 => rw [hcap c0 rfl]; simpa using hkc
                | none =>
                  have h1 := hfull rfl
                  have h2 : (off + k) * P.cellsOf el ≤ (off + c) * P.cellsOf el := by omega
                  have h3 := Nat.le_of_mul_le_mul_right h2 h0
                  omega
              have hrc := hroom r hfit hcl
              have fin : ∀ m, r ≤ m → m ≤ c → ∀ cap', (cap' = none → (off + l + (m - l)) * P.cellsOf el = loc.n) → (∀ c', cap' = some c' → m - l = c') →
                  Rep w R ι (if l = r && decide (0 < l) then .esl else .msl id (P.cellsOf el) (off + l) (r - l) cap')
                    (.slice (if m = l then some ⟨loc.b, off * P.cellsOf el, none⟩ else (some (⟨loc.b, off * P.cellsOf el, none⟩ : Addr)).map (·.add (l * ie.size))) (r - l) (m - l)) := by
                intro m hrm hmc cap' h1 h2
                by_cases hlr' : l = r
                · subst hlr'
                  by_cases hl0 : 0 < l
                  · rw [if_pos (by simp [hl0]), Nat.sub_self]
                    by_cases hml : m = l
                    · rw [if_pos hml]; exact .esl _ _
                    · rw [if_neg hml]; exact .esl _ _
                  · have : l = 0 := by omega
                    subst this
                    rw [if_neg (by simp)]
                    have hz : (if m = 0 then some (⟨loc.b, off * P.cellsOf el, none⟩ : Addr) else (some (⟨loc.b, off * P.cellsOf el, none⟩ : Addr)).map (·.add (0 * ie.size))) = some ⟨loc.b, off * P.cellsOf el, none⟩ := by
                      split
                      · rfl
                      · simp [Addr.add]
                    rw [hz]
                    exact .msl id _ off 0 cap' loc m hι (Nat.zero_le _) h1 h2
                · rw [if_neg (by simp [hlr']), if_neg (by omega), Option.map_some, addr_add rfl]
                  have := Rep.msl (w := w) (R := R) id (P.cellsOf el) (off + l) (r - l) cap' loc (m - l) hι (by omega) h1 h2
                  rw [Nat.add_mul] at this
                  rw [hes]
                  exact this
              split at e
              · cases e
                refine ⟨rfl, _, slice_run hu hie (bounds_run hG hE e1 e2 e3 (len := len) (cap := c) (m := c) hl hr rfl hlr hrc (Nat.le_refl _) hh true), ?_⟩
                refine fin c hrc (Nat.le_refl _) _ (fun hn => ?_) (fun c' hc' => ?_)
                · cases cap with
                  | none => rw [← hfull rfl]; congr 1; omega
                  | some c0 => cases hn
                · cases cap with
                  | none => cases hc'
                  | some c0 => rw [hcap c0 rfl]; simpa using hc'
              · rename_i o
                cases hm : idx (ev fr o) with
                | none => rw [hm] at e; cases e
                | some m =>
                  rw [hm] at e; simp only [Option.bind_some] at e
                  split at e
                  · rename_i hc2
                    simp only [Bool.and_eq_true, decide_eq_true_eq] at hc2
                    cases e
                    have hmc := hroom m hc2.1.2 hc2.2
                    refine ⟨rfl, _, slice_run hu hie (bounds_run hG hE e1 e2 e3 (len := len) (cap := c) (m := m) hl hr hm hlr hc2.1.1 hmc hh true), ?_⟩
                    exact fin m hc2.1.1 hmc _ (fun hn => by cases hn) (fun c' hc' => by simpa using hc')
                  · cases e
            · cases e
  · cases e
end
end Go.Ab

namespace Go.Ab
section
variable {P : Program} {G : Nat → Option V} {w w' : World} {R R' : Nat → Prop} {ι ι' : Nat → Option Loc} {h h' : Heap} {fr : List V} {a : Act}

theorem sliceA_ok (hG : GRel G w R ι) (hE : ERel w R ι fr a) {t el : TypeId} {n : Nat} (hu : P.underlying t = some (.array n el)) {x : Operand} {x' : Opd} (ex : opd G x = some x') (h0 : 0 < P.cellsOf el)
    {lo hi : Option Operand} {lo' hi' : Option Opd} (e1 : oopd G lo = some lo') (e2 : oopd G hi = some hi') {u : V} (e : op1 fr h (.sliceA (P.cellsOf el) n x' lo' hi') = some (u, h')) :
    h' = h ∧ ∃ z, (Instr.sliceAt t (a.eval x) (lo.map a.eval) (hi.map a.eval) none).run P w = .ok z w ∧ Rep w R ι u z := by
  obtain ⟨ie, hie, hes⟩ := info_of_cellsOf (P := P) (t := el) (by omega)
  have hv := ev_rel hG hE ex
  generalize a.eval x = xv at hv
  simp only [op1] at e
  split at e
  · rename_i id o hx
    rw [hx] at hv
    cases hv with
    | mptr _ _ loc hι =>
      cases hl : optIdx fr lo' 0 with
      | none => rw [hl] at e; cases e
      | some l =>
        rw [hl] at e; simp only [Option.bind_some] at e
        cases hr : optIdx fr hi' n with
        | none => rw [hr] at e; cases e
        | some r =>
          rw [hr] at e; simp only [Option.bind_some] at e
          split at e
          · rename_i hc
            simp only [Bool.and_eq_true, decide_eq_true_eq] at hc
            obtain ⟨⟨⟨hlr, hrn⟩, rfl⟩, hln⟩ := hc
            cases e
            have hb := bounds_run (P := P) hG hE e1 e2 (mx := none) (mx' := none) rfl hl hr (cap := n) rfl hlr hrn (Nat.le_refl _) (.inl rfl) false
            simp only [Option.map_none] at hb
            refine ⟨rfl, .slice (some ⟨loc.b, l * P.cellsOf el, none⟩) (r - l) (n - l), ?_, ?_⟩
            · have hne : n ≠ l := by omega
              simp [Instr.sliceAt, run_underlying hu, Instr.sureAddr, hb, run_sizeOf hie, hes, hne, addr_add]
            · exact .msl id _ l (r - l) _ loc (n - l) hι (by omega) (fun hn => by cases hn) (fun c' hc' => by simpa using hc')
          · cases e
  · cases e

theorem conv_ok {s t : TypeId} {k : IntKind} (hs : (∃ j, P.underlying s = some (.int j)) ∨ ∃ j, P.underlying s = some (.float j)) (ht : P.underlying t = some (.int k)) {v u : V} {x : Value} (hv : Rep w R ι v x)
    (e : op1 [v] h (.conv k (.t 0)) = some (u, h')) : h' = h ∧ ∃ z, (convert s t x).run P w = .ok z w ∧ Rep w R ι u z := by
  obtain ⟨d, hd⟩ : ∃ d, P.underlying s = some d := by rcases hs with ⟨j, hj⟩ | ⟨j, hj⟩ <;> exact ⟨_, hj⟩
  simp only [op1, ev, List.getD_cons_zero] at e
  split at e
  · cases e
    cases hv
    exact ⟨rfl, _, by simp [convert, run_underlying hd, run_underlying ht, Conv.intToInt], .int _ _⟩
  · rename_i sk b
    split at e
    · rename_i n hn
      split at e
      · rename_i hc
        cases e
        cases hv
        exact ⟨rfl, _, by simp [convert, run_underlying hd, run_underlying ht, Conv.floatToInt, hn, hc], .int _ _⟩
      · cases e
    · cases e
  · cases e

theorem convF_ok {s t : TypeId} {k : FloatKind} {j : IntKind} (hs : P.underlying s = some (.int j)) (ht : P.underlying t = some (.float k)) {v u : V} {x : Value} (hv : Rep w R ι v x)
    (e : op1 [v] h (.convF k (.t 0)) = some (u, h')) : h' = h ∧ ∃ z, (convert s t x).run P w = .ok z w ∧ Rep w R ι u z := by
  simp only [op1, ev, List.getD_cons_zero] at e
  split at e
  · cases e
    cases hv
    exact ⟨rfl, _, by simp [convert, run_underlying hs, run_underlying ht, Conv.intToFloat], .flt _ _⟩
  · cases e

theorem same_ok {s t : TypeId} (hs : P.underlying s = some .string) (ht : P.underlying t = some .string) {v u : V} {x : Value} (hv : Rep w R ι v x)
    (e : op1 [v] h (.same (.t 0)) = some (u, h')) : h' = h ∧ ∃ z, (convert s t x).run P w = .ok z w ∧ Rep w R ι u z := by
  simp only [op1, ev, List.getD_cons_zero] at e
  split at e
  · cases e
    cases hv with
    | str x => exact ⟨rfl, .string x, by simp [convert, run_underlying hs, run_underlying ht], .str x⟩
  · cases e

theorem bytes_flat (l : List Nat) : (l.map fun b : Nat => V.int .u8 (b : Int)).flatMap V.cells = l.map fun b : Nat => V.int .u8 (b : Int) := by
  induction l with
  | nil => rfl
  | cons x r ih => simp only [List.map_cons, List.flatMap_cons, ih]; rfl

theorem lows_ints {n : Nat} : ∀ l : List Nat, V.lows n (l.map fun b : Nat => V.int .u8 (b : Int)) = true
  | [] => rfl
  | x :: r => by simp only [List.map_cons, V.lows, V.low, lows_ints r, Bool.and_self]

theorem s2b_ok (hr : HRel w R ι h) {s t el : TypeId} (hs : P.underlying s = some .string) (ht : P.underlying t = some (.slice el)) (hel : P.underlying el = some (.int .u8)) {v u : V} {x : Value} (hv : Rep w R ι v x)
    (e : op1 [v] h (.s2b (.t 0)) = some (u, h')) : h' = h ∧ ∃ w' R' z, (convert s t x).run P w = .ok z w' ∧ Post w R ι h w' R' ι h ∧ Rep w' R' ι u z := by
  simp only [op1, ev, List.getD_cons_zero] at e
  split at e
  · cases e
    cases hv with
    | str x =>
      obtain ⟨cap, hc⟩ : ∃ cap, (Question.appendCap x.size 0 el).cut (w.tape w.drawn (.appendCap x.size 0 el)) = cap := ⟨_, rfl⟩
      have hcap : x.size ≤ cap := by rw [← hc]; simp [Question.cut]
      obtain ⟨cs, hcs⟩ : ∃ cs : Array Value, (x.data.map fun b => Value.int .u8 (b.toNat : Int)) ++ Array.replicate (cap - x.size) (.int .u8 0) = cs := ⟨_, rfl⟩
      have hrun : (convert s t (.string x)).run P w = .ok (.slice (some ⟨w.heap.size, 0, none⟩) x.size cap) ((w.drew.alloc (.cells cs el)).freeze ⟨w.heap.size, cs.size, none⟩ 1) := by
        have hn := heap_alloc_new w.drew (.cells cs el)
        simp only [World.size_drew] at hn
        have hsh : (w.drew.alloc (.cells cs el)).shape? w.heap.size = some (el, cs.size) := by unfold World.shape?; rw [hn]
        simp only [convert, Sem.run_bind, run_underlying hs, run_underlying ht, Result.andThen_ok, run_underlying hel, Conv.stringToBytes, run_choose]
        simp [Question.forced, newRow, markStringish, hc, hcs, hsh]
      have hw' : ((w.drew.alloc (.cells cs el)).freeze ⟨w.heap.size, cs.size, none⟩ 1).heap = w.heap.push (.cells cs el (cs.size, cs.size + 1)) := by
        simp only [World.freeze, Nat.one_ne_zero, if_false]
        apply Array.ext_getElem?
        intro i
        show ((w.heap.push (.cells cs el)).modify w.heap.size _)[i]? = _
        rw [Array.getElem?_modify, Array.getElem?_push, Array.getElem?_push]
        by_cases hi : w.heap.size = i
        · subst hi; simp
        · have : ¬ i = w.heap.size := fun e => hi e.symm
          simp [hi, this]
      refine ⟨rfl, _, _, _, hrun, Post.push hr hw' rfl rfl rfl, ?_⟩
      have := Rep.fsl (w := (w.drew.alloc (.cells cs el)).freeze ⟨w.heap.size, cs.size, none⟩ 1) (R := fun b => R b ∨ b = w.heap.size) (ι := ι)
        ((x.data.toList.map UInt8.toNat).map fun b : Nat => V.int .u8 (b : Int)) none ⟨w.heap.size, 0, none⟩ cap 1 (fun i => .int .u8 (((x.data.toList.map UInt8.toNat).getD i 0 : Nat) : Int)) rfl (.inr rfl)
        (by rw [List.length_map, str_len]; exact hcap) (fun c' hc' => by cases hc') (fun e' he' => by obtain ⟨b, _, rfl⟩ := List.mem_map.1 he'; rfl)
        (by rw [bytes_flat]; intro v hv; obtain ⟨b, _, rfl⟩ := List.mem_map.1 hv; rfl) (by rw [bytes_flat]; exact lows_ints _) (by
          intro i v ei
          rw [bytes_flat, List.getElem?_map] at ei
          cases hb : (x.data.toList.map UInt8.toNat)[i]? with
          | none => rw [hb] at ei; cases ei
          | some b =>
            rw [hb] at ei; cases ei
            rw [List.getElem?_map] at hb
            cases hd : x.data.toList[i]? with
            | none => rw [hd] at hb; cases hb
            | some c =>
              rw [hd] at hb; cases hb
              have hlt : i < x.data.size := by have := (List.getElem?_eq_some_iff.1 hd).1; rwa [Array.length_toList] at this
              have hgd : (x.data.toList.map UInt8.toNat).getD i 0 = c.toNat := by simp [List.getD, hd]
              rw [hgd]
              have hcs' : cs[i]? = some (.int .u8 (c.toNat : Int)) := by
                have hd' : x.data[i]? = some c := by rw [← Array.getElem?_toList]; exact hd
                rw [← hcs]
                rw [Array.getElem?_append_left (by simpa using hlt), Array.getElem?_map, hd']
                rfl
              simp only [World.cell?, hw', Array.getElem?_push, if_true]
              simpa using hcs') (by
          intro i v ei
          rw [bytes_flat, List.getElem?_map] at ei
          cases hb : (x.data.toList.map UInt8.toNat)[i]? with
          | none => rw [hb] at ei; cases ei
          | some b =>
            rw [hb] at ei; cases ei
            have : (x.data.toList.map UInt8.toNat).getD i 0 = b := by rw [List.getD, hb]; rfl
            rw [this]; exact .int _ _)
      rw [List.length_map, str_len] at this
      exact this
  · cases e
end
end Go.Ab

namespace Go.Ab
section
variable {P : Program} {G : Nat → Option V} {w w' : World} {R R' : Nat → Prop} {ι ι' : Nat → Option Loc} {h h' : Heap} {fr : List V} {a : Act}

theorem repL_of_cells {cs : List V} {Q : Nat → Value → Prop} (hq : ∀ (i : Nat) v, cs[i]? = some v → ∃ x, Q i x ∧ Rep w R ι v x) :
    ∃ xs, RepL w R ι cs xs ∧ ∀ (j : Nat) y, xs[j]? = some y → Q j y := by
  obtain ⟨xs, hl, hx⟩ := list_of (Q := fun i v x => Q i x ∧ Rep w R ι v x) cs hq
  refine ⟨xs, ⟨hl.symm, fun i v x e e' => (hx i v x e e').2⟩, fun j y ey => ?_⟩
  have hj : j < cs.length := by rw [← hl]; exact (List.getElem?_eq_some_iff.1 ey).1
  exact (hx j _ y (List.getElem?_eq_getElem hj) ey).1

/-- the cells of a slice -/
theorem row_ok (hr : HRel w R ι h) {sz : Nat} {v : V} {x : Value} {cs : List V} (e : h.row sz v = some cs) (hv : Rep w R ι v x) (hns : ∀ s, v ≠ .str s) :
    ∃ base len cap xs, x = .slice base len cap ∧ lenOf v = some len ∧ cs.length = len * sz ∧ (∀ u ∈ cs, u.one = true) ∧ RepL w R ι cs xs ∧ len ≤ cap ∧ (base = none → cap = 0) ∧
      ∀ (j : Nat) y, xs[j]? = some y → ∃ ad, base = some ad ∧ w.cell? (ad.add j) = some y := by
  unfold Heap.row at e
  split at e
  · cases e; cases hv
    exact ⟨none, 0, 0, [], rfl, rfl, by simp, by simp, ⟨rfl, by simp⟩, Nat.le_refl _, fun _ => rfl, by simp⟩
  · cases e
    cases hv with
    | esl ad c => exact ⟨some ad, 0, c, [], rfl, rfl, by simp, by simp, ⟨rfl, by simp⟩, Nat.zero_le _, (fun h => by cases h), by simp⟩
  · rename_i es c
    split at e
    · rename_i hall
      cases e
      cases hv with
      | fsl _ _ ad cap sz' g hs hR hlc hc hsz hone hlow hcell hrep =>
        have hsz' : ∀ e ∈ es, e.cells.length = sz := fun e' he' => by simpa using List.all_eq_true.1 hall e' he'
        obtain ⟨xs, h1, h2⟩ := repL_of_cells (w := w) (R := R) (ι := ι) (cs := es.flatMap V.cells) (Q := fun j y => w.cell? (ad.add j) = some y)
          (fun i v ei => ⟨g i, by rw [addr_add hs]; exact hcell i v ei, hrep i v ei⟩)
        exact ⟨some ad, es.length, cap, xs, rfl, rfl, flat_length hsz', hone, h1, hlc, (fun h => by cases h), fun j y ey => ⟨ad, rfl, h2 j y ey⟩⟩
    · cases e
  · rename_i id sz' off len c
    split at e
    · rename_i hs
      subst hs
      split at e
      · rename_i l hl
        split at e
        · rename_i hfit
          cases e
          cases hv with
          | msl _ _ _ _ _ loc cap hι hlc hfull hcap =>
            obtain ⟨cur, te, g1, g2, g3, g4, g5⟩ := hr.cells id l loc (cellsOf_get hl) hι
            obtain ⟨xs, h1, h2⟩ := repL_of_cells (w := w) (R := R) (ι := ι) (cs := (l.drop (off * sz)).take (len * sz)) (Q := fun j y => w.cell? ((⟨loc.b, off * sz, none⟩ : Addr).add j) = some y)
              (fun i v ei => by
                rw [List.getElem?_take] at ei
                split at ei
                · rw [List.getElem?_drop] at ei
                  obtain ⟨y, hy, hrep⟩ := g5 _ v ei
                  refine ⟨y, ?_, hrep⟩
                  rw [addr_add rfl]
                  simp [World.cell?, g1, hy]
                · cases ei)
            refine ⟨some ⟨loc.b, off * sz, none⟩, len, cap, xs, rfl, rfl, ?_, ?_, h1, hlc, (fun h => by cases h), fun j y ey => ⟨_, rfl, h2 j y ey⟩⟩
            · rw [Nat.add_mul] at hfit
              simp only [List.length_take, List.length_drop]; omega
            · intro u hu; exact g4 u (List.mem_of_mem_drop (List.mem_of_mem_take hu))
        · cases e
      · cases e
    · cases e
  · rename_i s; exact absurd rfl (hns s)
  · cases e

theorem firstCells_ok {base : Option Addr} {len cap sz n : Nat} {xs : List Value} (hl : xs.length = n * sz) (hx : ∀ (j : Nat) y, xs[j]? = some y → ∃ ad, base = some ad ∧ w.cell? (ad.add j) = some y) (hb : base = none → n = 0) :
    (Builtin.firstCells sz n (.slice base len cap)).run P w = .ok xs.toArray w := by
  cases base with
  | none =>
    have := hb rfl
    subst this
    have : xs = [] := List.eq_nil_of_length_eq_zero (by simpa using hl)
    subst this
    exact run_firstCells_none w sz 0 len cap
  | some ad =>
    refine run_firstCells_some w sz n ad len cap xs hl (fun j y ey => ?_)
    obtain ⟨ad', h1, h2⟩ := hx j y ey
    cases h1
    exact h2

theorem foldl_push (ns : List Int) : ∀ s : ByteArray, (ns.foldl (fun (r : ByteArray) n => r.push (UInt8.ofNat n.toNat)) s).data.toList = s.data.toList ++ ns.map fun n => UInt8.ofNat n.toNat := by
  induction ns with
  | nil => intro s; simp
  | cons n r ih => intro s; simp only [List.foldl_cons, ih, ByteArray.data_push, Array.toList_push, List.append_assoc, List.map_cons]; rfl

theorem bytesOf_spec : ∀ {cs : List V} {bs : List Nat}, bytesOf cs = some bs → cs = bs.map (fun b : Nat => V.int .u8 (b : Int)) ∧ ∀ b ∈ bs, b < 256
  | [], bs, e => by cases e; simp
  | c :: r, bs, e => by
    unfold bytesOf at e
    split at e
    · rename_i b l hb hl
      cases e
      obtain ⟨i1, i2⟩ := bytesOf_spec hl
      unfold byteOf at hb
      split at hb
      · rename_i n
        split at hb
        · rename_i hn
          cases hb
          refine ⟨?_, ?_⟩
          · rw [i1, List.map_cons, Int.toNat_of_nonneg hn.1]
          · intro b hb
            rcases List.mem_cons.1 hb with rfl | hb
            · omega
            · exact i2 b hb
        · cases hb
      · cases hb
    · cases e

theorem b2s_ok (hr : HRel w R ι h) {s t el : TypeId} (hs : P.underlying s = some (.slice el)) (ht : P.underlying t = some .string) (hel : P.underlying el = some (.int .u8)) {v u : V} {x : Value} (hv : Rep w R ι v x)
    (e : op1 [v] h (.b2s (.t 0)) = some (u, h')) : h' = h ∧ ∃ z, (convert s t x).run P w = .ok z w ∧ Rep w R ι u z := by
  simp only [op1, ev, List.getD_cons_zero] at e
  split at e
  · cases e
  · rename_i hns
    split at e
    · rename_i cs hcs
      cases hm : bytesOf cs with
      | none => rw [hm] at e; cases e
      | some bs =>
      rw [hm] at e
      cases e
      obtain ⟨base, len, cap, xs, rfl, hlen, hcl, hone, hrep, hlc, hbn, hcell⟩ := row_ok hr hcs hv (fun s h => hns s h)
      obtain ⟨rfl, hlt⟩ := bytesOf_spec hm
      have hxs : xs = (bs.map (fun b : Nat => (b : Int))).map (Value.int .u8) := by
        apply List.ext_getElem?
        intro i
        rw [List.getElem?_map, List.getElem?_map]
        cases hb : bs[i]? with
        | none =>
          have : bs.length ≤ i := List.getElem?_eq_none_iff.1 hb
          have h1 := hrep.1
          rw [List.length_map] at h1
          simp [List.getElem?_eq_none (show xs.length ≤ i by omega)]
        | some b =>
          obtain ⟨y, hy, hrp⟩ := hrep.get (i := i) (v := .int .u8 (b : Int)) (by rw [List.getElem?_map, hb]; rfl)
          rw [hy]; cases hrp; rfl
      refine ⟨rfl, ?_⟩
      cases base with
      | none =>
        have hz : cap = 0 := hbn rfl
        have : len = 0 := by omega
        subst this
        have : bs = [] := by simpa using hcl
        subst this
        exact ⟨.string .empty, by rw [run_convert_bytes_string w s t el none 0 cap hs hel ht]; simp [Conv.bytesToString], (show Rep w R ι (.str (ByteArray.empty.data.toList.map UInt8.toNat)) _ from .str _)⟩
      | some ad =>
        have hl1 : bs.length = len := by simpa using hcl
        have hload := run_loadCells_list (P := P) w ad xs (fun j y ey => by
          obtain ⟨ad', h1, h2⟩ := hcell j y ey
          cases h1; exact h2)
        have hxl : xs.length = len := by rw [hxs]; simpa using hl1
        rw [hxl, hxs] at hload
        refine ⟨_, by rw [run_convert_bytes_string w s t el (some ad) len cap hs hel ht]; exact run_bytesToString w ad len cap _ hload, ?_⟩
        have hd := foldl_push (bs.map fun b : Nat => (b : Int)) ByteArray.empty
        have hback : bs = ((bs.map fun b : Nat => (b : Int)).foldl (fun (r : ByteArray) n => r.push (UInt8.ofNat n.toNat)) ByteArray.empty).data.toList.map UInt8.toNat := by
          rw [hd]
          simp only [List.map_append, List.map_map]
          have : (ByteArray.empty.data.toList.map UInt8.toNat : List Nat) = [] := rfl
          rw [this, List.nil_append]
          conv => lhs; rw [← List.map_id bs]
          apply List.map_congr_left
          intro b hb
          have := hlt b hb
          simp [Nat.mod_eq_of_lt this]
        have hrs := Rep.str (w := w) (R := R) (ι := ι) ((bs.map fun b : Nat => (b : Int)).foldl (fun (r : ByteArray) n => r.push (UInt8.ofNat n.toNat)) ByteArray.empty)
        rw [← hback] at hrs
        exact hrs
    · cases e
end
end Go.Ab

namespace Go.Ab
section
variable {P : Program} {G : Nat → Option V} {w w' : World} {R R' : Nat → Prop} {ι ι' : Nat → Option Loc} {h h' : Heap} {fr : List V} {a : Act}

theorem elems_one : ∀ (cs : List V) (_ : ∀ v ∈ cs, v.one = true), elems 1 cs.length cs = cs
  | [], _ => rfl
  | v :: r, ho => by
    simp only [List.length_cons, elems, if_true, List.headD_cons, List.drop_succ_cons, List.drop_zero]
    rw [elems_one r fun u hu => ho u (List.mem_cons_of_mem _ hu)]

theorem cells_ones : ∀ (cs : List V) (_ : ∀ v ∈ cs, v.one = true), cs.flatMap V.cells = cs
  | [], _ => rfl
  | v :: r, ho => by
    simp only [List.flatMap_cons]
    rw [cells_ones r fun u hu => ho u (List.mem_cons_of_mem _ hu)]
    have := ho v (List.mem_cons_self ..)
    cases v <;> first | rfl | (simp [V.one] at this)

theorem one_cells {v : V} (ho : v.one = true) : v.cells = [v] := by cases v <;> first | rfl | (simp [V.one] at ho)

theorem frz_ok (hr : HRel w R ι h) {t el : TypeId} (ht : P.underlying t = some (.slice el)) (hel : P.underlying el = some (.int .u8)) {v u : V} {x : Value} (hv : Rep w R ι v x)
    (e : op1 [v] h (.frz 1 (.t 0)) = some (u, h')) : ∃ w' R' z, (convert t t x).run P w = .ok z w' ∧ Post w R ι h w' R' ι h' ∧ Rep w' R' ι u z := by
  simp only [op1, ev, List.getD_cons_zero] at e
  split at e
  · rename_i id sz' off len cap
    split at e
    · rename_i cs hcs
      split at e
      · rename_i hc
        simp only [Bool.and_eq_true, decide_eq_true_eq] at hc
        obtain ⟨⟨⟨rfl, hmine⟩, rfl⟩, hlow⟩ := hc
        cases e
        obtain ⟨base, len', c', xs, hx, hlen, hcl, hone, hrep, hlc, hbn, hcell⟩ := row_ok hr hcs hv (by intro s hs; cases hs)
        subst hx
        have hl : len' = len := by simpa [lenOf] using hlen.symm
        subst hl
        cases hv with
        | msl _ _ _ _ _ loc _ hι hlc' hfull hcap =>
          have hrow : ∃ l, h.cellsOf id = some l := by
            simp only [Heap.row, if_true] at hcs
            split at hcs
            · rename_i l hl; exact ⟨l, hl⟩
            · cases hcs
          obtain ⟨l, hl⟩ := hrow
          have hg := cellsOf_get hl
          obtain ⟨cur, te, g1, g2, g3, g4, g5⟩ := hr.cells id l loc hg hι
          have hsh : w.shape? loc.b = some (te, cur.size) := by unfold World.shape?; rw [g1]
          have hrun : (convert t t (.slice (some ⟨loc.b, 0 * 1, none⟩) len' c')).run P w = .ok (.slice (some ⟨loc.b, 0 * 1, none⟩) len' c') (w.freeze ⟨loc.b, cur.size, none⟩ 1) := by
            simp [convert, run_underlying ht, run_underlying hel, markStringish, hsh]
          have hb : loc.b < w.heap.size := (Array.getElem?_eq_some_iff.1 g1).1
          have hp := Post.killed (w' := w.freeze ⟨loc.b, cur.size, none⟩ 1) hr hg hι true (fun k hk => by
            simp only [World.freeze, Nat.one_ne_zero, if_false, Array.getElem?_modify]
            rw [if_neg (fun e => hk e.symm)]) (by simp [World.freeze]) rfl rfl rfl
          refine ⟨_, _, _, hrun, hp, ?_⟩
          have hlen2 : cs.length = len' := by simpa using hcl
          rw [← hlen2, elems_one cs hone]
          have hflat := cells_ones cs hone
          obtain ⟨f, hf⟩ : ∃ f : Nat → Value, ∀ (i : Nat) y, xs[i]? = some y → f i = y := ⟨fun i => xs.getD i undef, fun i y ey => by simp [List.getD, ey]⟩
          have hcell' : ∀ (i : Nat) y, xs[i]? = some y → (w.freeze ⟨loc.b, cur.size, none⟩ 1).cell? ⟨loc.b, 0 * 1 + i, none⟩ = some y := fun i y ey => by
            obtain ⟨ad, h1, h2⟩ := hcell i y ey
            cases h1
            rw [addr_add rfl] at h2
            rw [← h2]
            simp [World.cell?, World.freeze, Array.getElem?_modify, g1]
          have := Rep.fsl (w := w.freeze ⟨loc.b, cur.size, none⟩ 1) (R := fun b => R b ∨ (true = true ∧ b = loc.b)) (ι := ι) cs none ⟨loc.b, 0 * 1, none⟩ c' 1 f rfl (.inr ⟨rfl, rfl⟩) (by omega) (fun _ hc' => by cases hc')
            (fun e' he' => by rw [one_cells (hone e' he')]; rfl) (by rw [hflat]; exact hone) (by rw [hflat]; exact hlow)
            (fun i v ei => by
              rw [hflat] at ei
              obtain ⟨y, hy, _⟩ := hrep.get ei
              rw [hf i y hy]; exact hcell' i y hy)
            (fun i v ei => by
              rw [hflat] at ei
              obtain ⟨y, hy, hrp⟩ := hrep.get ei
              rw [hf i y hy]
              exact hp.val hr hrp)
          exact this
      · cases e
    · cases e
  · cases e

theorem mkslice_ok (hr : HRel w R ι h) {t el : TypeId} {z : List V} {ie : TypeInfo} (hu : P.underlying t = some (.slice el)) (hz : zeroOf P el = some z) (hie : P.info? el = some ie)
    {vl vc u : V} {xl xc : Value} (hl : Rep w R ι vl xl) (hc : Rep w R ι vc xc) (e : op1 [vl, vc] h (.mkslice z.length ie.bytes z (.t 0) (.t 1)) = some (u, h')) :
    ∃ w' ι' y, (Instr.makeSlice t xl xc).run P w = .ok y w' ∧ Post w R ι h w' R ι' h' ∧ Rep w' R ι' u y := by
  simp only [op1, ev, List.getD_cons_zero, List.getD_cons_succ] at e
  split at e
  · rename_i k1 l k2 c
    split at e
    · rename_i hb
      obtain ⟨hb1, hb2, hb3, hb4⟩ := hb
      cases e
      cases hl; cases hc
      obtain ⟨i, zv, hi, hzv, hvs, hzl⟩ := zeroOf_spec hz
      rw [hie] at hi; cases hi
      obtain ⟨hrep, hone⟩ := vsOf_repL (w := w) (R := R) (ι := ι) hvs
      have hzs : zv.cells.size = ie.size := by rw [← hzl]; simpa using hrep.1.symm
      have hzr := zeros_rep hrep c.toNat
      obtain ⟨n, rfl⟩ := Int.eq_ofNat_of_zero_le (Int.le_trans hb1 hb2)
      obtain ⟨m, rfl⟩ := Int.eq_ofNat_of_zero_le hb1
      have hmr : maxRow = 140737488355328 := rfl
      rw [hmr] at hb3
      have hrun := run_make (P := P) w t el ie zv hu hie hzv k1 k2 (m : Int) (n : Int) hb1 hb2 (by rw [Int.mul_comm]; omega) (by omega)
      simp only [Int.toNat_natCast] at hrun hzr ⊢
      have hzr' : RepL w R ι (List.replicate n z).flatten (madeCells zv.cells (n * ie.size)).toList := by rw [← hzs]; exact hzr
      have hsz : (madeCells zv.cells (n * ie.size)).size = n * ie.size := size_madeCells _ _
      refine ⟨_, _, _, hrun, Post.alloc hr (cur := madeCells zv.cells (n * ie.size)) (t := el) rfl rfl rfl rfl ?_ ?_ ?_, ?_⟩
      · rw [← Array.length_toList]; exact Nat.le_of_eq hzr'.1
      · intro v hv
        obtain ⟨l, hl1, hl2⟩ := List.mem_flatten.1 hv
        rw [List.eq_of_mem_replicate hl1] at hl2
        exact hone v hl2
      · intro i v ei
        obtain ⟨x, hx, hrp⟩ := hzr'.get ei
        exact ⟨x, by rw [← Array.getElem?_toList]; exact hx, hrp⟩
      · have := Rep.msl (w := w.alloc (.cells (madeCells zv.cells (n * ie.size)) el)) (R := R) (ι := named ι h.next ⟨w.heap.size, (madeCells zv.cells (n * ie.size)).size⟩) h.next z.length 0 m none
          ⟨w.heap.size, (madeCells zv.cells (n * ie.size)).size⟩ n (named_same ..) (by omega) (fun _ => by simp only [hsz, hzl, Nat.zero_add]) (fun _ h => by cases h)
        rw [Nat.zero_mul] at this
        exact this
    · cases e
  · cases e

theorem len_ok (hr : HRel w R ι h) {t ty : TypeId} {k : Nat} (hk : (k = 0 ∧ P.underlying t = some .string) ∨ (k = 1 ∧ ∃ el, P.underlying t = some (.slice el)) ∨ (k = 2 ∧ ∃ kt el, P.underlying t = some (.map kt el)))
    {v u : V} {x : Value} (hv : Rep w R ι v x) (e : op1 [v] h (.len k (.t 0)) = some (u, h')) : h' = h ∧ ∃ z, (Builtin.len_ #[t] ty #[x]).run P w = .ok z w ∧ Rep w R ι u z := by
  simp only [op1, ev, List.getD_cons_zero] at e
  split at e
  · rename_i id
    cases hv with
    | mp _ loc hι =>
      split at e
      · split at e
        · rename_i es hg
          rename_i h2
          cases e
          obtain ⟨ents, clock, g1, g2, _⟩ := hr.maps id es loc hg hι
          rcases hk with ⟨h0, _⟩ | ⟨h0, _⟩ | ⟨_, kt, el, hu⟩
          · omega
          · omega
          · exact ⟨rfl, .int .i64 (ents.size : Int), by simp [Builtin.len_, run_underlying hu, getObj, Sem.run, g1, goInt], by rw [g2]; exact .int _ _⟩
        · cases e
      · cases e
  · split at e
    · rename_i h2
      cases e; cases hv
      rcases hk with ⟨h0, _⟩ | ⟨h0, _⟩ | ⟨_, kt, el, hu⟩
      · omega
      · omega
      · exact ⟨rfl, .int .i64 0, by simp [Builtin.len_, run_underlying hu, goInt], .int _ _⟩
    · cases e
  · split at e
    · rename_i s h0
      cases e
      cases hv with
      | str x =>
        rcases hk with ⟨_, hu⟩ | ⟨h1, _⟩ | ⟨h1, _⟩
        · refine ⟨rfl, .int .i64 x.size, by simp [Builtin.len_, run_underlying hu, goInt], ?_⟩
          rw [str_len]; exact .int _ _
        · omega
        · omega
    · cases e
  · rename_i h1 h2 h3
    split at e
    · rename_i hk1
      rcases hk with ⟨h0, _⟩ | ⟨_, el, hu⟩ | ⟨h0, _⟩
      · omega
      · cases hl : lenOf v with
        | none => rw [hl] at e; cases e
        | some n =>
          rw [hl] at e; cases e
          have : ∃ base cap, x = .slice base n cap := by
            unfold lenOf at hl
            split at hl
            · cases hl; cases hv; exact ⟨_, _, rfl⟩
            · cases hl; cases hv; exact ⟨_, _, rfl⟩
            · cases hl; cases hv; exact ⟨_, _, rfl⟩
            · cases hl; cases hv; exact ⟨_, _, rfl⟩
            · rename_i s; exact absurd rfl (h3 s)
            · cases hl
          obtain ⟨base, cap, rfl⟩ := this
          exact ⟨rfl, .int .i64 n, by simp [Builtin.len_, run_underlying hu, goInt], .int _ _⟩
      · omega
    · cases e

theorem cap_ok {t ty el : TypeId} (hu : P.underlying t = some (.slice el)) {v u : V} {x : Value} (hv : Rep w R ι v x) (e : op1 [v] h (.capOf (.t 0)) = some (u, h')) :
    h' = h ∧ ∃ z, (Builtin.cap_ #[t] ty #[x]).run P w = .ok z w ∧ Rep w R ι u z := by
  simp only [op1, ev, List.getD_cons_zero] at e
  split at e
  · cases e; cases hv
    exact ⟨rfl, .int .i64 0, by simp [Builtin.cap_, run_underlying hu, goInt], .int _ _⟩
  · rename_i es c
    cases e
    cases hv with
    | fsl _ _ ad cap sz g hs hR hlc hc hsz hone hlow hcell hrep =>
      have := hc c rfl
      subst this
      exact ⟨rfl, .int .i64 cap, by simp [Builtin.cap_, run_underlying hu, goInt], .int _ _⟩
  · rename_i c
    cases e
    cases hv with
    | msl _ _ _ _ _ loc cap hι hlc hfull hcap =>
      have := hcap c rfl
      subst this
      exact ⟨rfl, .int .i64 cap, by simp [Builtin.cap_, run_underlying hu, goInt], .int _ _⟩
  · cases e

theorem mmAll_ok (mx : Bool) : ∀ (vs : List V) (xs : List Value) (v u : V) (x : Value), Rep w R ι v x → RepL w R ι vs xs → mmAll mx v vs = some u →
    ∃ z, (if mx then (xs.foldlM Builtin.max2 x).run P w else (xs.foldlM Builtin.min2 x).run P w) = .ok z w ∧ Rep w R ι u z
  | [], [], v, u, x, hv, _, e => by
    simp only [mmAll] at e; cases e
    exact ⟨x, by cases mx <;> simp, hv⟩
  | [], y :: ys, _, _, _, _, hl, _ => by have := hl.1; simp at this
  | v' :: r, [], _, _, _, _, hl, _ => by have := hl.1; simp at this
  | v' :: r, y :: ys, v, u, x, hv, hl, e => by
    simp only [mmAll] at e
    have hy : Rep w R ι v' y := hl.2 0 v' y rfl rfl
    have hl' : RepL w R ι r ys := ⟨by simpa using hl.1, fun i a b ea eb => hl.2 (i + 1) a b (by simpa using ea) (by simpa using eb)⟩
    cases hm : mm2 mx v v' with
    | none => rw [hm] at e; cases e
    | some m =>
      rw [hm] at e
      simp only [Option.bind_some] at e
      unfold mm2 at hm
      split at hm
      · rename_i k a j b
        split at hm
        · rename_i hkj
          cases hm
          cases hv; cases hy
          obtain ⟨z, hz1, hz2⟩ := mmAll_ok mx r ys _ u _ (Rep.int (w := w) (R := R) (ι := ι) k _) hl' e
          refine ⟨z, ?_, hz2⟩
          cases mx
          · simp only [Bool.false_eq_true, if_false] at hz1 ⊢
            simp only [List.foldlM_cons, Sem.run_bind, Builtin.min2, Sem.run_pure, Result.andThen_ok]
            exact hz1
          · simp only [if_true] at hz1 ⊢
            simp only [List.foldlM_cons, Sem.run_bind, Builtin.max2, Sem.run_pure, Result.andThen_ok]
            exact hz1
        · cases hm
      · cases hm

theorem nilchk_ok {o : Oper} {x : Operand} {x' : Opd} (ho : o.op = .nilCheck x) (hv : Rep w R ι (ev fr x') (a.eval x)) {u : V} (e : op1 fr h (.nilchk x') = some (u, h')) :
    h' = h ∧ ∃ z, (execOp a.eval o).run P w = .ok (.value z) w ∧ Rep w R ι u z := by
  simp only [op1] at e
  split at e
  · rename_i hn
    cases e
    refine ⟨rfl, a.eval x, ?_, hv⟩
    unfold execOp
    simp only [ho]
    generalize a.eval x = y at hv
    generalize ev fr x' = v at hv hn
    cases hv <;> first | rfl | (simp [isNil] at hn)
  · cases e

end
end Go.Ab

namespace Go.Ab
section
variable {P : Program} {G : Nat → Option V} {w w' : World} {R R' : Nat → Prop} {ι ι' : Nat → Option Loc} {h h' : Heap} {fr : List V} {a : Act}

theorem evS_run {α : Type} {s : Sem α} {v : α} (e : evS s = some v) (w : World) : s.run P w = .ok v w := by
  cases s <;> simp [evS] at e
  subst e; rfl

theorem ofLit_rep {x : Value} {v : V} (e : ofLit x = some v) : Rep w R ι v x := by
  unfold ofLit at e
  split at e <;> first | (cases e; constructor) | cases e

theorem evLit {s : Sem Value} {v : V} (e : (evS s).bind ofLit = some v) (w : World) : ∃ z, s.run P w = .ok z w ∧ Rep w R ι v z := by
  cases hs : evS s with
  | none => rw [hs] at e; cases e
  | some z => rw [hs] at e; exact ⟨z, evS_run hs w, ofLit_rep e⟩

theorem intBin_ok {op : BinOp} {k : IntKind} {x y : Int} {u : V} (e : intBin op k x y = some u) (h1 : op ≠ .shl) (h2 : op ≠ .shr) (t : TypeId) :
    ∃ z, (binOp op t (.int k x) (.int k y)).run P w = .ok z w ∧ Rep w R ι u z := by
  unfold intBin at e
  cases op <;> simp only at e
  case add => cases e; exact ⟨_, by simp [binOp, Op.intArith], .int _ _⟩
  case sub => cases e; exact ⟨_, by simp [binOp, Op.intArith], .int _ _⟩
  case mul => cases e; exact ⟨_, by simp [binOp, Op.intArith], .int _ _⟩
  case quo => split at e <;> cases e; rename_i hy; exact ⟨_, by simp [binOp, Op.intDiv, hy], .int _ _⟩
  case rem => split at e <;> cases e; rename_i hy; exact ⟨_, by simp [binOp, Op.intDiv, hy], .int _ _⟩
  case eql => cases e; exact ⟨.bool (x == y), by simp [binOp, Op.intCmp], by rw [show (x == y) = decide (x = y) from rfl]; exact .bool _⟩
  case neq => cases e; exact ⟨.bool (x != y), by simp [binOp, Op.intCmp], by rw [show (x != y) = !decide (x = y) from rfl]; exact .bool _⟩
  case lss => cases e; exact ⟨.bool (decide (x < y)), by simp [binOp, Op.intCmp], .bool _⟩
  case leq => cases e; exact ⟨.bool (decide (x ≤ y)), by simp [binOp, Op.intCmp], .bool _⟩
  case gtr => cases e; exact ⟨.bool (decide (x > y)), by simp [binOp, Op.intCmp], .bool _⟩
  case geq => cases e; exact ⟨.bool (decide (x ≥ y)), by simp [binOp, Op.intCmp], .bool _⟩
  case and => obtain ⟨z, h1, h2⟩ := evLit (P := P) (R := R) (ι := ι) e w; exact ⟨z, by simpa [binOp] using h1, h2⟩
  case or => obtain ⟨z, h1, h2⟩ := evLit (P := P) (R := R) (ι := ι) e w; exact ⟨z, by simpa [binOp] using h1, h2⟩
  case xor => obtain ⟨z, h1, h2⟩ := evLit (P := P) (R := R) (ι := ι) e w; exact ⟨z, by simpa [binOp] using h1, h2⟩
  case andNot => obtain ⟨z, h1, h2⟩ := evLit (P := P) (R := R) (ι := ι) e w; exact ⟨z, by simpa [binOp] using h1, h2⟩
  case shl => exact absurd rfl h1
  case shr => exact absurd rfl h2

theorem toNat_inj : ∀ {s t : List UInt8}, s.map UInt8.toNat = t.map UInt8.toNat → s = t
  | [], [], _ => rfl
  | [], _ :: _, e => by simp at e
  | _ :: _, [], e => by simp at e
  | a :: x, b :: y, e => by
    simp only [List.map_cons, List.cons.injEq] at e
    rw [UInt8.toNat_inj.1 e.1, toNat_inj e.2]

theorem bytesLt_eq : ∀ (s t : List UInt8), bytesLt (s.map UInt8.toNat) (t.map UInt8.toNat) = Op.bytesLess s t
  | s, [] => by cases s <;> rfl
  | [], b :: y => rfl
  | a :: x, b :: y => by
    simp only [List.map_cons, bytesLt, Op.bytesLess, bytesLt_eq x y]
    have h1 : decide (a.toNat < b.toNat) = decide (a < b) := by simp [UInt8.lt_iff_toNat_lt]
    have h2 : decide (a.toNat = b.toNat) = (a == b) := by
      by_cases hab : a = b
      · subst hab; simp
      · have : ¬ a.toNat = b.toNat := fun e => hab (UInt8.toNat_inj.1 e)
        simp [hab, this]
    rw [h1, h2]

theorem bin_ok {op : BinOp} {vx vy u : V} {x y : Value} (hx : Rep w R ι vx x) (hy : Rep w R ι vy y) (e : bin op vx vy = some u) (t : TypeId) (ox oy : Operand) :
    ∃ z, (do eqGuard op t ox oy x y; binOp op t x y : Sem Value).run P w = .ok z w ∧ Rep w R ι u z := by
  unfold bin at e
  split at e
  · rename_i k n j m
    cases hx; cases hy
    rw [eqGuard_at_int]
    split at e
    · split at e
      · cases e
      · rename_i hb; cases e; exact ⟨_, by simp [binOp, Op.shift, hb], .int _ _⟩
    · split at e
      · cases e
      · rename_i hb; cases e; exact ⟨_, by simp [binOp, Op.shift, hb], .int _ _⟩
    · rename_i h1 h2
      split at e
      · rename_i hkj
        subst hkj
        obtain ⟨z, g1, g2⟩ := intBin_ok (P := P) (w := w) (R := R) (ι := ι) e (fun h => h1 h) (fun h => h2 h) t
        exact ⟨z, by simpa using g1, g2⟩
      · cases e
  · cases hx with
    | str s =>
    cases hy with
    | str r =>
      rw [eqGuard_at_string]
      have hl : ∀ s : ByteArray, s.toList = s.data.toList := ByteArray.toList_eq
      split at e
      · split at e
        · rename_i hlen
          cases e
          rw [str_len, str_len] at hlen
          have hn : ¬ (((s.size + r.size : Nat) : Int) > IntKind.i64.max) := by simp; omega
          refine ⟨.string (s ++ r), by simp [binOp, Op.stringOp]; simp at hn; omega, ?_⟩
          have : (s.data.toList.map UInt8.toNat) ++ (r.data.toList.map UInt8.toNat) = (s ++ r).data.toList.map UInt8.toNat := by simp
          rw [this]; exact .str _
        · cases e
      · cases e
        refine ⟨.bool (s.toList == r.toList), by simp [binOp, Op.stringOp], ?_⟩
        have : (s.toList == r.toList) = decide (s.data.toList.map UInt8.toNat = r.data.toList.map UInt8.toNat) := by
          rw [hl, hl]
          by_cases h : s.data.toList = r.data.toList
          · rw [h]; simp
          · have h' : ¬ (s.data.toList.map UInt8.toNat = r.data.toList.map UInt8.toNat) := fun e => h (toNat_inj e)
            rw [decide_eq_false h', beq_eq_false_iff_ne]; exact h
        rw [this]; exact .bool _
      · cases e
        refine ⟨.bool !(s.toList == r.toList), by simp [binOp, Op.stringOp], ?_⟩
        have : (s.toList == r.toList) = decide (s.data.toList.map UInt8.toNat = r.data.toList.map UInt8.toNat) := by
          rw [hl, hl]
          by_cases h : s.data.toList = r.data.toList
          · rw [h]; simp
          · have h' : ¬ (s.data.toList.map UInt8.toNat = r.data.toList.map UInt8.toNat) := fun e => h (toNat_inj e)
            rw [decide_eq_false h', beq_eq_false_iff_ne]; exact h
        rw [this]; exact .bool _
      · cases e
        refine ⟨.bool (Op.bytesLess s.toList r.toList), by simp [binOp, Op.stringOp], ?_⟩
        rw [bytesLt_eq, hl, hl]; exact .bool _
      · cases e
  · cases hx; cases hy
    rw [eqGuard_at_float]
    split at e
    · rename_i hkj
      subst hkj
      split at e <;> (obtain ⟨z, g1, g2⟩ := evLit (P := P) (R := R) (ι := ι) e w; exact ⟨z, by simpa [binOp] using g1, g2⟩)
    · cases e
  · cases hx; cases hy
    rw [eqGuard_at_complex]
    split at e
    · rename_i hkj
      subst hkj
      obtain ⟨z, g1, g2⟩ := evLit (P := P) (R := R) (ι := ι) e w
      exact ⟨z, by simpa [binOp] using g1, g2⟩
    · cases e
  · cases e

theorem un_ok {op : UnOp} {v u : V} {x : Value} (hx : Rep w R ι v x) (e : un op v = some u) : ∃ z, (Op.unary op x).run P w = .ok z w ∧ Rep w R ι u z := by
  unfold un at e
  split at e
  · cases e; cases hx; exact ⟨_, by simp [Op.unary, Op.intArith], .int _ _⟩
  · cases hx
    obtain ⟨z, g1, g2⟩ := evLit (P := P) (R := R) (ι := ι) e w
    exact ⟨z, by simpa [Op.unary] using g1, g2⟩
  · cases e; cases hx; exact ⟨_, by simp [Op.unary], .bool _⟩
  · cases e

theorem run_eq_bool {t : TypeId} (hu : P.underlying t = some .bool) (d : Nat) (b c : Bool) (w : World) : (Op.equalIn (d + 1) t (.bool b) (.bool c)).run P w = .ok (b == c) w := by
  simp [Op.equalIn, run_underlying hu]
theorem run_eq_int {t : TypeId} {k0 : IntKind} (hu : P.underlying t = some (.int k0)) (d : Nat) (k : IntKind) (b c : Int) (w : World) : (Op.equalIn (d + 1) t (.int k b) (.int k c)).run P w = .ok (decide (b = c)) w := by
  simp [Op.equalIn, run_underlying hu]
  rfl
theorem run_eq_str {t : TypeId} (hu : P.underlying t = some .string) (d : Nat) (b c : ByteArray) (w : World) : (Op.equalIn (d + 1) t (.string b) (.string c)).run P w = .ok (b == c) w := by
  simp [Op.equalIn, run_underlying hu]

theorem binB_ok {t : TypeId} (hu : P.underlying t = some .bool) {b c neg : Bool} (ox oy : Operand) :
    (do eqGuard (if neg then .neq else .eql) t ox oy (.bool b) (.bool c); binOp (if neg then .neq else .eql) t (.bool b) (.bool c) : Sem Value).run P w = .ok (.bool ((b == c) != neg)) w := by
  rw [eqGuard_at_bool]
  cases neg
  · simp only [Bool.false_eq_true, if_false, binOp]
    simp [Op.equal, Op.maxDepth, run_eq_bool hu 9999 b c w]
  · simp only [if_true, binOp]
    simp [Op.equal, Op.maxDepth, run_eq_bool hu 9999 b c w]
end
end Go.Ab

namespace Go.Ab
section
variable {P : Program} {G : Nat → Option V} {w w' : World} {R R' : Nat → Prop} {ι ι' : Nat → Option Loc} {h h' : Heap} {fr : List V} {a : Act}

theorem rep_ptr {v : V} {x : Value} (hv : Rep w R ι v x) (hk : kindOf v = 0) : ∃ p, x = .pointer p ∧ isNil v = some p.isNone := by
  cases hv <;> first | (exact ⟨_, rfl, rfl⟩) | (simp [kindOf] at hk)
theorem rep_slice {v : V} {x : Value} (hv : Rep w R ι v x) (hk : kindOf v = 1) : ∃ p n c, x = .slice p n c ∧ isNil v = some p.isNone := by
  cases hv <;> first | (exact ⟨_, _, _, rfl, rfl⟩) | (simp [kindOf] at hk)
theorem rep_map {v : V} {x : Value} (hv : Rep w R ι v x) (hk : kindOf v = 2) : ∃ p, x = .map p ∧ isNil v = some p.isNone := by
  cases hv <;> first | (exact ⟨_, rfl, rfl⟩) | (simp [kindOf] at hk)
theorem rep_func {v : V} {x : Value} (hv : Rep w R ι v x) (hk : kindOf v = 3) : (x = .nilFunc ∧ isNil v = some true) ∨ ∃ f p q, x = .func f p q ∧ isNil v = some false := by
  cases hv <;> first | (exact .inl ⟨rfl, rfl⟩) | (exact .inr ⟨_, _, _, rfl, rfl⟩) | (simp [kindOf] at hk)
theorem rep_iface {v : V} {x : Value} (hv : Rep w R ι v x) (hk : kindOf v = 4) : (x = .nilIface ∧ isNil v = some true) ∨ ∃ t p, x = .iface t p ∧ isNil v = some false := by
  cases hv <;> first | (exact .inl ⟨rfl, rfl⟩) | (exact .inr ⟨_, _, rfl, rfl⟩) | (simp [kindOf] at hk)

theorem nilEq_spec {k : Nat} {vx vy : V} {b : Bool} (e : nilEq k vx vy = some b) : kindOf vx = k ∧ kindOf vy = k ∧ ∃ p q, isNil vx = some p ∧ isNil vy = some q ∧ (p = true ∨ q = true) ∧ b = (p && q) := by
  unfold nilEq at e
  split at e
  · rename_i hc
    refine ⟨hc.2.1, hc.2.2, ?_⟩
    split at e
    · rename_i h1 h2; cases e; exact ⟨true, b, h1, h2, .inl rfl, by simp⟩
    · rename_i _ h1 h2; cases e; exact ⟨b, true, h1, h2, .inr rfl, by simp⟩
    · cases e
  · cases e

theorem eq_ptr {t el : TypeId} (hu : P.underlying t = some (.pointer el)) (d : Nat) (p q : Option Addr) (hn : p.isNone = true ∨ q.isNone = true) (w : World) : (Op.equalIn (d + 1) t (.pointer p) (.pointer q)).run P w = .ok (p.isNone && q.isNone) w := by
  cases p <;> cases q <;> first | (simp at hn; done) | simp [Op.equalIn, run_underlying hu]
theorem eq_slice {t el : TypeId} (hu : P.underlying t = some (.slice el)) (d : Nat) (p q : Option Addr) (n m c e : Nat) (hn : p.isNone = true ∨ q.isNone = true) (w : World) : (Op.equalIn (d + 1) t (.slice p n c) (.slice q m e)).run P w = .ok (p.isNone && q.isNone) w := by
  cases p <;> cases q <;> first | (simp at hn; done) | simp [Op.equalIn, run_underlying hu]
theorem eq_map {t el f : TypeId} (hu : P.underlying t = some (.map el f)) (d : Nat) (p q : Option Nat) (hn : p.isNone = true ∨ q.isNone = true) (w : World) : (Op.equalIn (d + 1) t (.map p) (.map q)).run P w = .ok (p.isNone && q.isNone) w := by
  cases p <;> cases q <;> first | (simp at hn; done) | simp [Op.equalIn, run_underlying hu]

theorem eq_func {t : TypeId} {p q : Array TypeId} {r : Bool} (hu : P.underlying t = some (.func p q r)) (d : Nat) (w : World) : (Op.equalIn (d + 1) t .nilFunc .nilFunc).run P w = .ok true w ∧
    (∀ f x y, (Op.equalIn (d + 1) t .nilFunc (.func f x y)).run P w = .ok false w) ∧ ∀ f x y, (Op.equalIn (d + 1) t (.func f x y) .nilFunc).run P w = .ok false w := by
  refine ⟨?_, fun f x y => ?_, fun f x y => ?_⟩ <;> simp [Op.equalIn, run_underlying hu]
theorem eq_iface {t : TypeId} {m : Array (String × TypeId)} (hu : P.underlying t = some (.interface m)) (d : Nat) (w : World) : (Op.equalIn (d + 1) t .nilIface .nilIface).run P w = .ok true w ∧
    (∀ u x, (Op.equalIn (d + 1) t .nilIface (.iface u x)).run P w = .ok false w) ∧ ∀ u x, (Op.equalIn (d + 1) t (.iface u x) .nilIface).run P w = .ok false w := by
  refine ⟨?_, fun u x => ?_, fun u x => ?_⟩ <;> simp [Op.equalIn, run_underlying hu]

theorem binOp_eq {neg : Bool} {t : TypeId} {x y : Value} {b : Bool} (h1 : binOp .eql t x y = (do pure (.bool (← Op.equal t x y)) : Sem Value)) (h2 : binOp .neq t x y = (do pure (.bool (!(← Op.equal t x y))) : Sem Value))
    (hr : (Op.equalIn 10000 t x y).run P w = .ok b w) : (binOp (if neg then .neq else .eql) t x y).run P w = .ok (.bool (b != neg)) w := by
  cases neg
  · simp only [Bool.false_eq_true, if_false]
    rw [h1]
    simp [Op.equal, Op.maxDepth, hr]
  · simp only [if_true]
    rw [h2]
    simp [Op.equal, Op.maxDepth, hr]

/-- which types the kinds are -/
def KindT (P : Program) (k : Nat) (t : TypeId) : Prop :=
  (k = 0 ∧ ∃ e, P.underlying t = some (.pointer e)) ∨ (k = 1 ∧ ∃ e, P.underlying t = some (.slice e)) ∨ (k = 2 ∧ ∃ e f, P.underlying t = some (.map e f)) ∨
  (k = 3 ∧ ∃ a b c, P.underlying t = some (.func a b c)) ∨ (k = 4 ∧ ∃ m, P.underlying t = some (.interface m))

theorem binN_ok {k : Nat} {t : TypeId} (hk : KindT P k t) {vx vy : V} {x y : Value} (hx : Rep w R ι vx x) (hy : Rep w R ι vy y) {b neg : Bool} (e : nilEq k vx vy = some b) (ox oy : Operand)
    (hc : k = 4 → (isConstO ox || isConstO oy) = true) :
    (do eqGuard (if neg then .neq else .eql) t ox oy x y; binOp (if neg then .neq else .eql) t x y : Sem Value).run P w = .ok (.bool (b != neg)) w := by
  obtain ⟨h1, h2, p, q, hp, hq, hn, rfl⟩ := nilEq_spec e
  rcases hk with ⟨rfl, el, hu⟩ | ⟨rfl, el, hu⟩ | ⟨rfl, el, f, hu⟩ | ⟨rfl, f1, f2, f3, hu⟩ | ⟨rfl, m, hu⟩
  · obtain ⟨px, rfl, hx'⟩ := rep_ptr hx h1
    obtain ⟨py, rfl, hy'⟩ := rep_ptr hy h2
    rw [hp] at hx'; rw [hq] at hy'; cases hx'; cases hy'
    rw [eqGuard_at_pointer]
    exact binOp_eq rfl rfl (eq_ptr hu 9999 px py hn w)
  · obtain ⟨px, n, c, rfl, hx'⟩ := rep_slice hx h1
    obtain ⟨py, n', c', rfl, hy'⟩ := rep_slice hy h2
    rw [hp] at hx'; rw [hq] at hy'; cases hx'; cases hy'
    rw [eqGuard_at_slice]
    exact binOp_eq rfl rfl (eq_slice hu 9999 px py n n' c c' hn w)
  · obtain ⟨px, rfl, hx'⟩ := rep_map hx h1
    obtain ⟨py, rfl, hy'⟩ := rep_map hy h2
    rw [hp] at hx'; rw [hq] at hy'; cases hx'; cases hy'
    rw [eqGuard_at_map]
    exact binOp_eq rfl rfl (eq_map hu 9999 px py hn w)
  · rcases rep_func hx h1 with ⟨rfl, hx'⟩ | ⟨fx, px, qx, rfl, hx'⟩ <;> rcases rep_func hy h2 with ⟨rfl, hy'⟩ | ⟨fy, py, qy, rfl, hy'⟩ <;>
      rw [hp] at hx' <;> rw [hq] at hy' <;> cases hx' <;> cases hy'
    · rw [eqGuard_at_nilFunc]; exact binOp_eq rfl rfl (eq_func hu 9999 w).1
    · rw [eqGuard_at_nilFunc]; exact binOp_eq rfl rfl ((eq_func hu 9999 w).2.1 _ _ _)
    · rw [eqGuard_at_func]; exact binOp_eq rfl rfl ((eq_func hu 9999 w).2.2 _ _ _)
    · simp at hn
  · rcases rep_iface hx h1 with ⟨rfl, hx'⟩ | ⟨tx, px, rfl, hx'⟩ <;> rcases rep_iface hy h2 with ⟨rfl, hy'⟩ | ⟨ty, py, rfl, hy'⟩ <;>
      rw [hp] at hx' <;> rw [hq] at hy' <;> cases hx' <;> cases hy'
    · have hg : eqGuard (if neg then .neq else .eql) t ox oy .nilIface .nilIface = pure () := by
        have := hc rfl
        cases ox <;> cases oy <;> simp [isConstO] at this <;> cases neg <;> rfl
      rw [hg]; exact binOp_eq rfl rfl (eq_iface hu 9999 w).1
    · have hg : eqGuard (if neg then .neq else .eql) t ox oy .nilIface (.iface ty py) = pure () := by cases neg <;> rfl
      rw [hg]; exact binOp_eq rfl rfl ((eq_iface hu 9999 w).2.1 _ _)
    · rw [eqGuard_at_iface]; exact binOp_eq rfl rfl ((eq_iface hu 9999 w).2.2 _ _)
    · simp at hn

theorem bytes_beq (s r : ByteArray) : (s == r) = decide (s.data.toList.map UInt8.toNat = r.data.toList.map UInt8.toNat) := by
  have e : (s == r) = (s.data == r.data) := rfl
  rw [e]
  by_cases h : s.data = r.data
  · rw [h]; simp
  · have h' : ¬ (s.data.toList.map UInt8.toNat = r.data.toList.map UInt8.toNat) := fun e => h (Array.toList_inj.1 (toNat_inj e))
    rw [decide_eq_false h']
    exact beq_eq_false_iff_ne.2 h

/-! structs -/

/-- what a cell of a flat struct holds -/
def eqT (P : Program) (t : TypeId) (v : V) : Bool :=
  match P.underlying t, v with
  | some (.int _), .int _ _ | some .bool, .bool _ | some .string, .str _ => true
  | _, _ => false

theorem eq1_run {t : TypeId} {vx vy : V} {x y : Value} (ht : eqT P t vx = true) (hx : Rep w R ι vx x) (hy : Rep w R ι vy y) {b : Bool} (e : eq1 vx vy = some b) (d : Nat) :
    (Op.equalIn (d + 1) t x y).run P w = .ok b w := by
  unfold eq1 at e
  unfold eqT at ht
  split at e
  · cases e; cases hx; cases hy
    split at ht
    · rename_i heq; cases heq
    · rename_i hu heq; exact run_eq_bool hu d _ _ w
    · rename_i heq; cases heq
    · cases ht
  · split at e
    · rename_i hkj
      subst hkj
      cases e; cases hx; cases hy
      split at ht
      · rename_i k0 _ _ hu heq; exact run_eq_int hu d _ _ _ w
      · rename_i heq; cases heq
      · rename_i heq; cases heq
      · cases ht
    · cases e
  · cases e
    cases hx with
    | str s => cases hy with
      | str r =>
        split at ht
        · rename_i heq; cases heq
        · rename_i heq; cases heq
        · rename_i hu heq
          rw [run_eq_str hu d s r w]
          rw [bytes_beq]
        · cases ht
  · cases e

theorem eqCells_run {d : Nat} {xs ys : Array Value} : ∀ (fs : List Field) (k : Nat) (cs ds : List V) (b : Bool),
    (∀ (i : Nat) f, fs[i]? = some f → f.name ≠ "_" ∧ f.offset = k + i ∧ P.cellsOf f.type = 1 ∧ aggT P f.type = some false ∧ ∀ v, cs[i]? = some v → eqT P f.type v = true) →
    fs.length = cs.length → RepL w R ι cs (xs.toList.drop k) → RepL w R ι ds (ys.toList.drop k) → eqCells cs ds = some b →
    (Op.eqFields (d + 1) xs ys fs).run P w = .ok b w
  | [], k, [], [], b, _, _, _, _, e => by simp only [eqCells] at e; cases e; simp [Op.eqFields]
  | [], _, [], _ :: _, _, _, _, _, _, e => by simp [eqCells] at e
  | [], _, _ :: _, _, _, _, hl, _, _, _ => by simp at hl
  | _ :: _, _, [], _, _, _, hl, _, _, _ => by simp at hl
  | _ :: _, _, _ :: _, [], _, _, _, _, _, e => by simp [eqCells] at e
  | f :: fs, k, c :: cs, g :: ds, b, hf, hl, hx, hy, e => by
    obtain ⟨h1, h2, h3, h4, h5⟩ := hf 0 f rfl
    obtain ⟨x, hx1, hx2⟩ := hx.get (i := 0) (v := c) rfl
    obtain ⟨y, hy1, hy2⟩ := hy.get (i := 0) (v := g) rfl
    simp only [List.getElem?_drop, Nat.add_zero, Array.getElem?_toList] at hx1 hy1
    have hp1 : (Go.part f.type xs f.offset).run P w = .ok x w := by rw [h2]; simp [Go.part, run_isAgg h4, hx1]
    have hp2 : (Go.part f.type ys f.offset).run P w = .ok y w := by rw [h2]; simp [Go.part, run_isAgg h4, hy1]
    simp only [eqCells] at e
    have hrest : ∀ b', eqCells cs ds = some b' → (Op.eqFields (d + 1) xs ys fs).run P w = .ok b' w := fun b' e' =>
      eqCells_run fs (k + 1) cs ds b' (fun i f' hf' => by
        obtain ⟨g1, g2, g3, g4, g5⟩ := hf (i + 1) f' (by simpa using hf')
        exact ⟨g1, by omega, g3, g4, fun v hv => g5 v (by simpa using hv)⟩) (by simpa using hl)
        (by have := hx.drop 1; simpa [List.drop_drop, Nat.add_comm] using this) (by have := hy.drop 1; simpa [List.drop_drop, Nat.add_comm] using this) e'
    unfold Op.eqFields
    rw [if_pos h1]
    simp only [Sem.run_bind, hp1, hp2, Result.andThen_ok]
    split at e
    · rename_i he
      rw [eq1_run (h5 c rfl) hx2 hy2 he d]
      simp only [Result.andThen_ok, Bool.not_true, Bool.false_eq_true, if_false]
      exact hrest b e
    · rename_i he
      cases e
      rw [eq1_run (h5 c rfl) hx2 hy2 he d]
      simp
    · cases e
end
end Go.Ab

namespace Go.Ab
section
variable {P : Program} {G : Nat → Option V} {w w' : World} {R R' : Nat → Prop} {ι ι' : Nat → Option Loc} {h h' : Heap} {fr : List V} {a : Act}

/-- a block gets another name -/
theorem Post.rename (hr : HRel w R ι h) {id : Nat} {l : List V} {loc : Loc} (hg : h.get id = some (.cells l)) (hi : ι id = some loc) :
    Post w R ι h w R (named ι h.next loc) ((h.put id none).new (.cells l)) := by
  have hlt := get_lt hg
  have hι : ∀ id loc', ι id = some loc' → named ι h.next loc id = some loc' := fun id loc' e => by
    rw [named_ne _ _ (Nat.ne_of_lt (hr.ι_lt e))]; exact e
  have hmono : ∀ {v x}, Rep w R ι v x → Rep w R (named ι h.next loc) v x := fun hv => hv.mono (fun _ h => h) (fun _ _ => rfl) hι
  have hnext : (h.put id none).next = h.next := rfl
  have hget : ∀ j blk, ((h.put id none).new (.cells l)).get j = some blk → (j = h.next ∧ blk = .cells l) ∨ (j < h.next ∧ j ≠ id ∧ h.get j = some blk) := fun j blk e => by
    have hlt' : j < h.next + 1 := get_lt e
    rcases Nat.lt_or_ge j h.next with hj | hj
    · rw [get_new_lt (by rw [hnext]; exact hj)] at e
      by_cases hji : j = id
      · subst hji; rw [get_put_same _ hlt hr.len] at e; cases e
      · rw [get_put_ne _ hji hlt] at e; exact .inr ⟨hj, hji, e⟩
    · have : j = h.next := by omega
      subst this
      have e2 := get_new_same (h.put id none) (.cells l)
      rw [hnext] at e2
      rw [e2] at e
      exact .inl ⟨rfl, (Option.some.inj e).symm⟩
  refine ⟨⟨?_, ?_, hr.lt, ?_, ?_, ?_, ?_, ?_, ?_, ?_⟩, fun _ h => h, fun j hj => named_ne _ _ (Nat.ne_of_lt hj), Nat.le_refl _, rfl, rfl, rfl, fun _ _ _ => rfl, ?_, ?_, Nat.le_succ _, rfl, fun _ h => .inl h⟩
  · simp [Heap.new, Heap.put, hr.len]
  · intro j hj
    have hj' : h.next + 1 ≤ j := hj
    rw [named_ne _ _ (by omega)]
    exact hr.none j (by omega)
  · intro j l' loc' e e'
    rcases hget j _ e with ⟨rfl, hb⟩ | ⟨hj, hji, e⟩
    · cases hb
      rw [named_same] at e'
      obtain rfl := Option.some.inj e'
      obtain ⟨cur', t', g1, g2, g3, g4, g5⟩ := hr.cells id l loc hg hi
      exact ⟨cur', t', g1, g2, g3, g4, fun i v ev => by
        obtain ⟨x, hx, hv⟩ := g5 i v ev
        exact ⟨x, hx, hmono hv⟩⟩
    · rw [named_ne _ _ (Nat.ne_of_lt hj)] at e'
      obtain ⟨cur', t', g1, g2, g3, g4, g5⟩ := hr.cells j l' loc' e e'
      exact ⟨cur', t', g1, g2, g3, g4, fun i v ev => by
        obtain ⟨x, hx, hv⟩ := g5 i v ev
        exact ⟨x, hx, hmono hv⟩⟩
  · intro j es loc' e e'
    rcases hget j _ e with ⟨_, hb⟩ | ⟨hj, _, e⟩
    · cases hb
    · rw [named_ne _ _ (Nat.ne_of_lt hj)] at e'
      exact (hr.maps j es loc' e e').move rfl hmono
  · intro j j' blk blk' loc1 loc2 e e' f f' hne
    rcases hget j _ e with ⟨rfl, _⟩ | ⟨hj, hji, e⟩ <;> rcases hget j' _ e' with ⟨rfl, _⟩ | ⟨hj', hji', e'⟩
    · exact absurd rfl hne
    · rw [named_same] at f; obtain rfl := Option.some.inj f
      rw [named_ne _ _ (Nat.ne_of_lt hj')] at f'
      exact hr.inj id j' _ blk' _ loc2 hg e' hi f' (Ne.symm hji')
    · rw [named_same] at f'; obtain rfl := Option.some.inj f'
      rw [named_ne _ _ (Nat.ne_of_lt hj)] at f
      exact hr.inj j id blk _ loc1 _ e hg f hi hji
    · rw [named_ne _ _ (Nat.ne_of_lt hj)] at f
      rw [named_ne _ _ (Nat.ne_of_lt hj')] at f'
      exact hr.inj j j' blk blk' loc1 loc2 e e' f f' hne
  · intro j blk loc' e f
    rcases hget j _ e with ⟨rfl, _⟩ | ⟨hj, _, e⟩
    · rw [named_same] at f; obtain rfl := Option.some.inj f
      exact hr.apart id _ _ hg hi
    · rw [named_ne _ _ (Nat.ne_of_lt hj)] at f; exact hr.apart j blk loc' e f
  · intro f hf j l' loc' hj e e'
    have hlt2 : j < h.next := Nat.lt_of_lt_of_le hj (hr.floor f hf)
    rcases hget j _ e with ⟨rfl, _⟩ | ⟨_, _, e⟩
    · omega
    · rw [named_ne _ _ (Nat.ne_of_lt hlt2)] at e'
      exact hr.low f hf j l' loc' hj e e'
  · intro f hf; have := hr.floor f hf; show f ≤ h.next + 1; omega
  · intro f hf j es loc' hj e e'
    have hlt2 : j < h.next := Nat.lt_of_lt_of_le hj (hr.floor f hf)
    rcases hget j _ e with ⟨rfl, _⟩ | ⟨_, _, e⟩
    · omega
    · rw [named_ne _ _ (Nat.ne_of_lt hlt2)] at e'
      exact hr.lowM f hf j es loc' hj e e'
  · intro j blk loc' e f
    rcases hget j _ e with ⟨rfl, _⟩ | ⟨hj, _, e⟩
    · rw [named_same] at f; obtain rfl := Option.some.inj f
      exact .inr ⟨id, _, _, hg, hi, rfl⟩
    · rw [named_ne _ _ (Nat.ne_of_lt hj)] at f
      exact .inr ⟨j, blk, loc', e, f, rfl⟩
  · intro j hj hn
    rw [get_new_lt (by rw [hnext]; exact hj)]
    exact get_put_ne _ (fun e => by subst e; rw [hi] at hn; cases hn) hlt

/-- a slice or string type -/
def RowT (P : Program) (u : TypeId) : Prop := P.underlying u = some .string ∨ ∃ e, P.underlying u = some (.slice e)

theorem append_room {ts : Array TypeId} {ty t u e : TypeId} {i : TypeInfo} (h0 : ts[0]? = some t) (h1 : ts[1]? = some u) (ht : P.underlying t = some (.slice e)) (hu : RowT P u) (hi : P.info? e = some i)
    {base : Option Addr} {sLen sCap m : Nat} {x : Value} {news : Array Value} (hl : (Builtin.lenOf x).run P w = .ok m w) (hf : (Builtin.firstCells i.size m x).run P w = .ok news w) (hroom : sLen + m ≤ sCap)
    (hst : (match base with | some ad => (storeCells (ad.add (sLen * i.size)) news.toList).run P w | none => .ok () w) = .ok () w') :
    (Builtin.append_ ts ty #[.slice base sLen sCap, x]).run P w = .ok (.slice base (sLen + m) sCap) w' := by
  rcases hu with hu | ⟨e', hu⟩ <;> cases base <;> simp at hst <;> (try subst hst) <;> simp [Builtin.append_, run_underlying ht, run_underlying hu, sizeOf, typeInfo, *]

theorem append_grow {ts : Array TypeId} {ty t u e : TypeId} {i : TypeInfo} {z : Value} (h0 : ts[0]? = some t) (h1 : ts[1]? = some u) (ht : P.underlying t = some (.slice e)) (hu : RowT P u) (hi : P.info? e = some i) (hz : i.zero = some z)
    {base : Option Addr} {sLen sCap m : Nat} {x : Value} {olds news : Array Value} (hl : (Builtin.lenOf x).run P w = .ok m w) (hf : (Builtin.firstCells i.size m x).run P w.drew = .ok news w.drew)
    (ho : (Builtin.firstCells i.size sLen (.slice base sLen sCap)).run P w.drew = .ok olds w.drew) (hroom : sCap < sLen + m) (hb : 0 < i.bytes) (hfit : (sLen + m) * i.bytes ≤ 140737488355328) :
    (Builtin.append_ ts ty #[.slice base sLen sCap, x]).run P w =
      .ok (.slice (some ⟨w.heap.size, 0, none⟩) (sLen + m) (grownCap w (sLen + m) sCap e)) (w.drew.alloc (.cells (olds ++ news ++ Builtin.zeroCells z.cells (grownCap w (sLen + m) sCap e - (sLen + m))) e)) := by
  have hn : ¬ (sLen + m ≤ sCap) := by omega
  have hle : sLen + m ≤ (sLen + m) * i.bytes := Nat.le_mul_of_pos_right _ hb
  have h63' : ¬ (9223372036854775807 < ((sLen : Int) + (m : Int))) := by omega
  have h48 := growslice_fits hroom hfit
  have h48' : ¬ (281474976710656 < Builtin.nextslicecap (sLen + m) sCap * i.bytes) := by omega
  rcases hu with hu | ⟨e', hu⟩ <;> simp [Builtin.append_, h0, h1, run_underlying ht, run_underlying hu, sizeOf, typeInfo, zeroValue, hi, hz, hl, hn, h63', h48', Question.forced, hf, ho, newRow, grownCap]

/-- the elements of a slice or a string -/
theorem news_ok (hr : HRel w R ι h) {sz m : Nat} {v : V} {x : Value} {cs : List V} (e : h.row sz v = some cs) (hm : lenOf v = some m) (hv : Rep w R ι v x) :
    ∃ ys : Array Value, (∀ w', w'.heap = w.heap → (Builtin.lenOf x).run P w' = .ok m w' ∧ (Builtin.firstCells sz m x).run P w' = .ok ys w') ∧ RepL w R ι cs ys.toList ∧ (∀ u ∈ cs, u.one = true) ∧ cs.length = m * sz := by
  by_cases hs : ∃ s, v = .str s
  · obtain ⟨s, rfl⟩ := hs
    unfold Heap.row at e
    simp only at e
    split at e
    · rename_i h1
      subst h1
      cases e
      cases hv with
      | str b =>
        simp only [lenOf, Option.some.injEq] at hm
        have hms : m = b.size := by rw [← hm, List.length_map]; exact Array.length_toList
        refine ⟨b.data.map fun c => Value.int .u8 c.toNat, fun w' _ => ⟨?_, ?_⟩, ?_, ?_, ?_⟩
        · simp [Builtin.lenOf, hms]
        · have hx : (b.extract 0 m).data = b.data := by
            rw [hms, ByteArray.data_extract]
            have : b.size = b.data.size := rfl
            rw [this, Array.extract_size]
          simp only [Builtin.firstCells, Sem.run_pure, hx]
        · refine ⟨by simp, fun i v y ev ey => ?_⟩
          simp only [List.map_map, List.getElem?_map, Array.toList_map] at ev ey
          cases hb : b.data.toList[i]? with
          | none => rw [hb] at ev; cases ev
          | some c =>
            rw [hb] at ev ey
            cases ev; cases ey
            exact .int _ _
        · intro u hu
          obtain ⟨b, _, rfl⟩ := List.mem_map.1 hu
          rfl
        · simp only [List.length_map] at hm ⊢; omega
    · cases e
  · obtain ⟨base, len, cap, xs, rfl, hlen, hcl, hone, hrep, hlc, hbn, hcell⟩ := row_ok hr e hv (fun s hs' => hs ⟨s, hs'⟩)
    rw [hm] at hlen; cases hlen
    refine ⟨xs.toArray, fun w' hw' => ⟨by simp [Builtin.lenOf], ?_⟩, by simpa using hrep, hone, hcl⟩
    refine firstCells_ok (by rw [← hrep.1, hcl]) (fun j y ey => ?_) (fun hb => by have := hbn hb; omega)
    obtain ⟨ad, h1, h2⟩ := hcell j y ey
    exact ⟨ad, h1, by rw [World.cell?, hw']; exact h2⟩

/-- a new block with a row's elements and more behind it -/
theorem Post.grown (hr : HRel w R ι h) {olds news rest : Array Value} {t : TypeId} {lo ln : List V} (h1 : RepL w R ι lo olds.toList) (h2 : RepL w R ι ln news.toList) (o1 : ∀ u ∈ lo, u.one = true) (o2 : ∀ u ∈ ln, u.one = true) :
    Post w R ι h (w.drew.alloc (.cells (olds ++ news ++ rest) t)) R (named ι h.next ⟨w.heap.size, (olds ++ news ++ rest).size⟩) (h.new (.cells (lo ++ ln))) := by
  have hrep : RepL w R ι (lo ++ ln) (olds.toList ++ news.toList) := by
    have := RepL.splice h1 h2 (show RepL w R ι [] [] from ⟨rfl, by simp⟩)
    simpa using this
  refine Post.alloc hr (cur := olds ++ news ++ rest) (t := t) rfl rfl rfl rfl ?_ ?_ ?_
  · have := hrep.1
    simp only [List.length_append, Array.length_toList] at this
    simp only [Array.size_append, List.length_append]; omega
  · intro u hu
    rcases List.mem_append.1 hu with hu | hu
    · exact o1 u hu
    · exact o2 u hu
  · intro i v ei
    obtain ⟨x, hx, hrp⟩ := hrep.get ei
    refine ⟨x, ?_, hrp⟩
    have hlt : i < (olds.toList ++ news.toList).length := (List.getElem?_eq_some_iff.1 hx).1
    rw [← Array.getElem?_toList]
    simp only [Array.toList_append]
    rw [List.getElem?_append_left hlt]
    exact hx

/-- a row's cells, one behind the other -/
theorem stored_reps {l news : List V} {cur : Array Value} {ys : List Value} {o : Nat} (_hl : l.length ≤ cur.size) (hcur : ∀ (i : Nat) v, l[i]? = some v → ∃ x, cur[i]? = some x ∧ Rep w R ι v x)
    (hn : RepL w R ι news ys) (hfit : o + ys.length ≤ cur.size) (ho : o ≤ l.length) :
    ∀ (i : Nat) v, (l.take o ++ news ++ l.drop (o + news.length))[i]? = some v → ∃ x, (cur.toList.take o ++ ys ++ cur.toList.drop (o + ys.length)).toArray[i]? = some x ∧ Rep w R ι v x := by
  intro i v ei
  have hnl := hn.1
  have l1 : (l.take o).length = o := by simp; omega
  have l2 : (cur.toList.take o).length = o := by simp; omega
  simp only [List.getElem?_toArray, List.append_assoc] at ei ⊢
  rcases Nat.lt_or_ge i o with hi | hi
  · rw [List.getElem?_append_left (by omega), List.getElem?_take, if_pos hi] at ei
    rw [List.getElem?_append_left (by omega), List.getElem?_take, if_pos hi]
    obtain ⟨x, hx, hr⟩ := hcur i v ei
    exact ⟨x, by simpa using hx, hr⟩
  · rw [List.getElem?_append_right (by omega), l1] at ei
    rw [List.getElem?_append_right (by omega), l2]
    rcases Nat.lt_or_ge (i - o) news.length with hj | hj
    · rw [List.getElem?_append_left hj] at ei
      rw [List.getElem?_append_left (by omega)]
      exact hn.get ei
    · rw [List.getElem?_append_right hj, List.getElem?_drop] at ei
      rw [List.getElem?_append_right (by omega), List.getElem?_drop]
      have e1 : o + news.length + (i - o - news.length) = i := by omega
      have e2 : o + ys.length + (i - o - ys.length) = i := by omega
      rw [e1] at ei
      rw [e2]
      obtain ⟨x, hx, hr⟩ := hcur i v ei
      exact ⟨x, by simpa using hx, hr⟩

theorem append_ok (hr : HRel w R ι h) {ts : Array TypeId} {ty t u el : TypeId} {i : TypeInfo} {zv : Value} (h0 : ts[0]? = some t) (h1 : ts[1]? = some u) (ht : P.underlying t = some (.slice el)) (hu : RowT P u) (hi : P.info? el = some i)
    (hz : i.zero = some zv) (hzs : zv.cells.size = i.size) (hpos : 0 < i.size) (hb : 0 < i.bytes)
    {vs vx v : V} {s x : Value} (hs : Rep w R ι vs s) (hx : Rep w R ι vx x) (e : append h i.size i.bytes vs vx = some (v, h')) :
    ∃ w' R' ι' y, (Builtin.append_ ts ty #[s, x]).run P w = .ok y w' ∧ Post w R ι h w' R' ι' h' ∧ Rep w' R' ι' v y := by
  unfold append at e
  split at e
  case h_2 => cases e
  rename_i news m hnews hm
  obtain ⟨ys, hf, hrep, hone, hnl⟩ := news_ok hr hnews hm hx
  have hf0 := hf w rfl
  have hfd := hf w.drew rfl
  have hmr : maxRow = 140737488355328 := rfl
  have hyl : ys.size = m * i.size := by rw [← hnl, hrep.1, Array.length_toList]
  have nothing : ∀ (hm0 : m = 0) {base : Option Addr} {sLen sCap : Nat}, sLen ≤ sCap → (Builtin.append_ ts ty #[.slice base sLen sCap, x]).run P w = .ok (.slice base sLen sCap) w := by
    intro hm0 base sLen sCap hle
    subst hm0
    have hys : ys = #[] := Array.eq_empty_of_size_eq_zero (by simpa using hyl)
    subst hys
    refine append_room h0 h1 ht hu hi hf0.1 hf0.2 (by omega) ?_
    cases base <;> simp [storeCells]
  -- the elements go into a new block
  have fresh : ∀ {base : Option Addr} {sLen sCap : Nat} {olds : Array Value} {lo : List V}, (∀ w', w'.heap = w.heap → (Builtin.firstCells i.size sLen (.slice base sLen sCap)).run P w' = .ok olds w') → RepL w R ι lo olds.toList → (∀ u ∈ lo, u.one = true) →
      olds.size = sLen * i.size → sCap < sLen + m → (sLen + m) * i.bytes ≤ 140737488355328 → ∀ {R1 : Nat → Prop} {h1 : Heap}, Post w R ι h w R1 ι h1 → h1.next = h.next →
      ∃ w' R' ι' y, (Builtin.append_ ts ty #[.slice base sLen sCap, x]).run P w = .ok y w' ∧ Post w R ι h w' R' ι' (h1.new (.cells (lo ++ news))) ∧ Rep w' R' ι' (.msl h.next i.size 0 (sLen + m) none) y := by
    intro base sLen sCap olds lo ho hlo hlo1 hos hlt hfit R1 h2 hp hnx
    have hrun := append_grow (ty := ty) h0 h1 ht hu hi hz hf0.1 hfd.2 (ho w.drew rfl) hlt hb hfit
    have hg := Post.grown (rest := Builtin.zeroCells zv.cells (grownCap w (sLen + m) sCap el - (sLen + m))) (t := el) hp.rel (hp.vals hr hlo) (hp.vals hr hrep) hlo1 hone
    refine ⟨_, _, _, _, hrun, hp.trans hg, ?_⟩
    have hcap := grownCap_ge w (sLen + m) sCap el
    rw [hnx]
    have := Rep.msl (w := w.drew.alloc (.cells (olds ++ ys ++ Builtin.zeroCells zv.cells (grownCap w (sLen + m) sCap el - (sLen + m))) el)) (R := R1)
      (ι := named ι h.next ⟨w.heap.size, (olds ++ ys ++ Builtin.zeroCells zv.cells (grownCap w (sLen + m) sCap el - (sLen + m))).size⟩) h.next i.size 0 (sLen + m) none _ (grownCap w (sLen + m) sCap el) (named_same ..) hcap
      (fun _ => by
        simp only [Array.size_append, size_zeroCells, hzs, hos, hyl, ← Nat.add_mul, Nat.zero_add]
        congr 1; omega) (fun _ h => by cases h)
    rw [Nat.zero_mul] at this
    exact this
  split at e
  · cases hs
    split at e
    · rename_i hm0
      cases e
      exact ⟨w, R, ι, _, nothing hm0 (Nat.le_refl _), Post.refl hr, .nilsl⟩
    · rename_i hm0
      split at e
      · rename_i hfit
        cases e
        have := fresh (base := none) (sLen := 0) (sCap := 0) (olds := #[]) (lo := []) (fun w' _ => run_firstCells_none w' _ 0 0 0) ⟨rfl, by simp⟩ (by simp) (by simp) (by omega) (by rw [Nat.zero_add, ← hmr]; exact hfit) (Post.refl hr) rfl
        simpa using this
      · cases e
  · cases hs with
    | esl ad c =>
      split at e
      · rename_i hm0
        cases e
        exact ⟨w, R, ι, _, nothing hm0 (Nat.zero_le _), Post.refl hr, .esl ad c⟩
      · cases e
  · rename_i es c
    have hs' := hs
    cases hs with
    | fsl _ _ ad cap sz' g hs1 hR hlc hc hsz hone' hlow hcell hrep' =>
    split at e
    · rename_i hm0
      cases e
      exact ⟨w, R, ι, _, nothing hm0 hlc, Post.refl hr, hs'⟩
    · split at e
      · cases e
      · rename_i hm0 hgr
        split at e
        · rename_i old hold
          split at e
          · rename_i hfit
            cases e
            obtain ⟨olds, ho, hro, ho1, hol⟩ := news_ok hr hold (m := es.length) rfl hs'
            exact fresh (olds := olds) (fun w' hw' => (ho w' hw').2) hro ho1 (by rw [← hol, hro.1, Array.length_toList]) (by rw [hc c rfl]; omega) (by rw [← hmr]; exact hfit) (Post.refl hr) rfl
          · cases e
        · cases e
  · rename_i id sz' off len cap
    split at e
    · cases e
    · rename_i hsz'
      have hsz : i.size = sz' := by simpa using hsz'
      subst hsz
      split at e
      · cases e
      · rename_i l hcells
        have hs' := hs
        cases hs with
        | msl _ _ _ _ _ loc c' hι hlc hfull hcap =>
        split at e
        · rename_i c
          have hc' := hcap c rfl
          subst hc'
          split at e
          · rename_i hm0
            cases e
            exact ⟨w, R, ι, _, nothing hm0 hlc, Post.refl hr, hs'⟩
          · split at e
            · cases e
            · split at e
              · rename_i hm0 hgr old hold
                split at e
                · rename_i hfit
                  cases e
                  obtain ⟨olds, ho, hro, ho1, hol⟩ := news_ok hr hold (m := len) rfl hs'
                  exact fresh (olds := olds) (fun w' hw' => (ho w' hw').2) hro ho1 (by rw [← hol, hro.1, Array.length_toList]) (by omega) (by rw [← hmr]; exact hfit) (Post.refl hr) rfl
                · cases e
              · cases e
        · split at e
          · cases e
          · rename_i hoff
            have hoff' : off = 0 := by simpa using hoff
            subst hoff'
            have hg := cellsOf_get hcells
            obtain ⟨cur, te, g1, g2, g3, g4, g5⟩ := hr.cells id l loc hg hι
            have hfull' : c' * i.size = cur.size := by rw [g2, ← hfull rfl, Nat.zero_add]
            have hnl' : news.length = ys.toList.length := hrep.1
            -- the elements go behind the others
            have inplace : len + m ≤ c' → len * i.size ≤ l.length → (Builtin.append_ ts ty #[.slice (some ⟨loc.b, 0 * i.size, none⟩) len c', x]).run P w = .ok (.slice (some ⟨loc.b, 0 * i.size, none⟩) (len + m) c') (w.setRow loc.b (cur.toList.take (len * i.size) ++ ys.toList ++ cur.toList.drop (len * i.size + ys.toList.length)).toArray) := by
              intro hroom _
              refine append_room h0 h1 ht hu hi hf0.1 hf0.2 hroom ?_
              have hfits : len * i.size + ys.toList.length ≤ cur.size := by
                rw [Array.length_toList, hyl, ← hfull', ← Nat.add_mul]
                exact Nat.mul_le_mul_right _ hroom
              have hst := run_storeCells_at P loc.b (len * i.size) te ys.toList 0 cur w g1 (by simpa using hfits) (by
                intro z hz'
                obtain ⟨j, hj⟩ := List.mem_iff_getElem?.1 hz'
                have hj' : j < news.length := by rw [hnl']; exact (List.getElem?_eq_some_iff.1 hj).1
                exact (hrep.2 j _ z (List.getElem?_eq_getElem hj') hj).oneCell (hone _ (List.getElem_mem hj')))
              simp only [Nat.add_zero] at hst
              have had : (⟨loc.b, 0 * i.size, none⟩ : Addr).add (len * i.size) = ⟨loc.b, len * i.size, none⟩ := by rw [addr_add rfl, Nat.zero_mul, Nat.zero_add]
              simp only [had]
              exact hst
            have putpost : ∀ (hroom : len + m ≤ c') (hlen : len * i.size ≤ l.length) (hlow : ∀ f ∈ h.floors, id < f → V.lows f (l.take (len * i.size) ++ news ++ l.drop (len * i.size + news.length)) = true),
                Post w R ι h (w.setRow loc.b (cur.toList.take (len * i.size) ++ ys.toList ++ cur.toList.drop (len * i.size + ys.toList.length)).toArray) R ι (h.put id (some (.cells (l.take (len * i.size) ++ news ++ l.drop (len * i.size + news.length))))) := by
              intro hroom hlen hlow
              have hfits : len * i.size + ys.toList.length ≤ cur.size := by
                rw [Array.length_toList, hyl, ← hfull', ← Nat.add_mul]
                exact Nat.mul_le_mul_right _ hroom
              refine Post.put hr hg hι g1 ?_ ?_ ?_ (stored_reps g3 g5 hrep hfits hlen) hlow
              · simp only [List.size_toArray, List.length_append, List.length_take, List.length_drop, Array.length_toList] at hfits ⊢; omega
              · simp only [List.length_append, List.length_take, List.length_drop]; omega
              · intro z hz'
                simp only [List.mem_append] at hz'
                rcases hz' with (hz' | hz') | hz'
                · exact g4 z (List.mem_of_mem_take hz')
                · exact hone z hz'
                · exact g4 z (List.mem_of_mem_drop hz')
            split at e
            · rename_i hroom
              split at e
              · rename_i hmay
                cases e
                have hroom' : len + m ≤ c' := by
                  have : (len + m) * i.size ≤ c' * i.size := by omega
                  exact Nat.le_of_mul_le_mul_right this hpos
                have hlen : len * i.size ≤ l.length := by rw [Nat.add_mul] at hroom; omega
                have hdrop : (len + m) * i.size = len * i.size + news.length := by rw [hnl, Nat.add_mul]
                rw [hdrop]
                have hp := putpost hroom' hlen (fun f hf' hid => by
                  have hm' := (List.all_eq_true.1 hmay) f hf'
                  simp only [Bool.or_eq_true, decide_eq_true_eq] at hm'
                  rcases hm' with hm' | hm'
                  · omega
                  · have hlow := hr.low f hf' id l loc hid hg hι
                    refine lows_spec.2 fun z hz' => ?_
                    simp only [List.mem_append] at hz'
                    rcases hz' with (hz' | hz') | hz'
                    · exact lows_spec.1 hlow z (List.mem_of_mem_take hz')
                    · exact lows_spec.1 hm' z hz'
                    · exact lows_spec.1 hlow z (List.mem_of_mem_drop hz'))
                exact ⟨_, _, _, _, inplace hroom' hlen, hp, .msl id i.size 0 (len + m) none loc c' hι hroom' hfull (fun _ h => by cases h)⟩
              · cases e
            · rename_i hnoroom
              split at e
              · cases e
              · rename_i hlen'
                have hlen : len * i.size ≤ l.length := by omega
                split at e
                · rename_i hmine
                  simp only [Bool.and_eq_true, decide_eq_true_eq] at hmine
                  cases e
                  by_cases hroom' : len + m ≤ c'
                  · -- there was room after all: the block is the same, under another name
                    have hp := putpost hroom' hlen (fun f hf' hid => by
                      have hm' := (List.all_eq_true.1 hmine.1) f hf'
                      simp only [decide_eq_true_eq] at hm'
                      omega)
                    have hll : l.drop (len * i.size + news.length) = [] := by
                      apply List.drop_eq_nil_of_le
                      rw [hnl, ← Nat.add_mul]; omega
                    rw [hll, List.append_nil] at hp
                    have hg2 : (h.put id (some (.cells (l.take (len * i.size) ++ news)))).get id = some (.cells (l.take (len * i.size) ++ news)) := get_put_same _ (get_lt hg) hr.len
                    have hq := Post.rename hp.rel hg2 hι
                    have hpp : (h.put id (some (.cells (l.take (len * i.size) ++ news)))).put id none = h.put id none := by simp [Heap.put]
                    rw [hpp] at hq
                    refine ⟨_, _, _, _, inplace hroom' hlen, hp.trans hq, ?_⟩
                    exact .msl h.next i.size 0 (len + m) none loc c' (named_same ..) hroom' hfull (fun _ h => by cases h)
                  · have hk := Post.kill hr hg hι false
                    have hrow : h.row i.size (.msl id i.size 0 len none) = some (l.take (len * i.size)) := by
                      simp [Heap.row, hcells, hlen]
                    obtain ⟨olds, ho, hro, ho1, hol⟩ := news_ok hr hrow (m := len) rfl hs'
                    exact fresh (olds := olds) (fun w' hw' => (ho w' hw').2) hro ho1 (by rw [← hol, hro.1, Array.length_toList]) (by omega) (by rw [← hmr]; exact hmine.2) hk rfl
                · cases e
  · cases e
end
end Go.Ab

namespace Go.Ab
section
variable {P : Program} {G : Nat → Option V} {w w' : World} {R R' : Nat → Prop} {ι ι' : Nat → Option Loc} {h h' : Heap} {fr : List V} {a : Act}

/-- the first elements of a slice or a string -/
theorem firsts_ok (hr : HRel w R ι h) {sz m n : Nat} {v : V} {x : Value} {cs : List V} (e : h.row sz v = some cs) (hm : lenOf v = some m) (hn : n ≤ m) (hv : Rep w R ι v x) :
    ∃ ys : Array Value, (Builtin.lenOf x).run P w = .ok m w ∧ (Builtin.firstCells sz n x).run P w = .ok ys w ∧ RepL w R ι (cs.take (n * sz)) ys.toList ∧ (∀ u ∈ cs, u.one = true) ∧ cs.length = m * sz := by
  by_cases hs : ∃ s, v = .str s
  · obtain ⟨s, rfl⟩ := hs
    obtain ⟨ys, h1, h2, h3, h4⟩ := news_ok (P := P) hr e hm hv
    unfold Heap.row at e
    simp only at e
    split at e
    · rename_i hz
      subst hz
      cases e
      cases hv with
      | str b =>
        refine ⟨(b.extract 0 n).data.map fun c => .int .u8 c.toNat, (h1 w rfl).1, by simp [Builtin.firstCells], ?_, h3, h4⟩
        have : ((b.extract 0 n).data.map fun c : UInt8 => Value.int .u8 c.toNat).toList = (b.data.toList.map fun c : UInt8 => Value.int .u8 c.toNat).take n := by
          rw [ByteArray.data_extract, Array.toList_map, Array.toList_extract, List.map_take]
          simp
        rw [this, Nat.mul_one]
        have hl := h2
        refine RepL.take ?_ n
        refine ⟨by simp, fun i v y ev ey => ?_⟩
        simp only [List.map_map, List.getElem?_map] at ev ey
        cases hb : b.data.toList[i]? with
        | none => rw [hb] at ev; cases ev
        | some c =>
          rw [hb] at ev ey
          cases ev; cases ey
          exact .int _ _
    · cases e
  · obtain ⟨base, len, cap, xs, rfl, hlen, hcl, hone, hrep, hlc, hbn, hcell⟩ := row_ok hr e hv (fun s hs' => hs ⟨s, hs'⟩)
    rw [hm] at hlen; cases hlen
    have hxl : xs.length = m * sz := by rw [← hrep.1, hcl]
    have hmul : n * sz ≤ m * sz := Nat.mul_le_mul_right _ hn
    refine ⟨(xs.take (n * sz)).toArray, by simp [Builtin.lenOf], firstCells_ok (by rw [List.length_take]; omega) (fun j y ey => ?_) (fun hb => by have := hbn hb; omega), by simpa using hrep.take _, hone, hcl⟩
    rw [List.getElem?_take] at ey
    split at ey
    · exact hcell j y ey
    · cases ey

theorem copy_ok (hr : HRel w R ι h) {ts : Array TypeId} {ty t el : TypeId} (h0 : ts[0]? = some t) (ht : P.underlying t = some (.slice el)) {ie : TypeInfo} (hi : P.info? el = some ie)
    {vd vs v : V} {d s : Value} (hd : Rep w R ι vd d) (hs : Rep w R ι vs s) (e : op1 [vd, vs] h (.copy ie.size (.t 0) (.t 1)) = some (v, h')) :
    ∃ w' R' ι' y, (Builtin.copy_ ts ty #[d, s]).run P w = .ok y w' ∧ Post w R ι h w' R' ι' h' ∧ Rep w' R' ι' v y := by
  simp only [op1, ev, List.getD_cons_zero, List.getD_cons_succ] at e
  split at e
  · rename_i id sz' off len cap m src hm hsrc
    split at e
    · cases e
    · rename_i hsz
      have hsz' : ie.size = sz' := by simpa using hsz
      subst hsz'
      split at e
      · rename_i l hc
        split at e
        · rename_i hfit
          simp only [Bool.and_eq_true, decide_eq_true_eq] at hfit
          cases e
          cases hd with
          | msl _ _ _ _ _ loc c' hι hlc hfull hcap =>
            have hg := cellsOf_get hc
            obtain ⟨cur, te, g1, g2, g3, g4, g5⟩ := hr.cells id l loc hg hι
            obtain ⟨ys, f1, f2, f3, f4, f5⟩ := firsts_ok (P := P) (n := min m len) hr hsrc hm (Nat.min_le_left _ _) hs
            have hml : min m len * ie.size ≤ m * ie.size := Nat.mul_le_mul_right _ (Nat.min_le_left _ _)
            have hnl : (src.take (min m len * ie.size)).length = min m len * ie.size := by rw [List.length_take]; omega
            have hyl : ys.toList.length = min m len * ie.size := by rw [← f3.1, hnl]
            have hln : min m len * ie.size ≤ len * ie.size := Nat.mul_le_mul_right _ (Nat.min_le_right _ _)
            have hfit' := hfit.1
            rw [Nat.add_mul] at hfit'
            have hone' : ∀ z ∈ ys.toList, z.oneCell' = true := by
              intro z hz'
              obtain ⟨j, hj⟩ := List.mem_iff_getElem?.1 hz'
              have hj' : j < (src.take (min m len * ie.size)).length := by rw [f3.1]; exact (List.getElem?_eq_some_iff.1 hj).1
              exact (f3.2 j _ z (List.getElem?_eq_getElem hj') hj).oneCell (f4 _ (List.mem_of_mem_take (List.getElem_mem hj')))
            have hst := run_storeCells_at P loc.b (off * ie.size) te ys.toList 0 cur w g1 (by omega) hone'
            simp only [Nat.add_zero] at hst
            refine ⟨_, R, ι, _, ?_, Post.put hr hg hι (cur' := (cur.toList.take (off * ie.size) ++ ys.toList ++ cur.toList.drop (off * ie.size + ys.toList.length)).toArray) g1 ?_ ?_ ?_ ?_ ?_, .int _ _⟩
            · have hmin : Nat.min m len = min m len := rfl
              simp only [Builtin.copy_, h0, Sem.run_bind, Sem.run_pure, Result.andThen_ok, List.getElem?_toArray, List.getElem?_cons_zero, List.getElem?_cons_succ, run_underlying ht, f1, hmin, f2, run_sizeOf hi, hst, goInt]
            · simp only [List.size_toArray, List.length_append, List.length_take, List.length_drop, Array.length_toList] at hyl ⊢; omega
            · simp only [List.length_append, List.length_take, List.length_drop]; omega
            · intro z hz'
              simp only [List.mem_append] at hz'
              rcases hz' with (hz' | hz') | hz'
              · exact g4 z (List.mem_of_mem_take hz')
              · exact f4 z (List.mem_of_mem_take hz')
              · exact g4 z (List.mem_of_mem_drop hz')
            · have := stored_reps (o := off * ie.size) g3 g5 f3 (by omega) (by omega)
              rw [hnl] at this
              exact this
            · intro f hf hid
              have hm' := (List.all_eq_true.1 hfit.2) f hf
              simp only [Bool.or_eq_true, decide_eq_true_eq] at hm'
              rcases hm' with hm' | hm'
              · omega
              · have hlow := hr.low f hf id l loc hid hg hι
                refine lows_spec.2 fun z hz' => ?_
                simp only [List.mem_append] at hz'
                rcases hz' with (hz' | hz') | hz'
                · exact lows_spec.1 hlow z (List.mem_of_mem_take hz')
                · exact lows_spec.1 hm' z hz'
                · exact lows_spec.1 hlow z (List.mem_of_mem_drop hz')
        · cases e
      · cases e
  · rename_i m src hm hsrc
    cases e
    cases hd
    obtain ⟨ys, f1, f2, f3, f4, f5⟩ := firsts_ok (P := P) (n := 0) hr hsrc hm (Nat.zero_le _) hs
    refine ⟨w, R, ι, _, ?_, Post.refl hr, .int _ _⟩
    have hmin : Nat.min m 0 = 0 := Nat.min_zero m
    simp only [Builtin.copy_, h0, Sem.run_bind, Sem.run_pure, Result.andThen_ok, List.getElem?_toArray, List.getElem?_cons_zero, List.getElem?_cons_succ, run_underlying ht, f1, hmin, f2, run_sizeOf hi, goInt]
    rfl
  · cases e

theorem fieldKinds_spec : ∀ (fs : List Field) (k : Nat) (ks : List Nat) (cs : List V), fieldKinds P fs k = some ks → cs.map kCell = ks →
    fs.length = cs.length ∧ ∀ (i : Nat) f, fs[i]? = some f → f.name ≠ "_" ∧ f.offset = k + i ∧ P.cellsOf f.type = 1 ∧ aggT P f.type = some false ∧ ∀ v, cs[i]? = some v → eqT P f.type v = true
  | [], k, ks, cs, e, hc => by
    cases e
    have : cs = [] := by simpa using hc
    subst this
    exact ⟨rfl, by simp⟩
  | f :: r, k, ks, cs, e, hc => by
    unfold fieldKinds at e
    split at e
    · rename_i hf
      split at e
      · rename_i a l ha hl
        cases e
        cases cs with
        | nil => cases hc
        | cons c cs =>
          simp only [List.map_cons, List.cons.injEq] at hc
          obtain ⟨i1, i2⟩ := fieldKinds_spec r (k + 1) l cs hl hc.2
          refine ⟨by simp [i1], fun i f' hf' => ?_⟩
          cases i with
          | zero =>
            simp at hf'; subst hf'
            refine ⟨hf.1, hf.2.1, hf.2.2.1, hf.2.2.2, fun v hv => ?_⟩
            simp at hv; subst hv
            have h1 := hc.1
            unfold fieldKind at ha
            unfold eqT
            split at ha
            · rename_i hu; cases ha; rw [hu]; cases c <;> simp [kCell] at h1; rfl
            · rename_i hu; cases ha; rw [hu]; cases c <;> simp [kCell] at h1; rfl
            · rename_i hu; cases ha; rw [hu]; cases c <;> simp [kCell] at h1; rfl
            · cases ha
          | succ i =>
            obtain ⟨g1, g2, g3, g4, g5⟩ := i2 i f' (by simpa using hf')
            exact ⟨g1, by omega, g3, g4, fun v hv => g5 v (by simpa using hv)⟩
      · cases e
    · cases e

theorem eqs_ok {t : TypeId} {ks : List Nat} (ht : flatStruct P t = some ks) {cs ds : List V} {x y : Value} (hx : Rep w R ι (.agg cs) x) (hy : Rep w R ι (.agg ds) y) (hk : cs.map kCell = ks) {b neg : Bool} (e : eqCells cs ds = some b) (ox oy : Operand) :
    (do eqGuard (if neg then .neq else .eql) t ox oy x y; binOp (if neg then .neq else .eql) t x y : Sem Value).run P w = .ok (.bool (b != neg)) w := by
  unfold flatStruct at ht
  split at ht
  · rename_i fs hu
    split at ht
    · rename_i hc
      obtain ⟨h1, h2⟩ := hc
      cases hx with
      | agg _ xs hxl hxo hxr => cases hy with
        | agg _ ys hyl hyo hyr =>
          obtain ⟨f1, f2⟩ := fieldKinds_spec fs.toList 0 ks cs ht hk
          have hfs : P.fieldsOf t = fs := by simp [Program.fieldsOf, hu]
          have heq : (Op.equalIn 10000 t (.agg xs.toArray) (.agg ys.toArray)).run P w = .ok b w := by
            rw [run_equalIn_struct w 9999 t _ _ (by rw [hfs]; exact hu) h1, hfs]
            exact eqCells_run (d := 9998) fs.toList 0 cs ds b f2 f1 (by simpa using ⟨hxl, hxr⟩) (by simpa using ⟨hyl, hyr⟩) e
          rw [Sem.run_bind, run_eqGuard_agg w _ t ox oy _ _ h2]
          simp only [Result.andThen_ok]
          exact binOp_eq rfl rfl heq
    · cases ht
  · cases ht
end
end Go.Ab

namespace Go.Ab
section
variable {P : Program} {G : Nat → Option V} {w w' : World} {R R' : Nat → Prop} {ι ι' : Nat → Option Loc} {h h' : Heap} {fr : List V} {a : Act}

/-- the model's operation does what the abstract one does -/
def Ok1 (P : Program) (a : Act) (o : Oper) (w : World) (R : Nat → Prop) (ι : Nat → Option Loc) (h : Heap) (v : V) (h' : Heap) : Prop :=
  ∃ w' R' ι', Post w R ι h w' R' ι' h' ∧ ((∃ x, (execOp a.eval o).run P w = .ok (.value x) w' ∧ Rep w' R' ι' v x) ∨ ((execOp a.eval o).run P w = .ok .skip w' ∧ v = .undef))

theorem ok_pure {o : Oper} {s : Sem Value} (hr : HRel w R ι h) (ho : execOp a.eval o = (do pure (.value (← s)) : Sem Next)) {v : V} (hh : h' = h ∧ ∃ z, s.run P w = .ok z w ∧ Rep w R ι v z) : Ok1 P a o w R ι h v h' := by
  obtain ⟨rfl, z, hz, hv⟩ := hh
  exact ⟨w, R, ι, Post.refl hr, .inl ⟨z, by rw [ho]; simp [hz], hv⟩⟩

theorem ok_val {o : Oper} {s : Sem Value} (ho : execOp a.eval o = (do pure (.value (← s)) : Sem Next)) {v : V} (hh : ∃ w' R' ι' z, s.run P w = .ok z w' ∧ Post w R ι h w' R' ι' h' ∧ Rep w' R' ι' v z) : Ok1 P a o w R ι h v h' := by
  obtain ⟨w', R', ι', z, hz, hp, hv⟩ := hh
  exact ⟨w', R', ι', hp, .inl ⟨z, by rw [ho]; simp [hz], hv⟩⟩

theorem ok_unit {o : Oper} {s : Sem Unit} (ho : execOp a.eval o = (do s; pure .skip : Sem Next)) {v : V} (hv : v = .undef) (hh : ∃ w' R' ι', s.run P w = .ok () w' ∧ Post w R ι h w' R' ι' h') : Ok1 P a o w R ι h v h' := by
  obtain ⟨w', R', ι', hz, hp⟩ := hh
  exact ⟨w', R', ι', hp, .inr ⟨by rw [ho]; simp [hz], hv⟩⟩

theorem map_some {α β : Type} {x : Option α} {f : α → β} {b : β} (e : x.map f = some b) : ∃ y, x = some y ∧ f y = b := by
  cases x with
  | none => cases e
  | some y => exact ⟨y, rfl, Option.some.inj e⟩

theorem opds_rel (hG : GRel G w R ι) (hE : ERel w R ι fr a) : ∀ {xs : List Operand} {ys : List Opd}, opds G xs = some ys → RepL w R ι (ys.map (ev fr)) (xs.map a.eval)
  | [], ys, e => by cases e; exact ⟨rfl, by simp⟩
  | x :: r, ys, e => by
    unfold opds at e
    split at e
    · rename_i y l hy hl
      cases e
      have i1 := opds_rel hG hE hl
      have i2 := ev_rel hG hE hy
      refine ⟨by simp [i1.1], fun i v z ev ez => ?_⟩
      cases i with
      | zero => simp at ev ez; subst ev; subst ez; exact i2
      | succ i => exact i1.2 i v z (by simpa using ev) (by simpa using ez)
    · cases e

theorem cellsOf_info {t : TypeId} {i : TypeInfo} (hi : P.info? t = some i) : P.cellsOf t = i.size := by simp [Program.cellsOf, hi]

theorem binop_ok {o : Oper} {op : BinOp} {t : TypeId} {x y : Operand} {s : TypeId} (ho : o.op = .binOp op t x y s) (hr : HRel w R ι h) (hG : GRel G w R ι) (hE : ERel w R ι fr a) {ao : AOp} (e : aop P G o = some ao)
    {v : V} (e1 : op1 fr h ao = some (v, h')) : Ok1 P a o w R ι h v h' := by
  have hex : execOp a.eval o = (do pure (.value (← (do eqGuard op t x y (a.eval x) (a.eval y); binOp op t (a.eval x) (a.eval y)))) : Sem Next) := by
    unfold execOp; simp only [ho]
  unfold aop at e
  simp only [ho] at e
  split at e
  · rename_i x' y' hx hy
    have hx' := ev_rel hG hE hx
    have hy' := ev_rel hG hE hy
    split at e
    · cases e
      obtain ⟨u, hu, hh⟩ := map_some e1
      cases hh
      exact ok_pure hr hex ⟨rfl, bin_ok hx' hy' hu t x y⟩
    · split at e
      · rename_i hop
        have hop' : op = if (op == .neq) then .neq else .eql := by
          cases op <;> simp at hop <;> rfl
        split at e
        · rename_i hu
          cases e
          simp only [op1] at e1
          split at e1
          · rename_i b c hb hc
            cases e1
            rw [hb] at hx'; rw [hc] at hy'
            refine ok_pure hr hex ⟨rfl, _, ?_, .bool _⟩
            generalize a.eval x = xv at *
            generalize a.eval y = yv at *
            cases hx'; cases hy'
            generalize hng : (op == BinOp.neq) = ng at *
            rw [hop']
            exact binB_ok hu x y
          · cases e1
        · rename_i el hu
          cases e
          obtain ⟨b, hb, hh⟩ := map_some e1
          cases hh
          refine ok_pure hr hex ⟨rfl, _, ?_, .bool _⟩
          generalize hng : (op == BinOp.neq) = ng at *
          rw [hop']
          exact binN_ok (.inl ⟨rfl, _, hu⟩) hx' hy' hb x y (fun h => by cases h)
        · rename_i el hu
          cases e
          obtain ⟨b, hb, hh⟩ := map_some e1
          cases hh
          refine ok_pure hr hex ⟨rfl, _, ?_, .bool _⟩
          generalize hng : (op == BinOp.neq) = ng at *
          rw [hop']
          exact binN_ok (.inr (.inl ⟨rfl, _, hu⟩)) hx' hy' hb x y (fun h => by cases h)
        · rename_i k el hu
          cases e
          obtain ⟨b, hb, hh⟩ := map_some e1
          cases hh
          refine ok_pure hr hex ⟨rfl, _, ?_, .bool _⟩
          generalize hng : (op == BinOp.neq) = ng at *
          rw [hop']
          exact binN_ok (.inr (.inr (.inl ⟨rfl, _, _, hu⟩))) hx' hy' hb x y (fun h => by cases h)
        · rename_i f1 f2 f3 hu
          cases e
          obtain ⟨b, hb, hh⟩ := map_some e1
          cases hh
          refine ok_pure hr hex ⟨rfl, _, ?_, .bool _⟩
          generalize hng : (op == BinOp.neq) = ng at *
          rw [hop']
          exact binN_ok (.inr (.inr (.inr (.inl ⟨rfl, _, _, _, hu⟩)))) hx' hy' hb x y (fun h => by cases h)
        · rename_i m hu
          split at e
          · rename_i hc
            cases e
            obtain ⟨b, hb, hh⟩ := map_some e1
            cases hh
            refine ok_pure hr hex ⟨rfl, _, ?_, .bool _⟩
            generalize hng : (op == BinOp.neq) = ng at *
            rw [hop']
            exact binN_ok (.inr (.inr (.inr (.inr ⟨rfl, _, hu⟩)))) hx' hy' hb x y (fun _ => hc)
          · cases e
        · obtain ⟨ks, hks, hh⟩ := map_some e
          cases hh
          simp only [op1] at e1
          split at e1
          · rename_i cs ds hc hd
            split at e1
            · rename_i hk
              obtain ⟨b, hb, hh⟩ := map_some e1
              cases hh
              rw [hc] at hx'; rw [hd] at hy'
              refine ok_pure hr hex ⟨rfl, _, ?_, .bool _⟩
              generalize hng : (op == BinOp.neq) = ng at *
              rw [hop']
              exact eqs_ok hks hx' hy' hk hb x y
            · cases e1
          · cases e1
      · cases e
  · cases e

theorem convert_ok {o : Oper} {s t : TypeId} {x : Operand} (ho : o.op = .convert s t x) (hr : HRel w R ι h) (hG : GRel G w R ι) (hE : ERel w R ι fr a) {ao : AOp} (e : aop P G o = some ao)
    {v : V} (e1 : op1 fr h ao = some (v, h')) : Ok1 P a o w R ι h v h' := by
  have hex : execOp a.eval o = (do pure (.value (← convert s t (a.eval x))) : Sem Next) := by
    unfold execOp; simp only [ho]
  unfold aop at e
  simp only [ho] at e
  split at e
  · rename_i j k x' hs ht hx
    cases e
    exact ok_pure hr hex (conv_ok (.inl ⟨_, hs⟩) ht (ev_rel hG hE hx) e1)
  · rename_i j k x' hs ht hx
    cases e
    exact ok_pure hr hex (conv_ok (.inr ⟨_, hs⟩) ht (ev_rel hG hE hx) e1)
  · rename_i j k x' hs ht hx
    cases e
    exact ok_pure hr hex (convF_ok hs ht (ev_rel hG hE hx) e1)
  · rename_i el x' hs ht hx
    split at e
    · rename_i hel
      cases e
      have hh : h' = h := by
        simp only [op1] at e1
        split at e1 <;> cases e1
        rfl
      subst hh
      have hel' : P.underlying el = some (.int .u8) := hel
      obtain ⟨_, w', R', z, h1, h2, h3⟩ := s2b_ok hr hs ht hel' (ev_rel hG hE hx) e1
      exact ok_val hex ⟨w', R', ι, z, h1, h2, h3⟩
    · cases e
  · rename_i el x' hs ht hx
    split at e
    · rename_i hel
      cases e
      have hel' : P.underlying el = some (.int .u8) := hel
      exact ok_pure hr hex (b2s_ok hr hs ht hel' (ev_rel hG hE hx) e1)
    · cases e
  · rename_i x' hs ht hx
    cases e
    exact ok_pure hr hex (same_ok hs ht (ev_rel hG hE hx) e1)
  · rename_i el' el x' hs ht hx
    split at e
    · rename_i hc
      cases e
      obtain ⟨rfl, hel⟩ := hc
      have hel' : P.underlying el = some (.int .u8) := by
        unfold isByte at hel
        split at hel
        · assumption
        · cases hel
      obtain ⟨w', R', z, h1, h2, h3⟩ := frz_ok hr ht hel' (ev_rel hG hE hx) e1
      exact ok_val hex ⟨w', R', ι, z, h1, h2, h3⟩
    · cases e
  · cases e
end
end Go.Ab

namespace Go.Ab
section
variable {P : Program} {G : Nat → Option V} {w w' : World} {R R' : Nat → Prop} {ι ι' : Nat → Option Loc} {h h' : Heap} {fr : List V} {a : Act}

theorem opds_one {xs : Array Operand} {y : Opd} (e : opds G xs.toList = some [y]) : ∃ x, xs = #[x] ∧ opd G x = some y := by
  obtain ⟨l⟩ := xs
  match l, e with
  | [], e => cases e
  | [x], e =>
    simp only [opds] at e
    split at e
    · rename_i a b h1 h2; cases h2; cases e; exact ⟨x, rfl, h1⟩
    · cases e
  | x :: x2 :: r, e =>
    simp only [opds] at e
    split at e
    · rename_i a b h1 h2
      split at h2
      · cases h2; cases e
      · cases h2
    · cases e

theorem opds_two {xs : Array Operand} {y z : Opd} (e : opds G xs.toList = some [y, z]) : ∃ x1 x2, xs = #[x1, x2] ∧ opd G x1 = some y ∧ opd G x2 = some z := by
  obtain ⟨l⟩ := xs
  match l, e with
  | [], e => cases e
  | x :: r, e =>
    simp only [opds] at e
    split at e
    · rename_i a b h1 h2
      cases e
      obtain ⟨x2, hx2, h3⟩ := opds_one (xs := ⟨r⟩) h2
      cases hx2
      exact ⟨x, x2, rfl, h1, h3⟩
    · cases e

theorem head_drop {xs : List Value} {y : Value} (e : xs[0]? = some y) : xs = y :: xs.drop 1 := by
  cases xs with
  | nil => cases e
  | cons q0 q1 => simp at e; subst e; rfl

theorem exec_builtin {o : Oper} {c : Call} {b : Builtin} (ho : o.op = .call c) (hc : c.callee = .builtin b) :
    execOp a.eval o = builtin b c.argTypes o.type (c.args.map fun | .const _ => true | _ => false) (c.args.map a.eval) := by
  unfold execOp; simp only [ho, resolve, hc]
  rfl

theorem run_real (ts : Array TypeId) (ty : TypeId) (k : FloatKind) (re im : Nat) : (Builtin.real_ ts ty ([Value.complex k re im].toArray)).run P w = .ok (.float k re) w := rfl
theorem run_imag (ts : Array TypeId) (ty : TypeId) (k : FloatKind) (re im : Nat) : (Builtin.imag_ ts ty ([Value.complex k re im].toArray)).run P w = .ok (.float k im) w := rfl
theorem run_complex (ts : Array TypeId) (ty : TypeId) (k : FloatKind) (re im : Nat) : (Builtin.complex_ ts ty ([Value.float k re, Value.float k im].toArray)).run P w = .ok (.complex k re im) w := by
  show (if k = k then pure (.complex k re im) else _ : Sem Value).run P w = _
  rw [if_pos rfl]; rfl

theorem ixFrom_some {c : Nat} : ∀ (l : List Nat) (i j : Nat), l[j]? = some c → (∀ k, k < j → l[k]? ≠ some c) → ixFrom c i l = Int.ofNat (i + j)
  | [], i, j, h, _ => by simp at h
  | b :: r, i, j, h, hk => by
    simp only [ixFrom]
    cases j with
    | zero =>
      simp at h
      rw [if_pos h]; rfl
    | succ j =>
      have hb : b ≠ c := fun e => hk 0 (by omega) (by simp [e])
      rw [if_neg hb, ixFrom_some r (i + 1) j (by simpa using h) (fun k hkj => by have := hk (k + 1) (by omega); simpa using this)]
      congr 1; omega
theorem ixFrom_none {c : Nat} : ∀ (l : List Nat) (i : Nat), (∀ k : Nat, l[k]? ≠ some c) → ixFrom c i l = -1
  | [], i, _ => rfl
  | b :: r, i, hk => by
    simp only [ixFrom]
    have hb : b ≠ c := fun e => hk 0 (by simp [e])
    rw [if_neg hb]
    exact ixFrom_none r (i + 1) fun k => by have := hk (k + 1); simpa using this

theorem byte_at (s : ByteArray) (c : Nat) (hc : c < 256) (i : Nat) (hi : i < s.size) : (s[i]! == c.toUInt8) = decide ((s.data.toList.map UInt8.toNat)[i]? = some c) := by
  have h1 : s[i]! = s.data[i]'hi := by
    rw [getElem!_pos s i hi]
    rfl
  have h2 : (s.data.toList.map UInt8.toNat)[i]? = some (s.data[i]'hi).toNat := by
    have hi' : i < s.data.toList.length := by rw [Array.length_toList]; exact hi
    rw [List.getElem?_map, List.getElem?_eq_getElem hi', Array.getElem_toList]
    rfl
  rw [h1, h2]
  rw [Bool.eq_iff_iff, beq_iff_eq, decide_eq_true_iff, Option.some.injEq]
  constructor
  · intro h
    rw [h]
    simp [Nat.toUInt8, Nat.mod_eq_of_lt hc]
  · intro h
    apply UInt8.toNat_inj.1
    rw [h]
    simp [Nat.toUInt8, Nat.mod_eq_of_lt hc]

theorem firstIdx_eq (s : ByteArray) (c : Nat) (hc : c < 256) : firstIdx s c.toUInt8 = ixFrom c 0 (s.data.toList.map UInt8.toNat) := by
  have hlen : (s.data.toList.map UInt8.toNat).length = s.size := by simp
  unfold firstIdx
  cases hf : (List.range s.size).find? (fun i => s[i]! == c.toUInt8) with
  | none =>
    refine (ixFrom_none _ 0 fun k hk => ?_).symm
    have hlt : k < s.size := by rw [← hlen]; exact (List.getElem?_eq_some_iff.1 hk).1
    have := List.find?_eq_none.1 hf k (List.mem_range.2 hlt)
    rw [byte_at s c hc k hlt] at this
    simp [hk] at this
  | some j =>
    obtain ⟨h1, h2, h3⟩ := List.find?_range_eq_some.1 hf
    have hj := List.mem_range.1 h2
    rw [byte_at s c hc j hj] at h1
    rw [ixFrom_some _ 0 j (of_decide_eq_true h1) fun k hk => ?_]
    · simp
    · have := h3 k hk
      rw [byte_at s c hc k (by omega)] at this
      simpa using this

theorem ix_find {fn : Func} (h : fn.name = "internal/bytealg.IndexByteString") : Extern.find fn = some Extern.BytealgIndexByte.indexByte := by
  unfold Extern.find
  simp only [h]
  kernel_rfl

theorem ix_ok {o : Oper} {c : Call} {f : Nat} (ho : o.op = .call c) (hc : c.callee = .value (.func f)) (hf : isIx P f = true) (hr : HRel w R ι h) (hG : GRel G w R ι) (hE : ERel w R ι fr a) {x y : Opd} (hl : opds G c.args.toList = some [x, y])
    {v : V} (e1 : op1 fr h (.ixb x y) = some (v, h')) : Ok1 P a o w R ι h v h' := by
  obtain ⟨x1, x2, hxs, hx, hy⟩ := opds_two hl
  have hv := ev_rel hG hE hx
  have hv2 := ev_rel hG hE hy
  simp only [op1] at e1
  split at e1
  · rename_i s k hes hek
    split at e1
    · rename_i hk
      cases e1
      rw [hes] at hv; rw [hek] at hv2
      generalize hxv : a.eval x1 = xv at *
      generalize hxv2 : a.eval x2 = xv2 at *
      cases hv with
      | str b =>
      cases hv2
      unfold isIx at hf
      split at hf
      · rename_i fn hfn
        simp only [Bool.and_eq_true, beq_iff_eq, Option.isNone_iff_eq_none] at hf
        obtain ⟨⟨hn, hb⟩, hnx⟩ := hf
        have hrun : (execOp a.eval o).run P w = .ok (.value (.int .i64 (firstIdx b k.toNat.toUInt8))) w := by
          have h0 : (execOp a.eval o).run P w = (callFunc f #[.string b, .int .u8 k]).run P w := by
            unfold execOp
            have hev : a.eval (.func f) = .func (.func f) #[] #[] := rfl
            simp only [ho, resolve, hc, hev, Deferred.ofValue]
            rw [hxs]
            simp [invoke, hxv, hxv2]
          rw [h0, run_callFunc_indexByte hfn (by rw [hn]; rfl) (by rw [hb]; rfl) hnx (ix_find hn), run_indexByte_string]
          rfl
        rw [firstIdx_eq b k.toNat (by omega)] at hrun
        exact ⟨w, R, ι, Post.refl hr, .inl ⟨_, hrun, .int _ _⟩⟩
      · cases hf
    · cases e1
  · cases e1

theorem fb_find {fn : Func} (h : fn.name = "math.Float64bits") : Extern.find fn = some Extern.MathFloatBits.float64bits := by
  unfold Extern.find
  simp only [h]
  kernel_rfl

theorem fb_ok {o : Oper} {c : Call} {f : Nat} (ho : o.op = .call c) (hc : c.callee = .value (.func f)) (hf : isFb P f = true) (hr : HRel w R ι h) (hG : GRel G w R ι) (hE : ERel w R ι fr a) {x : Opd} (hl : opds G c.args.toList = some [x])
    {v : V} (e1 : op1 fr h (.fbits x) = some (v, h')) : Ok1 P a o w R ι h v h' := by
  obtain ⟨x1, hxs, hx⟩ := opds_one hl
  have hv := ev_rel hG hE hx
  simp only [op1] at e1
  split at e1
  · rename_i b hes
    cases e1
    rw [hes] at hv
    generalize hxv : a.eval x1 = xv at *
    cases hv
    unfold isFb at hf
    split at hf
    · rename_i fn hfn
      simp only [Bool.and_eq_true, beq_iff_eq, Option.isNone_iff_eq_none] at hf
      obtain ⟨⟨hn, hb⟩, hnx⟩ := hf
      have hrun : (execOp a.eval o).run P w = .ok (.value (.int .u64 (b : Nat))) w := by
        have h0 : (execOp a.eval o).run P w = (callFunc f #[.float .f64 b]).run P w := by
          unfold execOp
          have hev : a.eval (.func f) = .func (.func f) #[] #[] := rfl
          simp only [ho, resolve, hc, hev, Deferred.ofValue]
          rw [hxs]
          simp [invoke, hxv]
        rw [h0, run_callFunc_extern hfn (by rw [hn]; rfl) (by rw [hb]; rfl) hnx (fb_find hn)]
        rfl
      exact ⟨w, R, ι, Post.refl hr, .inl ⟨_, hrun, .int _ _⟩⟩
    · cases hf
  · cases e1

/-! ### maps -/

theorem str_inj {x y : ByteArray} (h : x.data.toList.map UInt8.toNat = y.data.toList.map UInt8.toNat) : x = y := by
  have h1 : x.data.toList = y.data.toList := (List.map_inj_right (fun a b hab => UInt8.toNat_inj.1 hab)).1 h
  cases x; cases y
  simp only [ByteArray.mk.injEq]
  exact Array.toList_inj.1 h1

theorem str_rep {l : List Nat} {x : Value} (h : Rep w R ι (.str l) x) : ∃ b : ByteArray, x = .string b ∧ l = b.data.toList.map UInt8.toNat := by
  cases h with
  | str b => exact ⟨b, rfl, rfl⟩
theorem findKey_run {kt : TypeId} {d : TypeDesc} {k : Value} {l : List MapEntry} {q : Option (Nat × Value)} (hd : P.underlying kt = some d) (hf : Instr.findNow d k l 0 = some q) : (Instr.findKey kt k l).run P w = .ok q w := by
  simp [Instr.findKey, run_underlying hd, Result.andThen, hf]
theorem getObj_run {r : Nat} {es : Array MapEntry} {clock : Nat} (hb : w.heap[r]? = some (.map es clock)) : (getObj r).run P w = .ok (.map es clock) w := by
  simp [getObj, Sem.run, hb]
theorem setObj_run {r : Nat} {es : Array MapEntry} {clock : Nat} (o : Obj) (hb : w.heap[r]? = some (.map es clock)) : (setObj r o).run P w = .ok () { w with heap := w.heap.setIfInBounds r o } := by
  simp [setObj, Sem.run, hb]

/-- a key's kind and its type -/
def KeyD (kd : Nat) (d : TypeDesc) : Prop := (kd = 0 ∧ ∃ q, d = .int q) ∨ (kd = 2 ∧ d = .string)
theorem keyT_spec {kt : TypeId} {kd : Nat} (h : keyT P kt = some kd) : ∃ d, P.underlying kt = some d ∧ KeyD kd d := by
  unfold keyT at h
  split at h
  · rename_i q hq; cases h; exact ⟨_, hq, .inl ⟨rfl, q, rfl⟩⟩
  · rename_i hq; cases h; exact ⟨_, hq, .inr ⟨rfl, rfl⟩⟩
  · cases h

theorem checkKey_run {kt : TypeId} {d : TypeDesc} {kd : Nat} (hd : P.underlying kt = some d) (hk : KeyD kd d) (e : Bool) (n : Nat) (y : Value) : (Instr.checkKey e (n + 1) kt y).run P w = .ok () w := by
  unfold Instr.checkKey
  simp only [Sem.run_bind, run_underlying hd, Result.andThen_ok]
  rcases hk with ⟨_, q, rfl⟩ | ⟨_, rfl⟩ <;> cases y <;> rfl

/-- a key is the value that it is -/
theorem key_one {k : V} {kd : Nat} (hk : kCell k = kd) {d : TypeDesc} (hd : KeyD kd d) {x y : Value} (hx : Rep w R ι k x) (hy : Rep w R ι k y) : x = y := by
  rcases hd with ⟨rfl, q, rfl⟩ | ⟨rfl, rfl⟩
  · unfold kCell at hk
    split at hk
    · cases hx; cases hy; rfl
    · cases hk
    · cases hk
    · cases hk
  · unfold kCell at hk
    split at hk
    · cases hk
    · cases hk
    · obtain ⟨b1, rfl, h1⟩ := str_rep hx
      obtain ⟨b2, rfl, h2⟩ := str_rep hy
      rw [str_inj (h1.symm.trans h2)]
    · cases hk

theorem key_same {k a : V} {kd : Nat} (hk : kCell k = kd) {d : TypeDesc} (hd : KeyD kd d) {x y : Value} (hx : Rep w R ι k x) (hy : Rep w R ι a y) {t : Bool} (e : keyEq k a = some t) : Instr.sameNow d x y = some t ∧ (t = true → k = a) := by
  have e1 : eq1 k a = some t := by
    unfold keyEq at e
    split at e
    · simp only [kCell] at hk
      rcases hd with ⟨rfl, _⟩ | ⟨rfl, _⟩ <;> cases hk
    · exact e
  unfold eq1 at e1
  split at e1
  · rcases hd with ⟨rfl, _⟩ | ⟨rfl, _⟩ <;> cases hk
  · rename_i j n q m
    split at e1
    · rename_i hjq
      subst hjq
      cases e1; cases hx; cases hy
      rcases hd with ⟨_, q, rfl⟩ | ⟨rfl, _⟩
      · refine ⟨?_, fun ht => ?_⟩
        · simp only [Instr.sameNow, if_true, Option.some.injEq]
          rw [Bool.eq_iff_iff, beq_iff_eq, decide_eq_true_iff]
        · simp only [decide_eq_true_eq] at ht; rw [ht]
      · cases hk
    · cases e1
  · rename_i p q
    cases e1
    rcases hd with ⟨rfl, _⟩ | ⟨_, rfl⟩
    · cases hk
    · obtain ⟨b1, rfl, h1⟩ := str_rep hx
      obtain ⟨b2, rfl, h2⟩ := str_rep hy
      refine ⟨?_, fun ht => ?_⟩
      · simp only [Instr.sameNow, Option.some.injEq]
        rw [bytes_beq, Bool.eq_iff_iff, decide_eq_true_iff, decide_eq_true_iff, h1, h2]
      · simp only [decide_eq_true_eq] at ht; rw [ht]
  · cases e1

/-- entries and what they hold -/
def EntRel (w : World) (R : Nat → Prop) (ι : Nat → Option Loc) (es : List (V × V)) (l : List MapEntry) : Prop :=
  l.length = es.length ∧ ∀ (i : Nat) k v, es[i]? = some (k, v) → ∃ me, l[i]? = some me ∧ Rep w R ι k me.key ∧ Rep w R ι v me.val
theorem EntRel.tail {p : V × V} {es : List (V × V)} {e : MapEntry} {l : List MapEntry} (h : EntRel w R ι (p :: es) (e :: l)) : EntRel w R ι es l :=
  ⟨by have := h.1; simpa using this, fun i k v hi => h.2 (i + 1) k v (by simpa using hi)⟩

theorem find_rel {k : V} {kd : Nat} (hk : kCell k = kd) {d : TypeDesc} (hd : KeyD kd d) {x : Value} (hx : Rep w R ι k x) : ∀ (es : List (V × V)) (l : List MapEntry) (i : Nat) (r : Option V), EntRel w R ι es l → mapFind k es = some r →
    ∃ q, Instr.findNow d x l i = some q ∧ (r = none → q = none) ∧ ∀ v, r = some v → ∃ j u, q = some (j, u) ∧ Rep w R ι v u
  | [], l, i, r, hE, e => by
    have : l = [] := List.eq_nil_of_length_eq_zero hE.1
    subst this
    cases e
    exact ⟨none, rfl, fun _ => rfl, fun v hv => by cases hv⟩
  | (a, u) :: es, l, i, r, hE, e => by
    cases l with
    | nil => have := hE.1; simp at this
    | cons m l =>
      obtain ⟨me, h1, h2, h3⟩ := hE.2 0 a u rfl
      simp at h1
      subst h1
      simp only [mapFind] at e
      cases hq : keyEq k a with
      | none => rw [hq] at e; cases e
      | some t =>
        rw [hq] at e
        obtain ⟨g1, g2⟩ := key_same hk hd hx h2 hq
        cases t with
        | true =>
          cases e
          exact ⟨some (i, m.val), by simp only [Instr.findNow, g1], (fun h => by cases h), fun v hv => by cases hv; exact ⟨i, m.val, rfl, h3⟩⟩
        | false =>
          obtain ⟨q, k1, k2, k3⟩ := find_rel hk hd hx es l (i + 1) r hE.tail e
          exact ⟨q, by simp only [Instr.findNow, g1]; exact k1, k2, k3⟩

theorem set_rel {k v : V} {kd : Nat} (hk : kCell k = kd) {d : TypeDesc} (hd : KeyD kd d) {x : Value} (hx : Rep w R ι k x) : ∀ (es : List (V × V)) (l : List MapEntry) (i : Nat) (es' : List (V × V)), EntRel w R ι es l → mapSet k v es = some es' →
    (Instr.findNow d x l i = some none ∧ es' = es ++ [(k, v)]) ∨ ∃ j u me o, Instr.findNow d x l i = some (some (i + j, o)) ∧ es[j]? = some (k, u) ∧ l[j]? = some me ∧ me.key = x ∧ es' = es.set j (k, v)
  | [], l, i, es', hE, e => by
    have : l = [] := List.eq_nil_of_length_eq_zero hE.1
    subst this
    cases e
    exact .inl ⟨rfl, rfl⟩
  | (a, u) :: es, l, i, es', hE, e => by
    cases l with
    | nil => have := hE.1; simp at this
    | cons m l =>
      obtain ⟨me, h1, h2, h3⟩ := hE.2 0 a u rfl
      simp at h1
      subst h1
      simp only [mapSet] at e
      cases hq : keyEq k a with
      | none => rw [hq] at e; cases e
      | some t =>
        rw [hq] at e
        obtain ⟨g1, g2⟩ := key_same hk hd hx h2 hq
        cases t with
        | true =>
          cases e
          have := g2 rfl
          subst this
          exact .inr ⟨0, u, m, m.val, by simp only [Instr.findNow, g1]; rfl, rfl, rfl, key_one hk hd h2 hx, rfl⟩
        | false =>
          obtain ⟨es2, e2, rfl⟩ := map_some e
          rcases set_rel hk hd hx es l (i + 1) es2 hE.tail e2 with ⟨k1, rfl⟩ | ⟨j, u2, me, o, k1, k2, k3, k4, rfl⟩
          · exact .inl ⟨by simp only [Instr.findNow, g1]; exact k1, rfl⟩
          · refine .inr ⟨j + 1, u2, me, o, ?_, by simpa using k2, by simpa using k3, k4, rfl⟩
            simp only [Instr.findNow, g1]
            rw [k1, show i + 1 + j = i + (j + 1) by omega]


/-! ### keys that are structs -/

theorem kWf_lt (v : V) : kWf v < 4 := by
  unfold kWf
  split
  · split <;> omega
  · omega
  · split <;> omega
  · omega
theorem digits_pos : ∀ l : List Nat, 0 < digits l
  | [] => by simp [digits]
  | a :: r => by have := digits_pos r; simp only [digits]; omega
theorem digits_inj : ∀ (a b : List Nat), (∀ x ∈ a, x < 4) → (∀ x ∈ b, x < 4) → digits a = digits b → a = b
  | [], [], _, _, _ => rfl
  | [], y :: b, _, _, e => by have := digits_pos b; simp only [digits] at e; omega
  | x :: a, [], _, _, e => by have := digits_pos a; simp only [digits] at e; omega
  | x :: a, y :: b, ha, hb, e => by
    have h1 := ha x List.mem_cons_self
    have h2 := hb y List.mem_cons_self
    simp only [digits] at e
    obtain rfl : x = y := by omega
    rw [digits_inj a b (fun z hz => ha z (List.mem_cons_of_mem _ hz)) (fun z hz => hb z (List.mem_cons_of_mem _ hz)) (by omega)]

theorem kindsF_lt {F : TypeId → Option (List Nat)} (hF : ∀ t ks, F t = some ks → ∀ x ∈ ks, x < 4) : ∀ (fl : List Field) (o : Nat) (ks : List Nat), kindsF P F fl o = some ks → ∀ x ∈ ks, x < 4
  | [], o, ks, e => by cases e; simp
  | f :: r, o, ks, e => by
    unfold kindsF at e
    split at e
    · split at e
      · rename_i a b ha hb
        split at e
        · cases e
          intro x hx
          rcases List.mem_append.1 hx with hx | hx
          · exact hF _ _ ha x hx
          · exact kindsF_lt hF r _ b hb x hx
        · cases e
      · cases e
    · cases e
theorem kindsAt_lt : ∀ (d : Nat) (t : TypeId) (ks : List Nat), kindsAt P d t = some ks → ∀ x ∈ ks, x < 4
  | 0, t, ks, e => by cases e
  | d + 1, t, ks, e => by
    unfold kindsAt at e
    split at e
    · cases e; simp
    · split at e
      · cases e; simp
      · cases e
    · cases e; simp
    · split at e
      · obtain ⟨l, h1, e⟩ := Option.bind_eq_some_iff.1 e
        split at e
        · cases e; exact kindsF_lt (fun t ks h => kindsAt_lt d t ks h) _ _ _ h1
        · cases e
      · cases e
    · cases e

theorem mapM_ex {α β : Type} {g : α → Option β} : ∀ (l : List α), (∀ x ∈ l, ∃ y, g x = some y) → ∃ ys, l.mapM g = some ys
  | [], _ => ⟨[], by simp⟩
  | x :: l, h => by
    obtain ⟨y, hy⟩ := h x List.mem_cons_self
    obtain ⟨ys, hys⟩ := mapM_ex l fun z hz => h z (List.mem_cons_of_mem _ hz)
    exact ⟨y :: ys, by rw [List.mapM_cons, hy, hys]; rfl⟩

theorem kinds_lits : ∀ (d : Nat) (t : TypeId) (ks : List Nat) (cs : List V) (xs : List Value), kindsAt P d t = some ks → RepL w R ι cs xs → cs.map kWf = ks → ∃ L, P.keyLits d t xs = some L
  | 0, t, ks, cs, xs, e, _, _ => by cases e
  | d + 1, t, ks, cs, xs, e, hr, hk => by
    have single : ∀ {n : Nat}, cs.map kWf = [n] → ∃ c x, cs = [c] ∧ xs = [x] ∧ kWf c = n ∧ Rep w R ι c x := by
      intro n hn
      match cs, hn with
      | [c], hn =>
        obtain ⟨x, hx1, hx2⟩ := hr.get (i := 0) (v := c) rfl
        have hl := hr.1
        match xs, hl, hx1 with
        | [x'], _, hx1 => simp at hx1; subst hx1; exact ⟨c, x', rfl, rfl, by simpa using hn, hx2⟩
    unfold kindsAt at e
    split at e
    · rename_i hu
      cases e
      obtain ⟨c, x, rfl, rfl, hc, hx⟩ := single hk
      unfold kWf at hc
      split at hc
      · split at hc <;> cases hc
      · cases hx; exact ⟨_, by unfold Program.keyLits; rw [hu]⟩
      · split at hc <;> cases hc
      · cases hc
    · rename_i k hu
      split at e
      · rename_i hk'
        subst hk'
        cases e
        obtain ⟨c, x, rfl, rfl, hc, hx⟩ := single hk
        unfold kWf at hc
        split at hc
        · split at hc
          · rename_i n hb
            cases hx
            have hw : (Lit.int .i64 n).wf = true := by
              simp only [Lit.wf, Bool.and_eq_true, decide_eq_true_eq]
              have e1 : IntKind.min .i64 = -9223372036854775808 := by decide
              have e2 : IntKind.max .i64 = 9223372036854775807 := by decide
              rw [e1, e2]
              exact hb
            exact ⟨[.int .i64 n], by unfold Program.keyLits; rw [hu]; simp [hw]⟩
          · cases hc
        · cases hc
        · split at hc <;> cases hc
        · cases hc
      · cases e
    · rename_i hu
      cases e
      obtain ⟨c, x, rfl, rfl, hc, hx⟩ := single hk
      unfold kWf at hc
      split at hc
      · split at hc <;> cases hc
      · cases hc
      · split at hc
        · rename_i s hb
          cases hx with
          | str b =>
            have hs : b.size ≤ maxLen := by
              rw [List.length_map, Array.length_toList] at hb
              have : maxLen = 9223372036854775807 := by decide
              rw [this]
              have : b.size = b.data.size := rfl
              omega
            exact ⟨[.string b.data.toList], by unfold Program.keyLits; rw [hu]; simp [hs]⟩
        · cases hc
      · cases hc
    · rename_i fs hu
      split at e
      · rename_i hnm
        obtain ⟨l, h1, e⟩ := Option.bind_eq_some_iff.1 e
        split at e
        · rename_i hlen
          cases e
          have key : ∀ (fl : List Field) (o : Nat) (l : List Nat), kindsF P (kindsAt P d) fl o = some l → (cs.drop o).map kWf = l → ∀ f ∈ fl, ∃ L, P.keyLits d f.type ((xs.drop f.offset).take (P.cellsOf f.type)) = some L := by
            intro fl
            induction fl with
            | nil => intro _ _ _ _ f hf; cases hf
            | cons g r ih =>
              intro o l e hl f hf
              unfold kindsF at e
              split at e
              · rename_i hoff
                split at e
                · rename_i a b ha hb
                  split at e
                  · rename_i hal
                    cases e
                    have h2 : ((cs.drop o).take (P.cellsOf g.type)).map kWf = a := by rw [List.map_take, hl, ← hal, List.take_left']; rfl
                    have h3 : (cs.drop (o + P.cellsOf g.type)).map kWf = b := by rw [← List.drop_drop, List.map_drop, hl, ← hal, List.drop_left']; rfl
                    rcases List.mem_cons.1 hf with rfl | hf
                    · rw [hoff]
                      exact kinds_lits d _ a _ _ ha ((hr.drop o).take _) h2
                    · exact ih _ _ hb h3 f hf
                  · cases e
                · cases e
              · cases e
          obtain ⟨ys, hys⟩ := mapM_ex fs.toList (key fs.toList 0 _ h1 (by simpa using hk))
          have hxl : xs.length = P.cellsOf t := by rw [← hr.1, ← hlen, ← hk, List.length_map]
          refine ⟨ys.flatten, ?_⟩
          unfold Program.keyLits
          rw [hu]
          have hall : (fs.all fun x => x.name != "_") = true := hnm
          simp only [hxl, hall, and_self, if_true, hys, Option.map_some]
        · cases e
      · cases e
    · cases e

theorem structKey_spec {kt : TypeId} {kd : Nat} (h : structKey P kt = some kd) : ∃ fs ks, P.underlying kt = some (.struct fs) ∧ P.keyType kt = true ∧ P.tiled (P.types.size + 1) kt = true ∧ P.types.size + 2 ≤ 10000 ∧ kindsAt P (P.types.size + 1) kt = some ks ∧ digits ks = kd ∧ ks.length = P.cellsOf kt := by
  unfold structKey at h
  split at h
  · rename_i fs hu
    split at h
    · rename_i hc
      simp only [Bool.and_eq_true] at hc
      obtain ⟨ks, h1, h2⟩ := map_some h
      refine ⟨fs, ks, hu, hc.1.1, hc.1.2, Nat.le_of_ble_eq_true hc.2, h1, h2, ?_⟩
      unfold kindsAt at h1
      rw [hu] at h1
      simp only at h1
      split at h1
      · obtain ⟨l, _, e⟩ := Option.bind_eq_some_iff.1 h1
        split at e
        · rename_i hl; cases e; exact hl
        · cases e
      · cases h1
    · cases h
  · cases h

theorem key_lit {kt : TypeId} {kd : Nat} (h : structKey P kt = some kd) {k : V} (hk : kKey k = kd) {x : Value} (hx : Rep w R ι k x) : (∃ cs, k = .agg cs) ∧ ∃ l, keyOf P kt x = some l := by
  obtain ⟨fs, ks, hu, h1, h2, h3, h4, h5, h6⟩ := structKey_spec h
  unfold kKey at hk
  split at hk
  · rename_i cs
    refine ⟨⟨cs, rfl⟩, ?_⟩
    have hkk : cs.map kWf = ks := digits_inj _ _ (fun z hz => by obtain ⟨v, _, rfl⟩ := List.mem_map.1 hz; exact kWf_lt v) (kindsAt_lt _ _ _ h4) (hk.trans h5.symm)
    cases hx with
    | agg _ xs hl ho hr =>
      obtain ⟨L, hL⟩ := kinds_lits _ kt ks cs xs h4 ⟨hl, hr⟩ hkk
      refine ⟨.string (keyBytes L), ?_⟩
      unfold keyOf
      rw [hu]
      have hf : (Value.agg xs.toArray).formed P kt = true := by
        simp only [Value.formed, hu, List.size_toArray, beq_iff_eq]
        rw [← hl, ← h6, ← hkk, List.length_map]
      simp only [h1, hf, Bool.and_self, if_true]
      have hc : (Value.agg xs.toArray).cells.toList = xs := by simp [Value.cells]
      rw [hc, hL]
      rfl
  · have := digits_pos ks
    omega

theorem law_of {kt : TypeId} {kd : Nat} (h : structKey P kt = some kd) : WideMaps.KeyLaw P kt ∧ (match P.underlying kt with | some (.array _ _) | some (.struct _) => true | _ => false) = true ∧
    ∀ (w : World) {x y : Value} {lx ly : Lit}, keyOf P kt x = some lx → keyOf P kt y = some ly → ∃ r : Bool, (Op.equal kt x y).run P w = .ok r w ∧ (r = true ↔ lx = ly) := by
  obtain ⟨fs, ks, hu, h1, h2, h3, h4, h5, h6⟩ := structKey_spec h
  have hw : (match P.underlying kt with | some (.array _ _) | some (.struct _) => true | _ => false) = true := by rw [hu]
  exact ⟨deep_law (by omega) h1 h2 hw, hw, fun w {x y lx ly} hx hy => run_equal_deep w (by omega) h1 hw hx hy⟩

theorem eq1_iff {a b : V} {t : Bool} (e : eq1 a b = some t) {x y : Value} (hx : Rep w R ι a x) (hy : Rep w R ι b y) : t = true ↔ x = y := by
  unfold eq1 at e
  split at e
  · cases e; cases hx; cases hy; simp
  · split at e
    · rename_i h; subst h; cases e; cases hx; cases hy; simp
    · cases e
  · cases e
    obtain ⟨b1, rfl, h1⟩ := str_rep hx
    obtain ⟨b2, rfl, h2⟩ := str_rep hy
    simp only [decide_eq_true_eq, Value.string.injEq]
    constructor
    · intro h; exact str_inj (h1.symm.trans (h.trans h2))
    · intro h; rw [h1, h2, h]
  · cases e
theorem eqCells_iff : ∀ {cs ds : List V} {t : Bool}, eqCells cs ds = some t → ∀ {xs ys : List Value}, RepL w R ι cs xs → RepL w R ι ds ys → (t = true ↔ xs = ys)
  | [], [], t, e, xs, ys, hx, hy => by
    cases e
    have h1 : xs = [] := List.eq_nil_of_length_eq_zero hx.1.symm
    have h2 : ys = [] := List.eq_nil_of_length_eq_zero hy.1.symm
    simp [h1, h2]
  | [], _ :: _, t, e, _, _, _, _ => by simp [eqCells] at e
  | _ :: _, [], t, e, _, _, _, _ => by simp [eqCells] at e
  | a :: cs, b :: ds, t, e, xs, ys, hx, hy => by
    have hxl := hx.1
    have hyl := hy.1
    match xs, ys, hxl, hyl with
    | x :: xs, y :: ys, _, _ =>
      have h1 := hx.2 0 a x rfl rfl
      have h2 := hy.2 0 b y rfl rfl
      have h3 : RepL w R ι cs xs := by have := hx.drop 1; simpa using this
      have h4 : RepL w R ι ds ys := by have := hy.drop 1; simpa using this
      simp only [eqCells] at e
      split at e
      · rename_i he
        have g1 := (eq1_iff he h1 h2).1 rfl
        have g2 := eqCells_iff e h3 h4
        simp [g1, g2]
      · rename_i he
        cases e
        have g1 : x ≠ y := fun h => by have := (eq1_iff he h1 h2).2 h; cases this
        simp [g1]
      · cases e
theorem keyEq_iff {k a : V} {t : Bool} (e : keyEq k a = some t) (hk : ∃ cs, k = .agg cs) (ha : ∃ cs, a = .agg cs) {x y : Value} (hx : Rep w R ι k x) (hy : Rep w R ι a y) : t = true ↔ x = y := by
  obtain ⟨cs, rfl⟩ := hk
  obtain ⟨ds, rfl⟩ := ha
  simp only [keyEq] at e
  cases hx with
  | agg _ xs hl ho hr => cases hy with
    | agg _ ys hl' ho' hr' =>
      have := eqCells_iff e ⟨hl, hr⟩ ⟨hl', hr'⟩
      rw [this]
      simp only [Value.agg.injEq]
      constructor
      · intro h; rw [h]
      · intro h; simpa using congrArg Array.toList h

/-- one comparison with an entry's key -/
theorem key_step {kt : TypeId} {kd : Nat} (h : structKey P kt = some kd) {k a : V} (hk : kKey k = kd) (ha : kKey a = kd) {x y : Value} (hx : Rep w R ι k x) (hy : Rep w R ι a y) {t : Bool} (e : keyEq k a = some t) :
    (Op.equal kt x y).run P w = .ok t w ∧ (t = true → x = y) := by
  obtain ⟨g1, l1, g2⟩ := key_lit h hk hx
  obtain ⟨g3, l2, g4⟩ := key_lit h ha hy
  obtain ⟨law, _, heq⟩ := law_of h
  obtain ⟨r, hr, hiff⟩ := heq w g2 g4
  have h1 := keyEq_iff e g1 g3 hx hy
  have h2 : l1 = l2 ↔ x = y := ⟨fun h => law.inj g2 (h ▸ g4), fun h => by subst h; rw [g2] at g4; exact Option.some.inj g4⟩
  have h3 : r = t := by rw [Bool.eq_iff_iff, hiff, h2, h1]
  rw [h3] at hr
  exact ⟨hr, h1.1⟩

theorem find_relS {kt : TypeId} {kd : Nat} (h : structKey P kt = some kd) {k : V} (hk : kKey k = kd) {x : Value} (hx : Rep w R ι k x) : ∀ (es : List (V × V)) (l : List MapEntry) (i : Nat) (r : Option V), EntRel w R ι es l → (∀ p ∈ es, kKey p.1 = kd) → mapFind k es = some r →
    ∃ q, (Instr.findAsking kt x l i).run P w = .ok q w ∧ (r = none → q = none) ∧ ∀ v, r = some v → ∃ j u, q = some (j, u) ∧ Rep w R ι v u
  | [], l, i, r, hE, _, e => by
    have : l = [] := List.eq_nil_of_length_eq_zero hE.1
    subst this
    cases e
    exact ⟨none, rfl, fun _ => rfl, fun v hv => by cases hv⟩
  | (a, u) :: es, l, i, r, hE, hall, e => by
    cases l with
    | nil => have := hE.1; simp at this
    | cons m l =>
      obtain ⟨me, h1, h2, h3⟩ := hE.2 0 a u rfl
      simp at h1
      subst h1
      simp only [mapFind] at e
      cases hq : keyEq k a with
      | none => rw [hq] at e; cases e
      | some t =>
        rw [hq] at e
        obtain ⟨g1, _⟩ := key_step h hk (hall (a, u) List.mem_cons_self) hx h2 hq
        cases t with
        | true =>
          cases e
          exact ⟨some (i, m.val), by simp [Instr.findAsking, g1], (fun h => by cases h), fun v hv => by cases hv; exact ⟨i, m.val, rfl, h3⟩⟩
        | false =>
          obtain ⟨q, k1, k2, k3⟩ := find_relS h hk hx es l (i + 1) r hE.tail (fun p hp => hall p (List.mem_cons_of_mem _ hp)) e
          exact ⟨q, by simp [Instr.findAsking, g1, k1], k2, k3⟩

theorem set_relS {kt : TypeId} {kd : Nat} (h : structKey P kt = some kd) {k v : V} (hk : kKey k = kd) {x : Value} (hx : Rep w R ι k x) : ∀ (es : List (V × V)) (l : List MapEntry) (i : Nat) (es' : List (V × V)), EntRel w R ι es l → (∀ p ∈ es, kKey p.1 = kd) → mapSet k v es = some es' →
    ((Instr.findAsking kt x l i).run P w = .ok none w ∧ es' = es ++ [(k, v)]) ∨ ∃ j a u me o, (Instr.findAsking kt x l i).run P w = .ok (some (i + j, o)) w ∧ es[j]? = some (a, u) ∧ l[j]? = some me ∧ me.key = x ∧ es' = es.set j (a, v)
  | [], l, i, es', hE, _, e => by
    have : l = [] := List.eq_nil_of_length_eq_zero hE.1
    subst this
    cases e
    exact .inl ⟨rfl, rfl⟩
  | (a, u) :: es, l, i, es', hE, hall, e => by
    cases l with
    | nil => have := hE.1; simp at this
    | cons m l =>
      obtain ⟨me, h1, h2, h3⟩ := hE.2 0 a u rfl
      simp at h1
      subst h1
      simp only [mapSet] at e
      cases hq : keyEq k a with
      | none => rw [hq] at e; cases e
      | some t =>
        rw [hq] at e
        obtain ⟨g1, g2⟩ := key_step h hk (hall (a, u) List.mem_cons_self) hx h2 hq
        cases t with
        | true =>
          cases e
          exact .inr ⟨0, a, u, m, m.val, by simp [Instr.findAsking, g1], rfl, rfl, (g2 rfl).symm, rfl⟩
        | false =>
          obtain ⟨es2, e2, rfl⟩ := map_some e
          rcases set_relS h hk hx es l (i + 1) es2 hE.tail (fun p hp => hall p (List.mem_cons_of_mem _ hp)) e2 with ⟨k1, rfl⟩ | ⟨j, a2, u2, me, o, k1, k2, k3, k4, rfl⟩
          · exact .inl ⟨by simp [Instr.findAsking, g1, k1], rfl⟩
          · refine .inr ⟨j + 1, a2, u2, me, o, ?_, by simpa using k2, by simpa using k3, k4, rfl⟩
            simp [Instr.findAsking, g1, k1, Nat.add_assoc, Nat.add_comm 1 j]

theorem del_relS {kt : TypeId} {kd : Nat} (h : structKey P kt = some kd) {k : V} (hk : kKey k = kd) {x : Value} (hx : Rep w R ι k x) : ∀ (es : List (V × V)) (l : List MapEntry) (i : Nat) (es' : List (V × V)), EntRel w R ι es l → (∀ p ∈ es, kKey p.1 = kd) → mapDel k es = some es' →
    ((Instr.findAsking kt x l i).run P w = .ok none w ∧ es' = es) ∨ ∃ j o, (Instr.findAsking kt x l i).run P w = .ok (some (i + j, o)) w ∧ j < es.length ∧ es' = es.eraseIdx j
  | [], l, i, es', hE, _, e => by
    have : l = [] := List.eq_nil_of_length_eq_zero hE.1
    subst this
    cases e
    exact .inl ⟨rfl, rfl⟩
  | (a, u) :: es, l, i, es', hE, hall, e => by
    cases l with
    | nil => have := hE.1; simp at this
    | cons m l =>
      obtain ⟨me, h1, h2, h3⟩ := hE.2 0 a u rfl
      simp at h1
      subst h1
      simp only [mapDel] at e
      cases hq : keyEq k a with
      | none => rw [hq] at e; cases e
      | some t =>
        rw [hq] at e
        obtain ⟨g1, g2⟩ := key_step h hk (hall (a, u) List.mem_cons_self) hx h2 hq
        cases t with
        | true =>
          cases e
          exact .inr ⟨0, m.val, by simp [Instr.findAsking, g1], by simp, rfl⟩
        | false =>
          obtain ⟨es2, e2, rfl⟩ := map_some e
          rcases del_relS h hk hx es l (i + 1) es2 hE.tail (fun p hp => hall p (List.mem_cons_of_mem _ hp)) e2 with ⟨k1, rfl⟩ | ⟨j, o, k1, k2, rfl⟩
          · exact .inl ⟨by simp [Instr.findAsking, g1, k1], rfl⟩
          · refine .inr ⟨j + 1, o, ?_, by simp; omega, rfl⟩
            simp [Instr.findAsking, g1, k1, Nat.add_assoc, Nat.add_comm 1 j]

theorem keysOk_spec {kd : Nat} {k : V} {es : List (V × V)} (h : keysOk kd k es = true) : kKey k = kd ∧ ∀ p ∈ es, kKey p.1 = kd := by
  simp only [keysOk, Bool.and_eq_true, List.all_eq_true] at h
  exact ⟨Nat.eq_of_beq_eq_true h.1, fun p hp => Nat.eq_of_beq_eq_true (h.2 p hp)⟩

theorem entRel_of {es : List (V × V)} {ents : Array MapEntry} (g2 : ents.size = es.length) (g3 : ∀ (i : Nat) k v, es[i]? = some (k, v) → ∃ me, ents[i]? = some me ∧ Rep w R ι k me.key ∧ Rep w R ι v me.val) : EntRel w R ι es ents.toList :=
  ⟨by rw [Array.length_toList, g2], fun i k v e => by
    obtain ⟨me, a1, a2⟩ := g3 i k v e
    exact ⟨me, by rw [Array.getElem?_toList]; exact a1, a2⟩⟩

theorem delete_ok (hr : HRel w R ι h) {ts : Array TypeId} {ty t kt et : TypeId} {kd : Nat} (h0 : ts[0]? = some t) (hu : P.underlying t = some (.map kt et)) (hkt : structKey P kt = some kd) {m k : Opd} {x y : Value} (hm : Rep w R ι (ev fr m) x) (hk : Rep w R ι (ev fr k) y)
    {v : V} (e1 : op1 fr h (.kdel kd m k) = some (v, h')) : ∃ w' R' ι' z, (Builtin.delete_ ts ty #[x, y]).run P w = .ok z w' ∧ Post w R ι h w' R' ι' h' ∧ Rep w' R' ι' v z := by
  simp only [op1] at e1
  split at e1
  · rename_i id hid
    rw [hid] at hm
    cases hm with
    | mp _ loc hι =>
    split at e1
    · rename_i es hg
      split at e1
      · rename_i hc
        obtain ⟨es', hs, hh⟩ := map_some e1
        cases hh
        obtain ⟨hkk, hall⟩ := keysOk_spec hc
        obtain ⟨ents, clock, g1, g2, g3⟩ := hr.maps id es loc hg hι
        obtain ⟨_, l, hl⟩ := key_lit hkt hkk hk
        obtain ⟨law, hwide, _⟩ := law_of hkt
        have hck := law.check w ents.isEmpty hl
        have hfe : (Instr.findKey kt y ents.toList).run P w = (Instr.findAsking kt y ents.toList).run P w := run_findKey_eq w hwide y ents.toList
        have hlow : ∀ f ∈ h.floors, id < f → ∀ p ∈ es, V.low f p.1 = true ∧ V.low f p.2 = true := fun f hf hlt p hp => hr.lowM f hf id es loc hlt hg hι p hp
        rcases del_relS hkt hkk hk es ents.toList 0 es' (entRel_of g2 g3) hall hs with ⟨f1, rfl⟩ | ⟨j, o, f1, f2, rfl⟩
        · refine ⟨_, R, ι, .tuple #[], ?_, Post.putM hr hg hι (clock' := clock) (ents' := ents) g1 g2 g3 hlow, .tup [] [] rfl (by simp)⟩
          simp only [Builtin.delete_, h0, Sem.run_bind, Sem.run_pure, Result.andThen_ok, List.getElem?_toArray, List.getElem?_cons_zero, List.getElem?_cons_succ, run_underlying hu, getObj_run g1, hck, hfe, f1, setObj_run _ g1]
        · refine ⟨_, R, ι, .tuple #[], ?_, Post.putM hr hg hι (clock' := clock) (ents' := ents.eraseIdxIfInBounds j) g1 ?_ (fun i k' v' e => ?_) (fun f hf hlt p hp => hlow f hf hlt p (List.mem_of_mem_eraseIdx hp)), .tup [] [] rfl (by simp)⟩
          · simp only [Builtin.delete_, h0, Sem.run_bind, Sem.run_pure, Result.andThen_ok, List.getElem?_toArray, List.getElem?_cons_zero, List.getElem?_cons_succ, run_underlying hu, getObj_run g1, hck, hfe, f1, setObj_run _ g1, Nat.zero_add]
          · rw [Array.eraseIdxIfInBounds_eq, dif_pos (by omega), Array.size_eraseIdx, List.length_eraseIdx, if_pos f2, g2]
          · have hj : j < ents.size := by omega
            rw [Array.eraseIdxIfInBounds_eq, dif_pos hj, Array.getElem?_eraseIdx]
            rw [List.getElem?_eraseIdx] at e
            split at e
            · rename_i hi; rw [if_pos hi]; exact g3 i k' v' e
            · rename_i hi; rw [if_neg hi]; exact g3 (i + 1) k' v' e
      · cases e1
    · cases e1
  · cases e1

theorem run_append_zeros {ts : Array TypeId} {ty t u e : TypeId} {q : IntKind} {i : TypeInfo} {z : Value} (h0 : ts[0]? = some t) (h1 : ts[1]? = some u) (ht : P.underlying t = some (.slice e)) (hu : P.underlying u = some (.int q)) (hi : P.info? e = some i) (hz : i.zero = some z)
    {m : Nat} (hm : 0 < m) (hs : 0 < i.size) (hb : 0 < i.bytes) (hfit : m * i.bytes ≤ 140737488355328) :
    (Builtin.append_ ts ty #[.slice none 0 0, .int .i64 m]).run P w =
      .ok (.slice (some ⟨w.heap.size, 0, none⟩) m (grownCap w m 0 e)) (w.drew.alloc (.cells (#[] ++ Builtin.zeroCells z.cells m ++ Builtin.zeroCells z.cells (grownCap w m 0 e - m)) e)) := by
  have hle : m ≤ m * i.bytes := Nat.le_mul_of_pos_right _ hb
  have hwr : IntKind.wrap .i64 (m : Int) = (m : Int) := by
    have e1 : (2 : Int) ^ IntKind.bits .i64 = 18446744073709551616 := by decide
    have e2 : (2 : Int) ^ (IntKind.bits .i64 - 1) = 9223372036854775808 := by decide
    have e3 : IntKind.signed .i64 = true := rfl
    simp only [IntKind.wrap, e1, e2, e3, Bool.true_and, decide_eq_true_eq]
    split <;> omega
  have hn : ¬ (m = 0) := by omega
  have hms : ¬ (m * i.size = 0) := by
    have := Nat.mul_pos hm hs
    omega
  have h63 : ¬ (9223372036854775807 < (m : Int)) := by omega
  have hneg : ¬ ((m : Int) < 0) := by omega
  have h48 : ¬ (281474976710656 < (m : Int) * (i.bytes : Int)) := by
    have : (m : Int) * (i.bytes : Int) = ((m * i.bytes : Nat) : Int) := by simp
    rw [this]; omega
  have hc : Builtin.nextslicecap m 0 = m := by simp [Builtin.nextslicecap, hm]
  have h48' : ¬ (281474976710656 < m * i.bytes) := by omega
  have hai : ∀ w : World, (asInt (.int .i64 (m : Int))).run P w = .ok (m : Int) w := fun _ => rfl
  simp [Builtin.append_, h0, h1, run_underlying ht, run_underlying hu, sizeOf, typeInfo, zeroValue, hi, hz, hn, h63, h48, h48', hneg, hms, hwr, hc, Question.forced, newRow, grownCap, Builtin.firstCells, hai]

theorem appz_ok (hr : HRel w R ι h) {ts : Array TypeId} {ty t u el : TypeId} {q : IntKind} {i : TypeInfo} {z : List V} (h0 : ts[0]? = some t) (h1 : ts[1]? = some u) (ht : P.underlying t = some (.slice el)) (hu : P.underlying u = some (.int q)) (hi : P.info? el = some i)
    (hz : zeroOf P el = some z) (hpos : 0 < i.size) (hb : 0 < i.bytes) {s n : Opd} {x y : Value} (hs : Rep w R ι (ev fr s) x) (hn : Rep w R ι (ev fr n) y) {v : V} (e1 : op1 fr h (.appz i.size i.bytes z s n) = some (v, h')) :
    ∃ w' R' ι' y', (Builtin.append_ ts ty #[x, y]).run P w = .ok y' w' ∧ Post w R ι h w' R' ι' h' ∧ Rep w' R' ι' v y' := by
  obtain ⟨i', zv, hi', hzv, hvs, hzl⟩ := zeroOf_spec hz
  rw [hi] at hi'; cases hi'
  obtain ⟨hrep, hone⟩ := vsOf_repL (w := w) (R := R) (ι := ι) hvs
  have hzs : zv.cells.size = i.size := by rw [← hzl, hrep.1, Array.length_toList]
  simp only [op1] at e1
  split at e1
  · rename_i m hs' hn'
    rw [hs'] at hs
    rw [hn'] at hn
    cases hs; cases hn
    split at e1
    · rename_i hm
      cases e1
      subst hm
      refine ⟨w, R, ι, .slice none 0 0, ?_, Post.refl hr, .nilsl⟩
      have hwr : IntKind.wrap .i64 (0 : Int) = 0 := by decide
      have hai : ∀ w : World, (asInt (.int .i64 0)).run P w = .ok 0 w := fun _ => rfl
      simp [Builtin.append_, h0, h1, run_underlying ht, run_underlying hu, sizeOf, typeInfo, hi, hwr, hai]
    · split at e1
      · rename_i hm0 hm
        cases e1
        obtain ⟨n, rfl⟩ := Int.eq_ofNat_of_zero_le (Int.le_of_lt hm.1)
        have hnp : 0 < n := by omega
        have hfit : n * i.bytes ≤ 140737488355328 := by
          have h9 : maxRow = 140737488355328 := rfl
          rw [← h9]
          simpa using hm.2
        have hrun := run_append_zeros (ty := ty) (w := w) h0 h1 ht hu hi hzv hnp hpos hb hfit
        have hzr := zeros_rep hrep n
        have hg := Post.grown (rest := Builtin.zeroCells zv.cells (grownCap w n 0 el - n)) (t := el) (olds := #[]) (news := Builtin.zeroCells zv.cells n) (lo := []) (ln := (List.replicate n z).flatten) hr ⟨rfl, by simp⟩ hzr (by simp) (by
          intro u hu'
          obtain ⟨l, hl1, hl2⟩ := List.mem_flatten.1 hu'
          rw [List.eq_of_mem_replicate hl1] at hl2
          exact hone u hl2)
        refine ⟨_, _, _, _, hrun, hg, ?_⟩
        have hcap := grownCap_ge w n 0 el
        simp only [Int.toNat_natCast]
        have := Rep.msl (w := w.drew.alloc (.cells (#[] ++ Builtin.zeroCells zv.cells n ++ Builtin.zeroCells zv.cells (grownCap w n 0 el - n)) el)) (R := R)
          (ι := named ι h.next ⟨w.heap.size, (#[] ++ Builtin.zeroCells zv.cells n ++ Builtin.zeroCells zv.cells (grownCap w n 0 el - n)).size⟩) h.next i.size 0 n none _ (grownCap w n 0 el) (named_same ..) hcap
          (fun _ => by
            simp only [Array.size_append, size_zeroCells, hzs, ← Nat.add_mul, Nat.zero_add, Array.size_empty]
            congr 1; omega) (fun _ h => by cases h)
        rw [Nat.zero_mul] at this
        exact this
      · cases e1
  · cases e1

theorem clear_ok (hr : HRel w R ι h) {ts : Array TypeId} {ty t el : TypeId} {i : TypeInfo} {z : List V} (h0 : ts[0]? = some t) (ht : P.underlying t = some (.slice el)) (hi : P.info? el = some i)
    (hz : zeroOf P el = some z) (_ : 0 < i.size) {s : Opd} {x : Value} (hs : Rep w R ι (ev fr s) x) {v : V} (e1 : op1 fr h (.clr i.size z s) = some (v, h')) :
    ∃ w' R' ι' y', (Builtin.clear_ ts ty #[x]).run P w = .ok y' w' ∧ Post w R ι h w' R' ι' h' ∧ Rep w' R' ι' v y' := by
  obtain ⟨i', zv, hi', hzv, hvs, hzl⟩ := zeroOf_spec hz
  rw [hi] at hi'; cases hi'
  obtain ⟨hrep, hone⟩ := vsOf_repL (w := w) (R := R) (ι := ι) hvs
  have hzs : zv.cells.size = i.size := by rw [← hzl, hrep.1, Array.length_toList]
  have hzrun : (zeroValue el).run P w = .ok zv w := by simp [zeroValue, typeInfo, hi, hzv]
  simp only [op1] at e1
  split at e1
  · rename_i hs'
    rw [hs'] at hs
    cases hs
    cases e1
    refine ⟨w, R, ι, .tuple #[], ?_, Post.refl hr, .tup [] [] rfl (by simp)⟩
    simp [Builtin.clear_, h0, run_underlying ht]
  · rename_i hs'
    rw [hs'] at hs
    cases hs
    cases e1
    refine ⟨w, R, ι, .tuple #[], ?_, Post.refl hr, .tup [] [] rfl (by simp)⟩
    simp [Builtin.clear_, h0, run_underlying ht]
  · rename_i id sz' off len cap hs'
    rw [hs'] at hs
    cases hs with
    | msl _ _ _ _ _ loc c' hι hlc hfull hcap =>
    split at e1
    · rename_i l hc
      split at e1
      · rename_i hfit
        simp only [Bool.and_eq_true, decide_eq_true_eq] at hfit
        obtain ⟨⟨hsz, hfit1⟩, hmay⟩ := hfit
        subst hsz
        cases e1
        have hg := cellsOf_get hc
        obtain ⟨cur, te, g1, g2, g3, g4, g5⟩ := hr.cells id l loc hg hι
        have hzr : RepL w R ι (List.replicate len z).flatten (Builtin.zeroCells zv.cells len).toList := zeros_rep hrep len
        have hzone : ∀ u ∈ (List.replicate len z).flatten, u.one = true := by
          intro u hu'
          obtain ⟨l', hl1, hl2⟩ := List.mem_flatten.1 hu'
          rw [List.eq_of_mem_replicate hl1] at hl2
          exact hone u hl2
        have hzlen : (List.replicate len z).flatten.length = len * i.size := by simp [hzl]
        have hyl : (Builtin.zeroCells zv.cells len).toList.length = len * i.size := by rw [← hzr.1, hzlen]
        rw [Nat.add_mul] at hfit1
        have hone' : ∀ u ∈ (Builtin.zeroCells zv.cells len).toList, u.oneCell' = true := by
          intro u hu'
          obtain ⟨j, hj⟩ := List.mem_iff_getElem?.1 hu'
          have hj' : j < (List.replicate len z).flatten.length := by rw [hzr.1]; exact (List.getElem?_eq_some_iff.1 hj).1
          exact (hzr.2 j _ u (List.getElem?_eq_getElem hj') hj).oneCell (hzone _ (List.getElem_mem hj'))
        have hst := run_storeCells_at P loc.b (off * i.size) te (Builtin.zeroCells zv.cells len).toList 0 cur w g1 (by omega) hone'
        simp only [Nat.add_zero] at hst
        refine ⟨_, R, ι, .tuple #[], ?_, Post.put hr hg hι (cur' := (cur.toList.take (off * i.size) ++ (Builtin.zeroCells zv.cells len).toList ++ cur.toList.drop (off * i.size + (Builtin.zeroCells zv.cells len).toList.length)).toArray) g1 ?_ ?_ ?_ ?_ ?_, .tup [] [] rfl (by simp)⟩
        · by_cases hl0 : len = 0
          · subst hl0
            have hz0 : Builtin.zeroCells zv.cells 0 = #[] := by simp [Builtin.zeroCells]
            rw [hz0] at hst ⊢
            simp only [Builtin.clear_, h0, Sem.run_bind, Sem.run_pure, Result.andThen_ok, List.getElem?_toArray, List.getElem?_cons_zero, run_underlying ht]
            simp only [storeCells, Sem.run_pure, Result.ok.injEq, true_and] at hst
            rw [← hst]
          · obtain ⟨n, rfl⟩ : ∃ n, len = n + 1 := ⟨len - 1, by omega⟩
            simp only [Builtin.clear_, h0, Sem.run_bind, Sem.run_pure, Result.andThen_ok, List.getElem?_toArray, List.getElem?_cons_zero, run_underlying ht, hzrun, hst]
        · simp only [List.size_toArray, List.length_append, List.length_take, List.length_drop, Array.length_toList] at hyl ⊢; omega
        · simp only [List.length_append, List.length_take, List.length_drop]; omega
        · intro u hu'
          simp only [List.mem_append] at hu'
          rcases hu' with (hu' | hu') | hu'
          · exact g4 u (List.mem_of_mem_take hu')
          · exact hzone u hu'
          · exact g4 u (List.mem_of_mem_drop hu')
        · have := stored_reps (o := off * i.size) g3 g5 hzr (by omega) (by omega)
          rw [hzlen] at this
          exact this
        · intro f hf hid
          have hm' := (List.all_eq_true.1 hmay) f hf
          simp only [Bool.or_eq_true, decide_eq_true_eq] at hm'
          rcases hm' with hm' | hm'
          · omega
          · have hlow := hr.low f hf id l loc hid hg hι
            refine lows_spec.2 fun u hu' => ?_
            simp only [List.mem_append] at hu'
            rcases hu' with (hu' | hu') | hu'
            · exact lows_spec.1 hlow u (List.mem_of_mem_take hu')
            · obtain ⟨l', hl1, hl2⟩ := List.mem_flatten.1 hu'
              rw [List.eq_of_mem_replicate hl1] at hl2
              exact lows_spec.1 hm' u hl2
            · exact lows_spec.1 hlow u (List.mem_of_mem_drop hu')
      · cases e1
    · cases e1
  · cases e1

theorem call_ok {o : Oper} {c : Call} (ho : o.op = .call c) (hr : HRel w R ι h) (hG : GRel G w R ι) (hE : ERel w R ι fr a) {ao : AOp} (e : aop P G o = some ao)
    {v : V} (e1 : op1 fr h ao = some (v, h')) : Ok1 P a o w R ι h v h' := by
  unfold aop at e
  simp only [ho] at e
  split at e
  · rename_i f l hc hl
    split at e
    · rename_i hix
      split at e
      · cases e
        exact ix_ok ho hc hix hr hG hE hl e1
      · cases e
    · split at e
      · rename_i hfb
        split at e
        · cases e
          exact fb_ok ho hc hfb hr hG hE hl e1
        · cases e
      · cases e; cases e1
  · rename_i g l hg hl hc
    obtain ⟨y, hy, hh⟩ := map_some e
    cases hh; cases e1
  · rename_i x hc hl
    obtain ⟨x1, hxs, hx⟩ := opds_one hl
    have hex := exec_builtin (a := a) ho hc
    rw [hxs] at hex
    rw [show ∀ l : List Operand, Array.map a.eval ⟨l⟩ = ⟨l.map a.eval⟩ from fun l => List.map_toArray] at hex
    split at e
    · rename_i t ht
      have hts : c.argTypes = #[t] := Array.toList_inj.1 ht
      rw [hts] at hex
      split at e
      · rename_i hu
        cases e
        exact ok_pure hr hex (len_ok hr (.inl ⟨rfl, hu⟩) (ev_rel hG hE hx) e1)
      · rename_i el hu
        cases e
        exact ok_pure hr hex (len_ok hr (.inr (.inl ⟨rfl, _, hu⟩)) (ev_rel hG hE hx) e1)
      · rename_i k el hu
        cases e
        exact ok_pure hr hex (len_ok hr (.inr (.inr ⟨rfl, _, _, hu⟩)) (ev_rel hG hE hx) e1)
      · cases e
    · cases e
  · rename_i x hc hl
    obtain ⟨x1, hxs, hx⟩ := opds_one hl
    have hex := exec_builtin (a := a) ho hc
    rw [hxs] at hex
    rw [show ∀ l : List Operand, Array.map a.eval ⟨l⟩ = ⟨l.map a.eval⟩ from fun l => List.map_toArray] at hex
    split at e
    · rename_i t ht
      have hts : c.argTypes = #[t] := Array.toList_inj.1 ht
      rw [hts] at hex
      split at e
      · rename_i el hu
        cases e
        exact ok_pure hr hex (cap_ok hu (ev_rel hG hE hx) e1)
      · cases e
    · cases e
  · rename_i l hc hl
    cases e
    have hex := exec_builtin (a := a) ho hc
    have hlr := opds_rel hG hE hl
    simp only [op1] at e1
    split at e1
    · cases e1
    · rename_i x r
      obtain ⟨u, hu, hh⟩ := map_some e1
      cases hh
      obtain ⟨y, hy, hrep⟩ := hlr.get (i := 0) rfl
      have htl : RepL w R ι (r.map (ev fr)) ((c.args.toList.map a.eval).drop 1) := by simpa using hlr.drop 1
      obtain ⟨z, hz1, hz2⟩ := mmAll_ok (P := P) true _ _ _ _ _ hrep htl hu
      refine ok_pure hr hex ⟨rfl, z, ?_, hz2⟩
      have hlist : (c.args.map a.eval).toList = y :: (c.args.toList.map a.eval).drop 1 := by
        rw [Array.toList_map]; exact head_drop hy
      simp only [Builtin.max_, hlist]
      exact hz1
  · rename_i l hc hl
    cases e
    have hex := exec_builtin (a := a) ho hc
    have hlr := opds_rel hG hE hl
    simp only [op1] at e1
    split at e1
    · cases e1
    · rename_i x r
      obtain ⟨u, hu, hh⟩ := map_some e1
      cases hh
      obtain ⟨y, hy, hrep⟩ := hlr.get (i := 0) rfl
      have htl : RepL w R ι (r.map (ev fr)) ((c.args.toList.map a.eval).drop 1) := by simpa using hlr.drop 1
      obtain ⟨z, hz1, hz2⟩ := mmAll_ok (P := P) false _ _ _ _ _ hrep htl hu
      refine ok_pure hr hex ⟨rfl, z, ?_, hz2⟩
      have hlist : (c.args.map a.eval).toList = y :: (c.args.toList.map a.eval).drop 1 := by
        rw [Array.toList_map]; exact head_drop hy
      simp only [Builtin.min_, hlist]
      exact hz1
  · cases e; cases e1
  · rename_i x hc hl
    cases e
    obtain ⟨x1, hxs, hx⟩ := opds_one hl
    have hex := exec_builtin (a := a) ho hc
    rw [hxs] at hex
    rw [show ∀ l : List Operand, Array.map a.eval ⟨l⟩ = ⟨l.map a.eval⟩ from fun l => List.map_toArray] at hex
    have hv := ev_rel hG hE hx
    simp only [op1] at e1
    split at e1
    · rename_i k re im hev
      cases e1
      rw [hev] at hv
      generalize hxv : a.eval x1 = xv at *
      cases hv
      exact ok_pure hr (by rw [hex]; simp only [List.map_cons, List.map_nil, hxv]; rfl) ⟨rfl, _, run_real _ _ _ _ _, .flt _ _⟩
    · cases e1
  · rename_i x hc hl
    cases e
    obtain ⟨x1, hxs, hx⟩ := opds_one hl
    have hex := exec_builtin (a := a) ho hc
    rw [hxs] at hex
    rw [show ∀ l : List Operand, Array.map a.eval ⟨l⟩ = ⟨l.map a.eval⟩ from fun l => List.map_toArray] at hex
    have hv := ev_rel hG hE hx
    simp only [op1] at e1
    split at e1
    · rename_i k re im hev
      cases e1
      rw [hev] at hv
      generalize hxv : a.eval x1 = xv at *
      cases hv
      exact ok_pure hr (by rw [hex]; simp only [List.map_cons, List.map_nil, hxv]; rfl) ⟨rfl, _, run_imag _ _ _ _ _, .flt _ _⟩
    · cases e1
  · rename_i x y hc hl
    cases e
    obtain ⟨x1, x2, hxs, hx, hy⟩ := opds_two hl
    have hex := exec_builtin (a := a) ho hc
    rw [hxs] at hex
    rw [show ∀ l : List Operand, Array.map a.eval ⟨l⟩ = ⟨l.map a.eval⟩ from fun l => List.map_toArray] at hex
    have hv := ev_rel hG hE hx
    have hv2 := ev_rel hG hE hy
    simp only [op1] at e1
    split at e1
    · rename_i k re j im hev hev2
      split at e1
      · rename_i hkj
        subst hkj
        cases e1
        rw [hev] at hv; rw [hev2] at hv2
        generalize hxv : a.eval x1 = xv at *
        generalize hxv2 : a.eval x2 = xv2 at *
        cases hv; cases hv2
        exact ok_pure hr (by rw [hex]; simp only [List.map_cons, List.map_nil, hxv, hxv2]; rfl) ⟨rfl, _, run_complex _ _ _ _ _, .cpx _ _ _⟩
      · cases e1
    · cases e1
  · rename_i s x hc hl
    obtain ⟨x1, x2, hxs, hx, hy⟩ := opds_two hl
    have hex := exec_builtin (a := a) ho hc
    rw [hxs] at hex
    rw [show ∀ l : List Operand, Array.map a.eval ⟨l⟩ = ⟨l.map a.eval⟩ from fun l => List.map_toArray] at hex
    have fin : ∀ {t u el : TypeId}, c.argTypes[0]? = some t → c.argTypes[1]? = some u → P.underlying t = some (.slice el) → RowT P u →
        (match P.info? el with | some i => if (0 < i.size && 0 < i.bytes && (zeroOf P el).isSome) = true then some (AOp.app i.size i.bytes s x) else none | none => none) = some ao → Ok1 P a o w R ι h v h' := by
      intro t u el h0 h1 ht hu e
      split at e
      · rename_i i hi
        split at e
        · rename_i hc
          simp only [Bool.and_eq_true, decide_eq_true_eq] at hc
          cases e
          obtain ⟨⟨hp, hb⟩, hz⟩ := hc
          obtain ⟨z, hz⟩ := Option.isSome_iff_exists.1 hz
          obtain ⟨i', zv, hi', hzv, hvs, hzl⟩ := zeroOf_spec hz
          rw [hi] at hi'; cases hi'
          have hrep := (vsOf_repL (w := w) (R := R) (ι := ι) hvs).1
          have hzs : zv.cells.size = i.size := by rw [← hzl, hrep.1, Array.length_toList]
          obtain ⟨w', R', ι', y, g1, g2, g3⟩ := append_ok (ty := o.type) hr h0 h1 ht hu hi hzv hzs hp hb (ev_rel hG hE hx) (ev_rel hG hE hy) e1
          exact ok_val hex ⟨w', R', ι', y, g1, g2, g3⟩
        · cases e
      · cases e
    split at e
    · rename_i t u h0 h1
      split at e
      · rename_i el e2 ht hu
        exact fin h0 h1 ht (.inr ⟨_, hu⟩) e
      · rename_i el ht hu
        exact fin h0 h1 ht (.inl hu) e
      · rename_i el q ht hu
        split at e
        · rename_i i z hi hz
          split at e
          · rename_i hc
            simp only [Bool.and_eq_true, decide_eq_true_eq] at hc
            cases e
            obtain ⟨w', R', ι', y, g1, g2, g3⟩ := appz_ok (ty := o.type) hr h0 h1 ht hu hi hz hc.1 hc.2 (ev_rel hG hE hx) (ev_rel hG hE hy) e1
            exact ok_val hex ⟨w', R', ι', y, g1, g2, g3⟩
          · cases e
        · cases e
      · cases e
    · cases e
  · rename_i d s hc hl
    obtain ⟨x1, x2, hxs, hx, hy⟩ := opds_two hl
    have hex := exec_builtin (a := a) ho hc
    rw [hxs] at hex
    rw [show ∀ l : List Operand, Array.map a.eval ⟨l⟩ = ⟨l.map a.eval⟩ from fun l => List.map_toArray] at hex
    split at e
    · rename_i t h0
      split at e
      · rename_i el ht
        split at e
        · rename_i i hi
          cases e
          obtain ⟨w', R', ι', y, g1, g2, g3⟩ := copy_ok (ty := o.type) hr h0 ht hi (ev_rel hG hE hx) (ev_rel hG hE hy) e1
          exact ok_val hex ⟨w', R', ι', y, g1, g2, g3⟩
        · cases e
      · cases e
    · cases e
  · rename_i m k hc hl
    obtain ⟨x1, x2, hxs, hx, hy⟩ := opds_two hl
    have hex := exec_builtin (a := a) ho hc
    rw [hxs] at hex
    rw [show ∀ l : List Operand, Array.map a.eval ⟨l⟩ = ⟨l.map a.eval⟩ from fun l => List.map_toArray] at hex
    split at e
    · rename_i t h0
      split at e
      · rename_i kt et hu
        obtain ⟨kd, hkd, hh⟩ := map_some e
        cases hh
        obtain ⟨w', R', ι', y, g1, g2, g3⟩ := delete_ok (ty := o.type) hr h0 hu hkd (ev_rel hG hE hx) (ev_rel hG hE hy) e1
        exact ok_val hex ⟨w', R', ι', y, g1, g2, g3⟩
      · cases e
    · cases e
  · rename_i x hc hl
    obtain ⟨x1, hxs, hx⟩ := opds_one hl
    have hex := exec_builtin (a := a) ho hc
    rw [hxs] at hex
    rw [show ∀ l : List Operand, Array.map a.eval ⟨l⟩ = ⟨l.map a.eval⟩ from fun l => List.map_toArray] at hex
    split at e
    · rename_i t h0
      split at e
      · rename_i el hu
        split at e
        · rename_i i z hi hz
          split at e
          · rename_i hp
            cases e
            obtain ⟨w', R', ι', y, g1, g2, g3⟩ := clear_ok (ty := o.type) hr h0 hu hi hz hp (ev_rel hG hE hx) e1
            exact ok_val hex ⟨w', R', ι', y, g1, g2, g3⟩
          · cases e
        · cases e
      · cases e
    · cases e
  · cases e
end
end Go.Ab

namespace Go.Ab
section
variable {P : Program} {G : Nat → Option V} {w w' : World} {R R' : Nat → Prop} {ι ι' : Nat → Option Loc} {h h' : Heap} {fr : List V} {a : Act}

theorem zeroV_spec {t : TypeId} {z : V} (e : zeroV P t = some z) : ∃ i v, P.info? t = some i ∧ i.zero = some v ∧ Rep w R ι z v := by
  unfold zeroV at e
  split at e
  · rename_i i hi
    split at e
    · rename_i xs hz
      obtain ⟨l, hl, hh⟩ := map_some e
      cases hh
      obtain ⟨h1, h2⟩ := vsOf_repL (w := w) (R := R) (ι := ι) hl
      refine ⟨i, _, hi, hz, ?_⟩
      have := Rep.agg (w := w) (R := R) (ι := ι) l xs.toList h1.1 h2 h1.2
      simpa using this
    · rename_i v _ hz
      split at e
      · rename_i u hu
        cases e
        obtain ⟨h1, h2⟩ := vsOf_repL (w := w) (R := R) (ι := ι) hu
        exact ⟨i, v, hi, hz, h1.2 0 _ _ rfl rfl⟩
      · cases e
    · cases e
  · cases e

theorem tassert_ok {t d : TypeId} {ty : TypeDesc} {ok : Bool} {z : V} (hu : P.underlying t = some ty) (hni : ∀ m, ty ≠ .interface m) (hz : ok = true → zeroV P t = some z) {x : Opd} {xo : Operand} (hx : Rep w R ι (ev fr x) (a.eval xo)) {v : V}
    (e1 : op1 fr h (.tassert t ok z x) = some (v, h')) : h' = h ∧ ∃ y, (Instr.typeAssert (a.eval xo) d t ok).run P w = .ok y w ∧ Rep w R ι v y := by
  have hzero : ok = true → ∃ zv, (zeroValue t).run P w = .ok zv w ∧ Rep w R ι z zv := fun hk => by
    obtain ⟨i, zv, h1, h2, h3⟩ := zeroV_spec (w := w) (R := R) (ι := ι) (hz hk)
    exact ⟨zv, by simp [zeroValue, typeInfo, h1, h2], h3⟩
  simp only [op1] at e1
  split at e1
  · rename_i u v' hev
    rw [hev] at hx
    generalize a.eval xo = xv at hx
    cases hx with
    | ifc _ _ y hy =>
    have hrun : (Instr.typeAssert (.iface u y) d t ok).run P w = (if u = t then (pure (if ok then .tuple #[y, .bool true] else y) : Sem Value) else if ok then (do pure (.tuple #[← zeroValue t, .bool false])) else runtimePanic (.typeAssertion (some d) (some u) t "")).run P w := by
      unfold Instr.typeAssert
      simp only [Sem.run_bind, run_underlying hu, Result.andThen_ok]
    cases ok with
    | true =>
      simp only [if_true, Option.some.injEq, Prod.mk.injEq] at e1
      obtain ⟨rfl, rfl⟩ := e1
      refine ⟨rfl, ?_⟩
      rw [hrun]
      by_cases hut : u = t
      · simp only [hut, if_true]
        refine ⟨_, rfl, .tup [v', .bool true] [y, .bool true] rfl fun i v x e e' => ?_⟩
        match i, e, e' with
        | 0, e, e' => cases e; cases e'; exact hy
        | 1, e, e' => cases e; cases e'; exact .bool true
        | i + 2, e, e' => simp at e
      · simp only [hut, if_false, if_true]
        obtain ⟨zv, h1, h2⟩ := hzero rfl
        refine ⟨.tuple #[zv, .bool false], by simp only [Sem.run_bind, h1, Result.andThen_ok]; rfl, .tup [z, .bool false] [zv, .bool false] rfl fun i v x e e' => ?_⟩
        match i, e, e' with
        | 0, e, e' => cases e; cases e'; exact h2
        | 1, e, e' => cases e; cases e'; exact .bool false
        | i + 2, e, e' => simp at e
    | false =>
      simp only [Bool.false_eq_true, if_false] at e1
      split at e1
      · rename_i hut
        cases e1
        refine ⟨rfl, y, ?_, hy⟩
        rw [hrun]
        simp only [hut, if_true]
        rfl
      · cases e1
  · rename_i hev
    rw [hev] at hx
    generalize a.eval xo = xv at hx
    cases hx
    split at e1
    · rename_i hk
      cases e1
      obtain ⟨zv, h1, h2⟩ := hzero hk
      subst hk
      refine ⟨rfl, .tuple #[zv, .bool false], ?_, .tup [z, .bool false] [zv, .bool false] rfl fun i v x e e' => ?_⟩
      · unfold Instr.typeAssert
        simp only [Sem.run_bind, run_underlying hu, Result.andThen_ok]
        cases ty <;> first | (simp only [Sem.run_bind, h1, Result.andThen_ok, if_true]; rfl) | exact absurd rfl (hni _)
      · match i, e, e' with
        | 0, e, e' => cases e; cases e'; exact h2
        | 1, e, e' => cases e; cases e'; exact .bool false
        | i + 2, e, e' => simp at e
    · cases e1
  · cases e1

theorem lookup_ok (hr : HRel w R ι h) {t kt et : TypeId} {kd : Nat} (hu : P.underlying t = some (.map kt et)) (hkt : keyT P kt = some kd) {z : V} (hz : zeroV P et = some z) {ok : Bool} {m k : Opd} {x y : Value} (hm : Rep w R ι (ev fr m) x) (hk : Rep w R ι (ev fr k) y)
    {v : V} (e1 : op1 fr h (.mapget kd z ok m k) = some (v, h')) : h' = h ∧ ∃ u, (Instr.lookup t x y ok).run P w = .ok u w ∧ Rep w R ι v u := by
  obtain ⟨d, hd, hkd⟩ := keyT_spec hkt
  obtain ⟨iz, zv, hz1, hz2, hz3⟩ := zeroV_spec (w := w) (R := R) (ι := ι) hz
  have hzr : (zeroValue et).run P w = .ok zv w := by simp [zeroValue, typeInfo, hz1, hz2]
  -- from the entries on
  have go : ∀ (es : List (V × V)) (ents : Array MapEntry) (r : Option V), EntRel w R ι es ents.toList → (es ≠ [] → kCell (ev fr k) = kd) → mapFind (ev fr k) es = some r →
      ∃ u, (do
        Instr.checkKey ents.isEmpty 10000 kt y
        let (v, o) ← match ← Instr.findKey kt y ents.toList with
          | some (_, v) => pure (v, true)
          | none => pure (← zeroValue et, false)
        pure (if ok then .tuple #[v, .bool o] else v) : Sem Value).run P w = .ok u w ∧ Rep w R ι (if ok then .tup [r.getD z, .bool r.isSome] else r.getD z) u := by
    intro es ents r hE hkc hf
    have hfind : ∃ q, Instr.findNow d y ents.toList 0 = some q ∧ (r = none → q = none) ∧ ∀ v, r = some v → ∃ j u, q = some (j, u) ∧ Rep w R ι v u := by
      by_cases hes : es = []
      · subst hes
        have : ents.toList = [] := List.eq_nil_of_length_eq_zero hE.1
        rw [this]
        cases hf
        exact ⟨none, rfl, fun _ => rfl, fun v hv => by cases hv⟩
      · exact find_rel (hkc hes) hkd hk es ents.toList 0 r hE hf
    obtain ⟨q, q1, q2, q3⟩ := hfind
    have hpair : ∀ {a : V} {b : Value} (o : Bool), Rep w R ι a b → Rep w R ι (.tup [a, .bool o]) (.tuple #[b, .bool o]) := fun {a b} o hab => .tup [a, .bool o] [b, .bool o] rfl fun i v x e e' => by
      match i, e, e' with
      | 0, e, e' => cases e; cases e'; exact hab
      | 1, e, e' => cases e; cases e'; exact .bool o
      | i + 2, e, e' => simp at e
    simp only [Sem.run_bind, checkKey_run hd hkd, Result.andThen_ok, findKey_run hd q1]
    cases r with
    | none =>
      rw [q2 rfl]
      simp only [Sem.run_bind, hzr, Result.andThen_ok, Sem.run_pure]
      cases ok with
      | true => exact ⟨_, rfl, hpair false hz3⟩
      | false => exact ⟨_, rfl, hz3⟩
    | some rv =>
      obtain ⟨j, u, rfl, hu⟩ := q3 rv rfl
      cases ok with
      | true => exact ⟨_, rfl, hpair true hu⟩
      | false => exact ⟨_, rfl, hu⟩
  simp only [op1] at e1
  obtain ⟨r, hr1, hh⟩ := map_some e1
  cases hh
  refine ⟨rfl, ?_⟩
  unfold Instr.lookup
  simp only [Sem.run_bind, run_underlying hu, Result.andThen_ok]
  split at hr1
  · rename_i id hid
    rw [hid] at hm
    cases hm with
    | mp _ loc hι =>
    split at hr1
    · rename_i es hg
      split at hr1
      · rename_i hc
        obtain ⟨ents, clock, g1, g2, g3⟩ := hr.maps id es loc hg hι
        simp only [getObj_run g1, Sem.run_bind, Result.andThen_ok, Sem.run_pure]
        have := go es ents r ⟨by rw [Array.length_toList, g2], fun i k v e => by
          obtain ⟨me, a1, a2⟩ := g3 i k v e
          exact ⟨me, by rw [Array.getElem?_toList]; exact a1, a2⟩⟩ (fun _ => by simpa using hc) hr1
        simp only [Sem.run_bind] at this
        exact this
      · cases hr1
    · cases hr1
  · rename_i hid
    rw [hid] at hm
    cases hm
    cases hr1
    have := go [] #[] none ⟨rfl, fun i k v e => by simp at e⟩ (fun h => absurd rfl h) rfl
    simp only [Sem.run_bind] at this ⊢
    exact this
  · cases hr1

theorem sameBits_int (n : Nat) (k : IntKind) (a : Int) : Instr.sameBits n (.int k a) (.int k a) = true := by
  cases n <;> simp [Instr.sameBits]
theorem sameBits_str (n : Nat) (s : ByteArray) : Instr.sameBits n (.string s) (.string s) = true := by
  have h : (s == s) = true := by rw [bytes_beq]; simp
  cases n <;> simp [Instr.sameBits, h]

theorem update_ok (hr : HRel w R ι h) {t kt et : TypeId} {kd : Nat} (hu : P.underlying t = some (.map kt et)) (hkt : keyT P kt = some kd) {m k q : Opd} {x y z : Value} (hm : Rep w R ι (ev fr m) x) (hk : Rep w R ι (ev fr k) y) (hq : Rep w R ι (ev fr q) z)
    {v : V} (e1 : op1 fr h (.mapput kd m k q) = some (v, h')) : v = .undef ∧ ∃ w', (Instr.mapUpdate t x y z).run P w = .ok () w' ∧ Post w R ι h w' R ι h' := by
  obtain ⟨d, hd, hkd⟩ := keyT_spec hkt
  simp only [op1] at e1
  split at e1
  · rename_i id hid
    rw [hid] at hm
    cases hm with
    | mp _ loc hι =>
    split at e1
    · rename_i es hg
      split at e1
      · rename_i hc
        simp only [Bool.and_eq_true, beq_iff_eq] at hc
        obtain ⟨hmay, hkc⟩ := hc
        obtain ⟨es', hs, hh⟩ := map_some e1
        cases hh
        refine ⟨rfl, ?_⟩
        obtain ⟨ents, clock, g1, g2, g3⟩ := hr.maps id es loc hg hι
        have hE : EntRel w R ι es ents.toList := ⟨by rw [Array.length_toList, g2], fun i k v e => by
          obtain ⟨me, a1, a2⟩ := g3 i k v e
          exact ⟨me, by rw [Array.getElem?_toList]; exact a1, a2⟩⟩
        have hlowk : ∀ f ∈ h.floors, id < f → V.low f (ev fr k) = true ∧ V.low f (ev fr q) = true := fun f hf hlt => by
          have := List.all_eq_true.1 hmay f hf
          simp only [Bool.or_eq_true, decide_eq_true_eq, V.lows, Bool.and_eq_true, Bool.and_true] at this
          rcases this with h | h
          · omega
          · exact h
        rcases set_rel (v := ev fr q) hkc hkd hk es ents.toList 0 es' hE hs with ⟨f1, rfl⟩ | ⟨j, u, me, o, f1, f2, f3, f4, rfl⟩
        · refine ⟨{ w with heap := w.heap.setIfInBounds loc.b (.map (ents.push { key := y, val := z, born := clock }) (clock + 1)) }, ?_, Post.putM hr hg hι g1 (by simp [g2]) (fun i k' v' e => ?_) (fun f hf hlt p hp => ?_)⟩
          · unfold Instr.mapUpdate
            simp only [Sem.run_bind, run_underlying hu, Result.andThen_ok, getObj_run g1, checkKey_run hd hkd, findKey_run hd f1]
            exact setObj_run _ g1
          · rcases Nat.lt_or_ge i es.length with hi | hi
            · rw [List.getElem?_append_left hi] at e
              obtain ⟨me, a1, a2⟩ := g3 i k' v' e
              refine ⟨me, ?_, a2⟩
              rw [Array.getElem?_push, if_neg (by omega)]
              exact a1
            · rw [List.getElem?_append_right hi] at e
              have hi0 : i - es.length = 0 := by
                rcases Nat.eq_zero_or_pos (i - es.length) with h | h
                · exact h
                · rw [List.getElem?_eq_none (by simp; omega)] at e; cases e
              rw [hi0] at e
              simp only [List.getElem?_cons_zero, Option.some.injEq, Prod.mk.injEq] at e
              obtain ⟨rfl, rfl⟩ := e
              exact ⟨_, by rw [Array.getElem?_push, if_pos (by omega)], hk, hq⟩
          · rcases List.mem_append.1 hp with hp | hp
            · exact hr.lowM f hf id es loc hlt hg hι p hp
            · simp only [List.mem_singleton] at hp
              subst hp
              exact hlowk f hf hlt
        · have hj : j < ents.size := by
            rw [Array.getElem?_toList] at f3
            exact (Array.getElem?_eq_some_iff.1 f3).1
          have hstay : (Instr.keyThatStays (((ents[j]?).map (·.key)).getD y) y).run P w = .ok y w := by
            rw [Array.getElem?_toList] at f3
            rw [f3]
            simp only [Option.map_some, Option.getD_some, f4]
            unfold Instr.keyThatStays
            have : Instr.sameBits 10000 y y = true := by
              rcases hkd with ⟨rfl, _⟩ | ⟨rfl, _⟩
              · unfold kCell at hkc
                split at hkc
                · rename_i hev; rw [hev] at hk; cases hk; exact sameBits_int ..
                · cases hkc
                · cases hkc
                · cases hkc
              · unfold kCell at hkc
                split at hkc
                · cases hkc
                · cases hkc
                · rename_i hev; rw [hev] at hk; cases hk; exact sameBits_str ..
                · cases hkc
            rw [this]
            rfl
          refine ⟨{ w with heap := w.heap.setIfInBounds loc.b (.map (ents.modify j fun e => { e with key := y, val := z }) clock) }, ?_, Post.putM hr hg hι g1 (by simp [g2]) (fun i k' v' e => ?_) (fun f hf hlt p hp => ?_)⟩
          · unfold Instr.mapUpdate
            rw [Nat.zero_add] at f1
            simp only [Sem.run_bind, run_underlying hu, Result.andThen_ok, getObj_run g1, checkKey_run hd hkd, findKey_run hd f1, hstay]
            exact setObj_run _ g1
          · by_cases hij : j = i
            · subst hij
              have hjl : j < es.length := by omega
              rw [List.getElem?_set_self hjl] at e
              simp only [Option.some.injEq, Prod.mk.injEq] at e
              obtain ⟨rfl, rfl⟩ := e
              obtain ⟨me2, a1, _⟩ := g3 j _ u f2
              exact ⟨_, by rw [Array.getElem?_modify, if_pos rfl, a1]; rfl, hk, hq⟩
            · rw [List.getElem?_set_ne hij] at e
              obtain ⟨me2, a1, a2⟩ := g3 i k' v' e
              exact ⟨me2, by rw [Array.getElem?_modify, if_neg hij]; exact a1, a2⟩
          · rcases List.mem_or_eq_of_mem_set hp with hp | rfl
            · exact hr.lowM f hf id es loc hlt hg hι p hp
            · exact hlowk f hf hlt
      · cases e1
    · cases e1
  · cases e1

theorem lookupS_ok (hr : HRel w R ι h) {t kt et : TypeId} {kd : Nat} (hu : P.underlying t = some (.map kt et)) (hkt : structKey P kt = some kd) {z : V} (hz : zeroV P et = some z) {ok : Bool} {m k : Opd} {x y : Value} (hm : Rep w R ι (ev fr m) x) (hk : Rep w R ι (ev fr k) y)
    {v : V} (e1 : op1 fr h (.kget kd z ok m k) = some (v, h')) : h' = h ∧ ∃ u, (Instr.lookup t x y ok).run P w = .ok u w ∧ Rep w R ι v u := by
  obtain ⟨iz, zv, hz1, hz2, hz3⟩ := zeroV_spec (w := w) (R := R) (ι := ι) hz
  have hzr : (zeroValue et).run P w = .ok zv w := by simp [zeroValue, typeInfo, hz1, hz2]
  simp only [op1] at e1
  split at e1
  · rename_i id hid
    rw [hid] at hm
    cases hm with
    | mp _ loc hι =>
    split at e1
    · rename_i es hg
      split at e1
      · rename_i hc
        obtain ⟨r, hf, hh⟩ := map_some e1
        cases hh
        refine ⟨rfl, ?_⟩
        obtain ⟨hkk, hall⟩ := keysOk_spec hc
        obtain ⟨ents, clock, g1, g2, g3⟩ := hr.maps id es loc hg hι
        obtain ⟨_, l, hl⟩ := key_lit hkt hkk hk
        obtain ⟨law, hwide, _⟩ := law_of hkt
        have hck := law.check w ents.isEmpty hl
        have hfe : (Instr.findKey kt y ents.toList).run P w = (Instr.findAsking kt y ents.toList).run P w := run_findKey_eq w hwide y ents.toList
        obtain ⟨q, q1, q2, q3⟩ := find_relS hkt hkk hk es ents.toList 0 r (entRel_of g2 g3) hall hf
        have hpair : ∀ {a : V} {b : Value} (o : Bool), Rep w R ι a b → Rep w R ι (.tup [a, .bool o]) (.tuple #[b, .bool o]) := fun {a b} o hab => .tup [a, .bool o] [b, .bool o] rfl fun i v x e e' => by
          match i, e, e' with
          | 0, e, e' => cases e; cases e'; exact hab
          | 1, e, e' => cases e; cases e'; exact .bool o
          | i + 2, e, e' => simp at e
        unfold Instr.lookup
        simp only [Sem.run_bind, run_underlying hu, Result.andThen_ok, getObj_run g1, Sem.run_pure, hck, hfe, q1]
        cases r with
        | none =>
          rw [q2 rfl]
          simp only [Sem.run_bind, hzr, Result.andThen_ok, Sem.run_pure]
          cases ok with
          | true => exact ⟨_, rfl, hpair false hz3⟩
          | false => exact ⟨_, rfl, hz3⟩
        | some rv =>
          obtain ⟨j, u, rfl, hu⟩ := q3 rv rfl
          cases ok with
          | true => exact ⟨_, rfl, hpair true hu⟩
          | false => exact ⟨_, rfl, hu⟩
      · cases e1
    · cases e1
  · cases e1

theorem updateS_ok (hr : HRel w R ι h) {t kt et : TypeId} {kd : Nat} (hu : P.underlying t = some (.map kt et)) (hkt : structKey P kt = some kd) {m k q : Opd} {x y z : Value} (hm : Rep w R ι (ev fr m) x) (hk : Rep w R ι (ev fr k) y) (hq : Rep w R ι (ev fr q) z)
    {v : V} (e1 : op1 fr h (.kput kd m k q) = some (v, h')) : v = .undef ∧ ∃ w', (Instr.mapUpdate t x y z).run P w = .ok () w' ∧ Post w R ι h w' R ι h' := by
  simp only [op1] at e1
  split at e1
  · rename_i id hid
    rw [hid] at hm
    cases hm with
    | mp _ loc hι =>
    split at e1
    · rename_i es hg
      split at e1
      · rename_i hc
        simp only [Bool.and_eq_true] at hc
        obtain ⟨hmay, hko⟩ := hc
        obtain ⟨es', hs, hh⟩ := map_some e1
        cases hh
        refine ⟨rfl, ?_⟩
        obtain ⟨hkk, hall⟩ := keysOk_spec hko
        obtain ⟨ents, clock, g1, g2, g3⟩ := hr.maps id es loc hg hι
        obtain ⟨_, l, hl⟩ := key_lit hkt hkk hk
        obtain ⟨law, hwide, _⟩ := law_of hkt
        have hck := law.check w false hl
        have hfe : (Instr.findKey kt y ents.toList).run P w = (Instr.findAsking kt y ents.toList).run P w := run_findKey_eq w hwide y ents.toList
        have hlowk : ∀ f ∈ h.floors, id < f → V.low f (ev fr k) = true ∧ V.low f (ev fr q) = true := fun f hf hlt => by
          have := List.all_eq_true.1 hmay f hf
          simp only [Bool.or_eq_true, decide_eq_true_eq, V.lows, Bool.and_eq_true, Bool.and_true] at this
          rcases this with h | h
          · omega
          · exact h
        rcases set_relS (v := ev fr q) hkt hkk hk es ents.toList 0 es' (entRel_of g2 g3) hall hs with ⟨f1, rfl⟩ | ⟨j, a, u, me, o, f1, f2, f3, f4, rfl⟩
        · refine ⟨{ w with heap := w.heap.setIfInBounds loc.b (.map (ents.push { key := y, val := z, born := clock }) (clock + 1)) }, ?_, Post.putM hr hg hι g1 (by simp [g2]) (fun i k' v' e => ?_) (fun f hf hlt p hp => ?_)⟩
          · unfold Instr.mapUpdate
            simp only [Sem.run_bind, run_underlying hu, Result.andThen_ok, getObj_run g1, hck, hfe, f1]
            exact setObj_run _ g1
          · rcases Nat.lt_or_ge i es.length with hi | hi
            · rw [List.getElem?_append_left hi] at e
              obtain ⟨me, a1, a2⟩ := g3 i k' v' e
              refine ⟨me, ?_, a2⟩
              rw [Array.getElem?_push, if_neg (by omega)]
              exact a1
            · rw [List.getElem?_append_right hi] at e
              have hi0 : i - es.length = 0 := by
                rcases Nat.eq_zero_or_pos (i - es.length) with h | h
                · exact h
                · rw [List.getElem?_eq_none (by simp; omega)] at e; cases e
              rw [hi0] at e
              simp only [List.getElem?_cons_zero, Option.some.injEq, Prod.mk.injEq] at e
              obtain ⟨rfl, rfl⟩ := e
              exact ⟨_, by rw [Array.getElem?_push, if_pos (by omega)], hk, hq⟩
          · rcases List.mem_append.1 hp with hp | hp
            · exact hr.lowM f hf id es loc hlt hg hι p hp
            · simp only [List.mem_singleton] at hp
              subst hp
              exact hlowk f hf hlt
        · have hj : j < ents.size := by
            rw [Array.getElem?_toList] at f3
            exact (Array.getElem?_eq_some_iff.1 f3).1
          have hstay : (Instr.keyThatStays (((ents[j]?).map (·.key)).getD y) y).run P w = .ok y w := by
            rw [Array.getElem?_toList] at f3
            rw [f3]
            simp only [Option.map_some, Option.getD_some, f4]
            exact law.stays w hl
          have hay : Rep w R ι a y := by
            obtain ⟨me2, a1, a2, _⟩ := g3 j a u f2
            rw [Array.getElem?_toList] at f3
            rw [a1] at f3
            cases f3
            rw [← f4]
            exact a2
          refine ⟨{ w with heap := w.heap.setIfInBounds loc.b (.map (ents.modify j fun e => { e with key := y, val := z }) clock) }, ?_, Post.putM hr hg hι g1 (by simp [g2]) (fun i k' v' e => ?_) (fun f hf hlt p hp => ?_)⟩
          · unfold Instr.mapUpdate
            rw [Nat.zero_add] at f1
            simp only [Sem.run_bind, run_underlying hu, Result.andThen_ok, getObj_run g1, hck, hfe, f1, hstay]
            exact setObj_run _ g1
          · by_cases hij : j = i
            · subst hij
              have hjl : j < es.length := by omega
              rw [List.getElem?_set_self hjl] at e
              simp only [Option.some.injEq, Prod.mk.injEq] at e
              obtain ⟨rfl, rfl⟩ := e
              obtain ⟨me2, a1, _⟩ := g3 j _ u f2
              exact ⟨_, by rw [Array.getElem?_modify, if_pos rfl, a1]; rfl, hay, hq⟩
            · rw [List.getElem?_set_ne hij] at e
              obtain ⟨me2, a1, a2⟩ := g3 i k' v' e
              exact ⟨me2, by rw [Array.getElem?_modify, if_neg hij]; exact a1, a2⟩
          · rcases List.mem_or_eq_of_mem_set hp with hp | rfl
            · exact hr.lowM f hf id es loc hlt hg hι p hp
            · refine ⟨(hr.lowM f hf id es loc hlt hg hι (a, u) (List.mem_of_getElem? f2)).1, (hlowk f hf hlt).2⟩
      · cases e1
    · cases e1
  · cases e1

theorem op1_ok {o : Oper} {ao : AOp} (hr : HRel w R ι h) (hG : GRel G w R ι) (hE : ERel w R ι fr a) (e : aop P G o = some ao) {v : V} (e1 : op1 fr h ao = some (v, h')) : Ok1 P a o w R ι h v h' := by
  cases ho : o.op with
  | call c => exact call_ok ho hr hG hE e e1
  | binOp op t x y s => exact binop_ok ho hr hG hE e e1
  | convert s t x => exact convert_ok ho hr hG hE e e1
  | move x =>
    unfold aop at e; simp only [ho] at e
    obtain ⟨y, hy, hh⟩ := map_some e
    cases hh; cases e1
    exact ⟨w, R, ι, Post.refl hr, .inl ⟨_, by simp [execOp, ho], ev_rel hG hE hy⟩⟩
  | assign x =>
    unfold aop at e; simp only [ho] at e
    obtain ⟨y, hy, hh⟩ := map_some e
    cases hh; cases e1
    exact ⟨w, R, ι, Post.refl hr, .inl ⟨_, by simp [execOp, ho], ev_rel hG hE hy⟩⟩
  | pick c x y =>
    unfold aop at e; simp only [ho] at e
    split at e
    · rename_i c' x' y' hc hx hy
      cases e
      have h1 := ev_rel hG hE hc
      have h2 := ev_rel hG hE hx
      have h3 := ev_rel hG hE hy
      simp only [op1] at e1
      split at e1
      · rename_i t ht
        cases e1
        rw [ht] at h1
        generalize hcv : a.eval c = cv at *
        cases h1
        refine ⟨w, R, ι, Post.refl hr, .inl ⟨if t then a.eval x else a.eval y, by simp [execOp, ho, hcv, asBool], ?_⟩⟩
        cases t
        · exact h3
        · exact h2
      · cases e1
    · cases e
  | alloc t =>
    unfold aop at e; simp only [ho] at e
    obtain ⟨z, hz, hh⟩ := map_some e
    cases hh; cases e1
    obtain ⟨w', ι', x, h1, h2, h3⟩ := alloc_ok (P := P) hr hz
    exact ok_val (s := Instr.alloc t true (.tuple #[])) (by unfold execOp; simp only [ho]) ⟨w', R, ι', x, h1, h2, h3⟩
  | box t x =>
    unfold aop at e; simp only [ho] at e
    obtain ⟨y, hy, hh⟩ := map_some e
    cases hh; cases e1
    obtain ⟨w', ι', x', h1, h2, h3⟩ := box_ok (P := P) (t := t) hr (ev_rel hG hE hy)
    exact ok_val (s := Instr.box t (a.eval x)) (by unfold execOp; simp only [ho]) ⟨w', R, ι', x', h1, h2, h3⟩
  | build t ps =>
    exact ok_pure hr (s := Instr.build t (ps.map fun (i, x) => (i, a.eval x))) (by unfold execOp; simp only [ho]) (built_ok hG hE ho e e1)
  | buildSlice t n ps =>
    unfold aop at e; simp only [ho] at e
    split at e
    · rename_i el hu
      split at e
      · rename_i z ie hz hi
        split at e
        · rename_i hc
          simp only [Bool.and_eq_true, decide_eq_true_eq] at hc
          obtain ⟨aps, haps, hh⟩ := map_some e
          cases hh
          simp only [op1] at e1
          obtain ⟨cs, hcs, hh⟩ := map_some e1
          cases hh
          obtain ⟨w', ι', x', h1, h2, h3⟩ := lit_ok (P := P) hr hG hE hu hz hi hc.1 hc.2 haps hcs
          refine ok_val ?_ ⟨w', R, ι', x', h1, h2, h3⟩
          unfold execOp; simp only [ho]
        · cases e
      · cases e
    · cases e
  | load t x =>
    unfold aop at e; simp only [ho] at e
    split at e
    · rename_i g i x' hg hi hx
      split at e
      · rename_i hc
        cases e
        simp only [op1] at e1
        obtain ⟨u, hu, hh⟩ := map_some e1
        cases hh
        cases hat : h.at (ev fr x') with
        | none => rw [hat] at hu; cases hu
        | some cs =>
          rw [hat] at hu
          obtain ⟨y, h1, h2⟩ := load_ok hr hg hi hc hat hu (ev_rel hG hE hx)
          exact ok_pure hr (s := Instr.loadAt t (a.eval x)) (by unfold execOp; simp only [ho]) ⟨rfl, y, h1, h2⟩
      · cases e
    · cases e
  | store t x y =>
    unfold aop at e; simp only [ho] at e
    split at e
    · rename_i i x' y' hi hx hy
      split at e
      · rename_i hpos
        cases e
        simp only [op1] at e1
        split at e1
        · rename_i id off hid
          split at e1
          · rename_i l hl
            split at e1
            · rename_i hc
              simp only [Bool.and_eq_true, decide_eq_true_eq] at hc
              cases e1
              have h1 := ev_rel hG hE hx
              rw [hid] at h1
              obtain ⟨w', h2, h3⟩ := store_ok (P := P) hr hi hpos hl h1 (ev_rel hG hE hy) hc.1.1 hc.1.2 hc.2
              exact ok_unit (s := Instr.storeAt t (a.eval x) (a.eval y)) (by unfold execOp; simp only [ho]) rfl ⟨w', R, ι, h2, h3⟩
            · cases e1
          · cases e1
        · cases e1
      · cases e
    · cases e
  | nilCheck x =>
    unfold aop at e; simp only [ho] at e
    obtain ⟨y, hy, hh⟩ := map_some e
    cases hh
    obtain ⟨rfl, z, h1, h2⟩ := nilchk_ok (P := P) ho (ev_rel hG hE hy) e1
    exact ⟨w, R, ι, Post.refl hr, .inl ⟨z, h1, h2⟩⟩
  | unOp op t x =>
    unfold aop at e; simp only [ho] at e
    obtain ⟨y, hy, hh⟩ := map_some e
    cases hh
    simp only [op1] at e1
    obtain ⟨u, hu, hh⟩ := map_some e1
    cases hh
    exact ok_pure hr (s := Op.unary op (a.eval x)) (by unfold execOp; simp only [ho]) ⟨rfl, un_ok (ev_rel hG hE hy) hu⟩
  | makeInterface t x =>
    unfold aop at e; simp only [ho] at e
    split at e
    · cases e
    · rename_i d hni hu
      obtain ⟨y, hy, hh⟩ := map_some e
      cases hh; cases e1
      refine ok_pure hr (s := Instr.makeInterface t (a.eval x)) (by unfold execOp; simp only [ho]) ⟨rfl, _, ?_, .ifc t _ _ (ev_rel hG hE hy)⟩
      simp only [Instr.makeInterface, Sem.run_bind, run_underlying hu, Result.andThen_ok]
      rfl
    · cases e
  | makeFunc f first caps =>
    unfold aop at e; simp only [ho] at e
    cases f with
    | func f =>
      simp only at e
      split at e
      · rename_i x y hx hy
        cases e; cases e1
        have h1 := opds_rel hG hE hx
        have h2 := opds_rel hG hE hy
        refine ok_pure hr (s := Instr.makeFunc (.func f) (first.map a.eval) (caps.map a.eval)) (by unfold execOp; simp only [ho]) ⟨rfl, _, rfl, ?_⟩
        have := Rep.fn (w := w) (R := R) (ι := ι) f _ _ _ _ h1.1 h2.1 h1.2 h2.2
        have ea : ∀ q : Array Operand, (q.toList.map a.eval).toArray = q.map a.eval := fun q => by rw [← Array.toList_map]
        rw [ea, ea] at this
        exact this
      · cases e
    | _ => simp only at e; cases e
  | makeSlice t l c =>
    unfold aop at e; simp only [ho] at e
    split at e
    · rename_i el hu
      split at e
      · rename_i z i l' c' hz hi hl hc
        split at e
        · cases e
          obtain ⟨w', ι', y, h1, h2, h3⟩ := mkslice_ok (P := P) (h' := h') hr hu hz hi (ev_rel hG hE hl) (ev_rel hG hE hc) e1
          exact ok_val (s := Instr.makeSlice t (a.eval l) (a.eval c)) (by unfold execOp; simp only [ho]) ⟨w', R, ι', y, h1, h2, h3⟩
        · cases e
      · cases e
    · cases e
  | slice t x lo hi mx =>
    have hex : execOp a.eval o = (do pure (.value (← Instr.sliceAt t (a.eval x) (lo.map a.eval) (hi.map a.eval) (mx.map a.eval))) : Sem Next) := by unfold execOp; simp only [ho]
    unfold aop at e; simp only [ho] at e
    split at e
    · rename_i x' lo' hi' hu hx hlo hhi hmx
      cases e
      have hm : mx = none := by
        cases mx with
        | none => rfl
        | some m => simp only [oopd] at hmx; cases hm' : opd G m <;> rw [hm'] at hmx <;> cases hmx
      subst hm
      exact ok_pure hr hex (sliceS_ok hG hE hu hx hlo hhi e1)
    · rename_i el x' lo' hi' mx' hu hx hlo hhi hmx
      split at e
      · rename_i hc
        cases e
        simp only [Bool.and_eq_true, Bool.or_eq_true, decide_eq_true_eq] at hc
        exact ok_pure hr hex (slice_ok hr hG hE hu hc.1 hx hlo hhi hmx (by
          rcases hc.2 with h | h
          · exact .inl (by simpa using h)
          · exact .inr h) e1)
      · cases e
    · rename_i n el x' lo' hi' hu hx hlo hhi hmx
      have hm : mx = none := by
        cases mx with
        | none => rfl
        | some m => simp only [oopd] at hmx; cases hm' : opd G m <;> rw [hm'] at hmx <;> cases hmx
      subst hm
      split at e
      · rename_i h0
        cases e
        exact ok_pure hr hex (sliceA_ok hG hE hu hx h0 hlo hhi e1)
      · cases e
    · cases e
  | fieldAddr t x k =>
    unfold aop at e; simp only [ho] at e
    split at e
    · rename_i fs x' hu hx
      split at e
      · rename_i f hf
        split at e
        · cases e
        · rename_i h0
          cases e
          exact ok_pure hr (s := Instr.fieldAt t (a.eval x) k) (by unfold execOp; simp only [ho]) (faddr_ok hu hf h0 (ev_rel hG hE hx) e1)
      · cases e
    · cases e
  | field t x k =>
    unfold aop at e; simp only [ho] at e
    split at e
    · rename_i fs x' hu hx
      split at e
      · rename_i f hf
        split at e
        · rename_i g hg
          split at e
          · cases e
            exact ok_pure hr (s := Instr.field t (a.eval x) k) (by unfold execOp; simp only [ho]) (field_ok hu hf hg (ev_rel hG hE hx) e1)
          · cases e
        · cases e
      · cases e
    · cases e
  | indexAddr t x i =>
    unfold aop at e; simp only [ho] at e
    split at e
    · rename_i el x' i' hu hx hi
      split at e
      · rename_i h0
        cases e
        exact ok_pure hr (s := Instr.indexAt t (a.eval x) (a.eval i)) (by unfold execOp; simp only [ho]) (iaddr_ok hu h0 (ev_rel hG hE hx) (ev_rel hG hE hi) e1)
      · cases e
    · rename_i n el x' i' hu hx hi
      split at e
      · rename_i h0
        cases e
        exact ok_pure hr (s := Instr.indexAt t (a.eval x) (a.eval i)) (by unfold execOp; simp only [ho]) (iaddrA_ok hu h0 (ev_rel hG hE hx) (ev_rel hG hE hi) e1)
      · cases e
    · cases e
  | index t x i =>
    unfold aop at e; simp only [ho] at e
    split at e
    · rename_i x' i' hu hx hi
      cases e
      exact ok_pure hr (s := Instr.index t (a.eval x) (a.eval i)) (by unfold execOp; simp only [ho]) (index_ok hu (ev_rel hG hE hx) (ev_rel hG hE hi) e1)
    · cases e
  | extract x i =>
    unfold aop at e; simp only [ho] at e
    obtain ⟨y, hy, hh⟩ := map_some e
    cases hh
    exact ok_pure hr (s := Instr.extract (a.eval x) i) (by unfold execOp; simp only [ho]) (extract_ok (ev_rel hG hE hy) e1)
  | typeAssert x d t ok =>
    unfold aop at e; simp only [ho] at e
    split at e
    · cases e
    · rename_i ty x' hni hu hx
      split at e
      · rename_i hk
        obtain ⟨z, hz, hh⟩ := map_some e
        cases hh
        subst hk
        exact ok_pure hr (s := Instr.typeAssert (a.eval x) d t true) (by unfold execOp; simp only [ho]) (tassert_ok hu hni (fun _ => hz) (ev_rel hG hE hx) e1)
      · cases e
        rename_i hk
        simp only [Bool.not_eq_true] at hk
        subst hk
        exact ok_pure hr (s := Instr.typeAssert (a.eval x) d t false) (by unfold execOp; simp only [ho]) (tassert_ok hu hni (fun hk => by cases hk) (ev_rel hG hE hx) e1)
    · cases e
  | makeMap t r =>
    unfold aop at e; simp only [ho] at e
    split at e
    · rename_i kt et hu
      cases e; cases e1
      refine ok_val (s := Instr.makeMap t none) (by unfold execOp; simp only [ho]; rfl) ⟨{ w with heap := w.heap.push (.map #[] 0) }, R, _, .map (some w.heap.size), ?_, Post.allocM hr (clock := 0) rfl rfl rfl rfl, .mp _ ⟨w.heap.size, 0⟩ (named_same ..)⟩
      simp [Instr.makeMap, newObj, Sem.run]
    · cases e
  | lookup t m k ok =>
    unfold aop at e; simp only [ho] at e
    split at e
    · rename_i kt et m' k' hu hm hk
      split at e
      · rename_i kd hkt
        obtain ⟨z, hz, hh⟩ := map_some e
        cases hh
        exact ok_pure hr (s := Instr.lookup t (a.eval m) (a.eval k) ok) (by unfold execOp; simp only [ho]) (lookup_ok hr hu hkt hz (ev_rel hG hE hm) (ev_rel hG hE hk) e1)
      · obtain ⟨kd, hkt, e⟩ := Option.bind_eq_some_iff.1 e
        obtain ⟨z, hz, hh⟩ := map_some e
        cases hh
        exact ok_pure hr (s := Instr.lookup t (a.eval m) (a.eval k) ok) (by unfold execOp; simp only [ho]) (lookupS_ok hr hu hkt hz (ev_rel hG hE hm) (ev_rel hG hE hk) e1)
    · cases e
  | mapUpdate t m k x =>
    unfold aop at e; simp only [ho] at e
    split at e
    · rename_i kt et m' k' x' hu hm hk hx
      split at e
      · rename_i kd hkt
        cases e
        obtain ⟨rfl, w', h1, h2⟩ := update_ok hr hu hkt (ev_rel hG hE hm) (ev_rel hG hE hk) (ev_rel hG hE hx) e1
        exact ok_unit (s := Instr.mapUpdate t (a.eval m) (a.eval k) (a.eval x)) (by unfold execOp; simp only [ho]) rfl ⟨w', R, ι, h1, h2⟩
      · obtain ⟨kd, hkt, hh⟩ := map_some e
        cases hh
        obtain ⟨rfl, w', h1, h2⟩ := updateS_ok hr hu hkt (ev_rel hG hE hm) (ev_rel hG hE hk) (ev_rel hG hE hx) e1
        exact ok_unit (s := Instr.mapUpdate t (a.eval m) (a.eval k) (a.eval x)) (by unfold execOp; simp only [ho]) rfl ⟨w', R, ι, h1, h2⟩
    · cases e
  | insert t m k x =>
    unfold aop at e; simp only [ho] at e
    split at e
    · rename_i kt et m' k' x' hu hm hk hx
      split at e
      · rename_i kd hkt
        cases e
        obtain ⟨rfl, w', h1, h2⟩ := update_ok hr hu hkt (ev_rel hG hE hm) (ev_rel hG hE hk) (ev_rel hG hE hx) e1
        exact ok_unit (s := Instr.mapUpdate t (a.eval m) (a.eval k) (a.eval x)) (by unfold execOp; simp only [ho]) rfl ⟨w', R, ι, h1, h2⟩
      · obtain ⟨kd, hkt, hh⟩ := map_some e
        cases hh
        obtain ⟨rfl, w', h1, h2⟩ := updateS_ok hr hu hkt (ev_rel hG hE hm) (ev_rel hG hE hk) (ev_rel hG hE hx) e1
        exact ok_unit (s := Instr.mapUpdate t (a.eval m) (a.eval k) (a.eval x)) (by unfold execOp; simp only [ho]) rfl ⟨w', R, ι, h1, h2⟩
    · cases e
  | panic x =>
    unfold aop at e; simp only [ho] at e
    obtain ⟨y, hy, hh⟩ := map_some e
    cases hh; cases e1
  | defer c =>
    unfold aop at e; simp only [ho] at e
    split at e
    · obtain ⟨y, hy, hh⟩ := map_some e
      cases hh; cases e1
    · cases e
  | _ => unfold aop at e; simp only [ho] at e; cases e
end
end Go.Ab
