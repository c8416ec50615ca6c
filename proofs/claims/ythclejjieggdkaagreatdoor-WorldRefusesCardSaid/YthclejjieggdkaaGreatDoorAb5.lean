/- The abstract machine, part 5. Calls whose answers are known, with their arguments: closed calls, evaluated once; functions that were walked. Functions whose code leaves a choice open: every order is run, and all come to the same. -/
import Derived.Test.YthclejjieggdkaaGreatDoorAb4
namespace Go.Ab

/-- the functions in dom answer as the table says -/
def factsOrc (dom : Nat → Bool) (tbl : Nat → List V → Option V) (f : Nat) : Option (List V → Heap → Option (Out × Heap)) :=
  match dom f with
  | true => some fun a h => match tbl f a with
    | some u => some (.ret u, h)
    | none => none
  | false => none

/-- what the table says is so -/
def FactsOk (C : Ctx) (tbl : Nat → List V → Option V) : Prop := ∀ f a u, tbl f a = some u → V.lows 0 a = true ∧ V.low 0 u = true ∧ ∃ n h1, call C n f a Heap.empty = some (.ret u, h1)

theorem facts_ok {P : Program} {G : Nat → Option V} {C : Ctx} (hK : CodeOk P G C) (hG0 : ∀ g v, G g = some v → V.low 0 v = true) {dom : Nat → Bool} {tbl : Nat → List V → Option V} (ht : FactsOk C tbl) :
    ∀ f g, factsOrc dom tbl f = some g → CallsOk P G (fun f' args h => if f' = f then g args h else none) := by
  intro f g hg f' args h out h' e
  unfold factsOrc at hg
  split at hg
  · cases hg
    simp only at e
    by_cases hff : f' = f
    · rw [if_pos hff] at e
      subst hff
      split at e
      · rename_i u hu
        cases e
        obtain ⟨hla, hlu, n, h1, e0⟩ := ht f' args u hu
        obtain ⟨hfn, hc⟩ := call_calls hK draws_ok n f' args Heap.empty _ _ e0
        refine ⟨hfn, fun w R ι xs hr hG hx => ?_⟩
        have hι0 : ∀ id, id < 0 → (fun _ : Nat => (none : Option Loc)) id = ι id := fun id hid => absurd hid (Nat.not_lt_zero _)
        refine Calls.mono (hc w R (fun _ => none) xs (start_rel' hr.lt) (fun g v hv => (hG g v hv).forget (n := 0) hι0 (hG0 g v hv))
          ⟨hx.1, fun i v x ev ex => (hx.2 i v x ev ex).forget (n := 0) hι0 (low_at hla ev)⟩) fun en w' hen => ?_
        obtain ⟨R', ι', hp, ho⟩ := hen
        have hnone : ∀ id, (Heap.empty).get id = none := fun id => by simp [Heap.get, Heap.empty]
        have hkeep : ∀ b, b < w.heap.size → w'.heap[b]? = w.heap[b]? := fun b hb => hp.keep b hb fun id blk loc e' e2 => by cases e2
        have hnew : ∀ b, R' b → R b ∨ w.heap.size ≤ b := fun b hb => by
          rcases hp.news b hb with h | h | ⟨id, blk, loc, e1, e2, _⟩
          · exact .inl h
          · exact .inr h
          · cases e2
        have hmono : ∀ {v x}, Rep w R ι v x → Rep w' R' ι v x := fun hv => hv.mono hp.sub (fun b hb => hkeep b (hr.lt b hb)) (fun _ _ h => h)
        refine ⟨R', ι, ⟨⟨hr.len, hr.none, hp.rel.lt, fun id l loc e e' => ?_, fun id es loc e e' => (hr.maps id es loc e e').move (hkeep _ (hr.blk_lt e e')) hmono, hr.inj, fun id blk loc e e' hR => ?_, hr.low, hr.floor, hr.lowM⟩, hp.sub, fun _ _ => rfl, hp.size, hp.os, hp.tape, hp.output, fun b hb _ => hkeep b hb,
          fun id blk loc e e' => .inr ⟨id, blk, loc, e, e', rfl⟩, fun _ _ _ => rfl, Nat.le_refl _, rfl, fun b hb => (hnew b hb).elim .inl fun h => .inr (.inl h)⟩, ?_⟩
        · obtain ⟨cur, t, g1, g2, g3, g4, g5⟩ := hr.cells id l loc e e'
          refine ⟨cur, t, ?_, g2, g3, g4, fun i v ev => ?_⟩
          · rw [hkeep _ (Array.getElem?_eq_some_iff.1 g1).1]; exact g1
          · obtain ⟨x, h1, h2⟩ := g5 i v ev
            exact ⟨x, h1, hmono h2⟩
        · rcases hnew _ hR with h | h
          · exact hr.apart id blk loc e e' h
          · have := hr.blk_lt e e'
            omega
        · cases en with
          | returned v => exact (show Rep w' R' ι' u v from ho).forget (n := 0) (fun id hid => absurd hid (Nat.not_lt_zero _)) hlu
          | panicked ch => exact ho.elim
          | outgrown => exact ho.elim
      · cases e
    · rw [if_neg hff] at e; cases e
  · cases hg
end Go.Ab

namespace Go.Ab

/-! ### all orders of a region -/

def linsGo (m : Region.Mode) (ops : Array Oper) : Nat → Array Bool → List Nat → List (List Nat)
  | 0, _, acc => [acc.reverse]
  | fuel + 1, listed, acc =>
    match (List.range ops.size).filter fun i => !listed.getD i true && ((ops[i]?).map (·.after.all fun e => !Region.binds m e || listed.getD e.on false)).getD false with
    | [] => [acc.reverse]
    | i :: rs => (i :: rs).flatMap fun i => linsGo m ops fuel (listed.setIfInBounds i true) (i :: acc)
def lins (m : Region.Mode) (ops : Array Oper) : List (List Nat) := linsGo m ops ops.size (Array.replicate ops.size false) []

theorem lins_go (m : Region.Mode) (ops : Array Oper) : ∀ (fuel t : Nat) (listed : Array Bool) (acc : List Nat), Region.linearise.go m ops fuel t listed acc ∈ linsGo m ops fuel listed acc
  | 0, t, listed, acc => by simp [Region.linearise.go, linsGo]
  | fuel + 1, t, listed, acc => by
    unfold Region.linearise.go linsGo
    simp only
    generalize (List.range ops.size).filter (fun i => !listed.getD i true && ((ops[i]?).map (·.after.all fun e => !Region.binds m e || listed.getD e.on false)).getD false) = rs
    cases rs with
    | nil => simp
    | cons i rs =>
      have hl : t % (i :: rs).length < (i :: rs).length := Nat.mod_lt _ (by simp)
      rw [List.getElem?_eq_getElem hl]
      simp only
      exact List.mem_flatMap.2 ⟨_, List.getElem_mem hl, lins_go m ops fuel _ _ _⟩
theorem lins_mem (m : Region.Mode) (ops : Array Oper) (t : Nat) : Region.linearise m ops t ∈ lins m ops := lins_go ..

/-- all orders that may be drawn -/
def orders (mx : Bool) (ops : Array Oper) : List (List Nat) :=
  if mx || !Region.departs ops then lins .any ops else lins .text ops ++ lins .gc ops
theorem orders_mem (mx : Bool) (ops : Array Oper) (t : Nat) : Region.schedule mx ops t ∈ orders mx ops := by
  unfold Region.schedule orders
  split
  · exact lins_mem ..
  · split
    · exact List.mem_append_left _ (lins_mem ..)
    · exact List.mem_append_right _ (lins_mem ..)

def mapAll {α β : Type} (f : α → Option β) : List α → Option (List β)
  | [] => some []
  | a :: l => match f a, mapAll f l with
    | some b, some r => some (b :: r)
    | _, _ => none
theorem mapAll_mem {α β : Type} {f : α → Option β} : ∀ {l : List α} {r : List β}, mapAll f l = some r → ∀ a ∈ l, ∃ b ∈ r, f a = some b
  | [], _, _, a, ha => by cases ha
  | x :: l, r, e, a, ha => by
    unfold mapAll at e
    split at e
    · rename_i b r' h1 h2
      cases e
      rcases List.mem_cons.1 ha with rfl | ha
      · exact ⟨b, List.mem_cons_self, h1⟩
      · obtain ⟨c, hc, h3⟩ := mapAll_mem h2 a ha
        exact ⟨c, List.mem_cons_of_mem _ hc, h3⟩
    · cases e

section
variable (P : Program) (G : Nat → Option V)

/-- the codes, one for each order -/
def regionAll (ops : Array Oper) (draw : Bool) : Option (List ACode) :=
  if draw then
    match aops P G ops.toList with
    | none => none
    | some as => (mapAll (plainSteps { ops := ops.toList, aops := as, anc := [] }) (orders (P.follows .mixedOrders) ops)).map fun l => l.map .region
  else none

/-- two stores that may come in either order stand in it -/
def hasApart : ACode → Bool
  | .region l => l.any fun s => match s.op with
    | .apart _ _ => true
    | _ => false
  | _ => false

def acodes : Code → Option (List ACode)
  | .region id ops draw => match acode P G (.region id ops draw) with
    | some c => if hasApart c then regionAll P G ops draw else some [c]
    | none => regionAll P G ops draw
  | .seq a b => match acodes a, acodes b with
    | some [x], some ys => some (ys.map (.seq x ·))
    | some xs, some [y] => some (xs.map (.seq · y))
    | _, _ => none
  | .cond c a b => match opd G c, acodes a, acodes b with
    | some c, some [x], some ys => some (ys.map (.cond c x ·))
    | some c, some xs, some [y] => some (xs.map (.cond c · y))
    | _, _, _ => none
  | .block id c => (acodes c).map fun l => l.map (.block id ·)
  | c => (acode P G c).map fun x => [x]
end

section
variable {P : Program} {G : Nat → Option V} {w w' : World} {R R' : Nat → Prop} {ι ι' : Nat → Option Loc} {h h' : Heap} {fr : List V} {a : Act}

/-- one of the ends that there may be -/
def QAny (G : Nat → Option V) (w : World) (R : Nat → Prop) (ι : Nat → Option Loc) (h : Heap) (T : Ex → St → Prop) (e : Exit) (a : Act) (w' : World) : Prop :=
  ∃ ex st', T ex st' ∧ QOf G w R ι h ex st' e a w'

/-- all codes come to an end that is asked for -/
def AllTo (C : Ctx) (n : Nat) (cs : List ACode) (st : St) (T : Ex → St → Prop) : Prop := ∀ c' ∈ cs, ∃ ex st', exec C n c' st = some (ex, st') ∧ T ex st'

theorem QAny.trans {T : Ex → St → Prop} (p : Post w R ι h w' R' ι' h') {e : Exit} {a : Act} {w2 : World} (q : QAny G w' R' ι' h' T e a w2) : QAny G w R ι h T e a w2 := by
  obtain ⟨ex, st', h1, h2⟩ := q
  exact ⟨ex, st', h1, h2.trans p⟩

theorem single_ok {C : Ctx} (hK : CodeOk P G C) (hD : DrawOk P G C) {n : Nat} {c : Code} {c' : ACode} (hc : acode P G c = some c') {st : St} {T : Ex → St → Prop} (hT : AllTo C n [c'] st T) (hS : SRel G st a w R ι) :
    c.wp P (QAny G w R ι st.h T) a w := by
  obtain ⟨ex, st', h1, h2⟩ := hT c' List.mem_cons_self
  exact wp_mono ((exec_ok hK hD n).code c c' st ex st' h1 hc a w R ι hS) fun _ _ _ q => ⟨ex, st', h2, q⟩

theorem regionAll_ok {C : Ctx} (hK : CodeOk P G C) (hD : DrawOk P G C) {n : Nat} {id : Nat} {ops : Array Oper} {draw : Bool} {cs : List ACode} (hc : regionAll P G ops draw = some cs) {st : St} {T : Ex → St → Prop} (hT : AllTo C n cs st T) (hS : SRel G st a w R ι) :
    (Code.region id ops draw).wp P (QAny G w R ι st.h T) a w := by
  unfold regionAll at hc
  cases draw with
  | false => cases hc
  | true =>
    simp only [if_true] at hc
    split at hc
    · cases hc
    · rename_i as has
      obtain ⟨ls, hls, rfl⟩ := map_some hc
      refine wp_region_draw fun t => ?_
      obtain ⟨ss, hss, hp⟩ := mapAll_mem hls _ (orders_mem (P.follows .mixedOrders) ops t)
      obtain ⟨ex, st', h1, h2⟩ := hT (.region ss) (List.mem_map.2 ⟨ss, hss, rfl⟩)
      cases n with
      | zero => simp [exec] at h1
      | succ n =>
        simp only [exec] at h1
        obtain ⟨st1, e1, rfl⟩ := wiped_some h1
        have hC : CallsOk P G (callF C (exec C n)) := callF_ok hK (exec_ok hK hD n).code
        have hr1 : HRel { w with drawn := w.drawn + 1 } R ι st.h := hS.heap.same rfl
        have hp1 : Post w R ι st.h { w with drawn := w.drawn + 1 } R ι st.h := Post.same hS.heap rfl rfl rfl rfl
        have hS1 : SRel G st a { w with drawn := w.drawn + 1 } R ι := ⟨hr1, hS.glob.keep hS.heap hp1, hS.fr.keep hS.heap hp1, hS.ds.keep hS.heap hp1⟩
        exact wpOps_mono (fun _ _ _ q => ⟨_, _, h2, (q.wipe ss).trans hp1⟩) _ _ _ (plain_ok hC (r := { ops := ops.toList, aops := as, anc := [] }) rfl has _ ss st a _ R ι ex st1 hp e1 hS1)

/-- what all these codes come to the code may come to -/
def Toward (P : Program) (G : Nat → Option V) (C : Ctx) (c : Code) (cs : List ACode) : Prop := cs ≠ [] ∧
    ∀ (n : Nat) (st : St) (T : Ex → St → Prop), AllTo C n cs st T → ∀ (a : Act) (w : World) (R : Nat → Prop) (ι : Nat → Option Loc), SRel G st a w R ι → c.wp P (QAny G w R ι st.h T) a w
theorem acodes_ok {C : Ctx} (hK : CodeOk P G C) (hD : DrawOk P G C) : ∀ (c : Code) (cs : List ACode), acodes P G c = some cs → Toward P G C c cs := by
  have one : ∀ (c : Code) (cs : List ACode), (acode P G c).map (fun x => [x]) = some cs → Toward P G C c cs := by
    intro c cs hc
    obtain ⟨c', h1, rfl⟩ := map_some hc
    exact ⟨by simp, fun n st T hT a w R ι hS => single_ok hK hD h1 hT hS⟩
  have zero : ∀ {cs : List ACode} {st : St} {T : Ex → St → Prop}, cs ≠ [] → AllTo C 0 cs st T → False := fun {cs} {st} {T} hne h => by
    cases cs with
    | nil => exact hne rfl
    | cons x cs => obtain ⟨_, _, h1, _⟩ := h x List.mem_cons_self; simp [exec] at h1
  have seqs : ∀ (x y : Code) (xs ys cs : List ACode), Toward P G C x xs → Toward P G C y ys → (∀ x' ∈ xs, ∀ y' ∈ ys, ACode.seq x' y' ∈ cs) → cs ≠ [] → ∀ (n : Nat) (st : St) (T : Ex → St → Prop), AllTo C n cs st T → ∀ (a : Act) (w : World) (R : Nat → Prop) (ι : Nat → Option Loc), SRel G st a w R ι → (Code.seq x y).wp P (QAny G w R ι st.h T) a w := by
    intro x y xs ys cs hx hy hmem hcs n st T hT a w R ι hS
    obtain ⟨hxn, ihx⟩ := hx
    obtain ⟨hyn, ihy⟩ := hy
    cases n with
    | zero => exact (zero hcs hT).elim
    | succ n =>
      refine wp_seq ?_
      refine wp_mono (ihx n st (fun ex st1 => match ex with
        | .nrm => AllTo C n ys st1 T
        | ex => T ex st1) (fun x' hx' => ?_) a w R ι hS) fun en a1 w1 hq => ?_
      · obtain ⟨y0, hy0⟩ := List.exists_mem_of_ne_nil ys hyn
        obtain ⟨ex0, st0, h0, t0⟩ := hT _ (hmem x' hx' y0 hy0)
        simp only [exec] at h0
        cases h1 : exec C n x' st with
        | none => rw [h1] at h0; cases h0
        | some q =>
          obtain ⟨ex1, st1⟩ := q
          rw [h1] at h0
          refine ⟨ex1, st1, rfl, ?_⟩
          cases ex1 with
          | nrm =>
            intro y' hy'
            obtain ⟨ex2, st2, h2, t2⟩ := hT _ (hmem x' hx' y' hy')
            simp only [exec, h1] at h2
            exact ⟨ex2, st2, h2, t2⟩
          | _ => cases h0; exact t0
      · obtain ⟨ex1, st1, hT1, hq⟩ := hq
        have hq0 := hq
        obtain ⟨R1, ι1, hp, hg, hd, hen⟩ := hq
        cases ex1 with
        | nrm =>
          obtain ⟨rfl, hE⟩ := hen
          exact wp_mono (ihy n st1 T hT1 a1 w1 R1 ι1 ⟨hp.rel, hg, hE, hd⟩) fun _ _ _ q => q.trans hp
        | exit i => obtain ⟨rfl, _⟩ := hen; exact ⟨_, _, hT1, hq0⟩
        | goto l => obtain ⟨rfl, _⟩ := hen; exact ⟨_, _, hT1, hq0⟩
        | ret => obtain ⟨rfl, _⟩ := hen; exact ⟨_, _, hT1, hq0⟩
        | pan v => obtain ⟨x, rfl, _⟩ := hen; exact ⟨_, _, hT1, hq0⟩
  have conds : ∀ (c0 : Operand) (o : Opd) (x y : Code) (xs ys cs : List ACode), opd G c0 = some o → Toward P G C x xs → Toward P G C y ys → (∀ x' ∈ xs, ∀ y' ∈ ys, ACode.cond o x' y' ∈ cs) → cs ≠ [] → ∀ (n : Nat) (st : St) (T : Ex → St → Prop), AllTo C n cs st T → ∀ (a : Act) (w : World) (R : Nat → Prop) (ι : Nat → Option Loc), SRel G st a w R ι → (Code.cond c0 x y).wp P (QAny G w R ι st.h T) a w := by
    intro c0 o x y xs ys cs ho hx hy hmem hcs n st T hT a w R ι hS
    obtain ⟨hxn, ihx⟩ := hx
    obtain ⟨hyn, ihy⟩ := hy
    cases n with
    | zero => exact (zero hcs hT).elim
    | succ n =>
      obtain ⟨x0, hx0⟩ := List.exists_mem_of_ne_nil xs hxn
      obtain ⟨y0, hy0⟩ := List.exists_mem_of_ne_nil ys hyn
      obtain ⟨ex0, st0, h0, t0⟩ := hT _ (hmem x0 hx0 y0 hy0)
      simp only [exec] at h0
      split at h0
      · rename_i t ht
        have hv := ev_rel hS.glob hS.fr ho
        rw [ht] at hv
        have hcv : a.eval c0 = .bool t := by
          generalize a.eval c0 = cv at hv
          cases hv; rfl
        refine wp_cond hcv ?_
        cases t with
        | true =>
          refine ihx n st T (fun x' hx' => ?_) a w R ι hS
          obtain ⟨ex2, st2, h2, t2⟩ := hT _ (hmem x' hx' y0 hy0)
          simp only [exec, ht, if_true] at h2
          exact ⟨ex2, st2, h2, t2⟩
        | false =>
          refine ihy n st T (fun y' hy' => ?_) a w R ι hS
          obtain ⟨ex2, st2, h2, t2⟩ := hT _ (hmem x0 hx0 y' hy')
          simp only [exec, ht, Bool.false_eq_true, if_false] at h2
          exact ⟨ex2, st2, h2, t2⟩
      · cases h0
  have ne_map : ∀ {α : Type} {f : α → ACode} {l : List α}, l ≠ [] → l.map f ≠ [] := fun {α f l} h => by simpa using h
  intro c
  induction c with
  | skip => exact one _
  | label l => exact one _
  | exit i => exact one _
  | goto l => exact one _
  | ret => exact one _
  | refuse s => exact one _
  | rangeFunc x y z u => exact one _
  | loop x _ => exact one _
  | scope x _ => exact one _
  | region id ops d =>
    intro cs hc
    have all : regionAll P G ops d = some cs → Toward P G C (.region id ops d) cs := by
      intro hc
      refine ⟨?_, fun n st T hT a w R ι hS => regionAll_ok hK hD hc hT hS⟩
      unfold regionAll at hc
      split at hc
      · split at hc
        · cases hc
        · obtain ⟨ls, hls, rfl⟩ := map_some hc
          obtain ⟨b, hb, _⟩ := mapAll_mem hls _ (orders_mem (P.follows .mixedOrders) ops 0)
          intro h0
          have : ls = [] := by simpa using h0
          rw [this] at hb; cases hb
      · cases hc
    unfold acodes at hc
    split at hc
    · rename_i c' h1
      split at hc
      · exact all hc
      · cases hc
        exact ⟨by simp, fun n st T hT a w R ι hS => single_ok hK hD h1 hT hS⟩
    · exact all hc
  | seq x y ihx0 ihy0 =>
    intro cs hc
    unfold acodes at hc
    split at hc
    · rename_i x' ys hx hy
      cases hc
      have hyn := (ihy0 ys hy).1
      exact ⟨ne_map hyn, seqs x y [x'] ys _ (ihx0 _ hx) (ihy0 _ hy) (fun x2 h2 y' hy' => by rw [List.mem_singleton] at h2; subst h2; exact List.mem_map.2 ⟨y', hy', rfl⟩) (ne_map hyn)⟩
    · rename_i xs y' _ hx hy
      cases hc
      have hxn := (ihx0 xs hx).1
      exact ⟨ne_map hxn, seqs x y xs [y'] _ (ihx0 _ hx) (ihy0 _ hy) (fun x2 h2 y2 hy2 => by rw [List.mem_singleton] at hy2; subst hy2; exact List.mem_map.2 ⟨x2, h2, rfl⟩) (ne_map hxn)⟩
    · cases hc
  | cond c0 x y ihx0 ihy0 =>
    intro cs hc
    unfold acodes at hc
    split at hc
    · rename_i o x' ys ho hx hy
      cases hc
      have hyn := (ihy0 ys hy).1
      exact ⟨ne_map hyn, conds c0 o x y [x'] ys _ ho (ihx0 _ hx) (ihy0 _ hy) (fun x2 h2 y' hy' => by rw [List.mem_singleton] at h2; subst h2; exact List.mem_map.2 ⟨y', hy', rfl⟩) (ne_map hyn)⟩
    · rename_i o xs y' _ ho hx hy
      cases hc
      have hxn := (ihx0 xs hx).1
      exact ⟨ne_map hxn, conds c0 o x y xs [y'] _ ho (ihx0 _ hx) (ihy0 _ hy) (fun x2 h2 y2 hy2 => by rw [List.mem_singleton] at hy2; subst hy2; exact List.mem_map.2 ⟨x2, h2, rfl⟩) (ne_map hxn)⟩
    · cases hc
  | block id x ihx0 =>
    intro cs hc
    unfold acodes at hc
    obtain ⟨xs, hx, rfl⟩ := map_some hc
    obtain ⟨hxn, ihx⟩ := ihx0 xs hx
    refine ⟨ne_map hxn, fun n st T hT a w R ι hS => ?_⟩
    cases n with
    | zero => exact (zero (ne_map hxn) hT).elim
    | succ n =>
      refine wp_block ?_
      refine wp_mono (ihx n st (fun ex st1 => match ex with
        | .exit i => T (if i = id then .nrm else .exit i) st1
        | ex => T ex st1) (fun x' hx' => ?_) a w R ι hS) fun en a1 w1 hq => ?_
      · obtain ⟨ex0, st0, h0, t0⟩ := hT _ (List.mem_map.2 ⟨x', hx', rfl⟩)
        simp only [exec] at h0
        cases h1 : exec C n x' st with
        | none => rw [h1] at h0; cases h0
        | some q =>
          obtain ⟨ex1, st1⟩ := q
          rw [h1] at h0
          refine ⟨ex1, st1, rfl, ?_⟩
          cases ex1 <;> (cases h0; exact t0)
      · obtain ⟨ex1, st1, hT1, hq⟩ := hq
        have hq0 := hq
        obtain ⟨R1, ι1, hp, hg, hd, hen⟩ := hq
        cases ex1 with
        | nrm => obtain ⟨rfl, _⟩ := hen; exact ⟨_, _, hT1, hq0⟩
        | exit i =>
          obtain ⟨rfl, hE⟩ := hen
          simp only [Exit.inBlock]
          simp only at hT1
          by_cases hi : i = id
          · rw [if_pos hi] at hT1 ⊢
            exact ⟨_, _, hT1, R1, ι1, hp, hg, hd, rfl, hE⟩
          · rw [if_neg hi] at hT1 ⊢
            exact ⟨_, _, hT1, hq0⟩
        | goto l => obtain ⟨rfl, _⟩ := hen; exact ⟨_, _, hT1, hq0⟩
        | ret => obtain ⟨rfl, _⟩ := hen; exact ⟨_, _, hT1, hq0⟩
        | pan v => obtain ⟨x, rfl, _⟩ := hen; exact ⟨_, _, hT1, hq0⟩

/-! ### blocks given up -/

/-- the same blocks, but for some of the first k that are given up -/
structure Fewer (k : Nat) (l m : List (Option Blk)) : Prop where
  len : m.length = l.length
  at' : ∀ i, m[i]? = l[i]? ∨ (i < k ∧ m[i]? = some none)

theorem Fewer.refl (k : Nat) (l : List (Option Blk)) : Fewer k l l := ⟨rfl, fun _ => .inl rfl⟩
theorem Fewer.trans {k : Nat} {l m n : List (Option Blk)} (h : Fewer k l m) (g : Fewer k m n) : Fewer k l n := ⟨g.len.trans h.len, fun i => by
  rcases g.at' i with e | e
  · rcases h.at' i with e' | e'
    · exact .inl (e.trans e')
    · exact .inr ⟨e'.1, e.trans e'.2⟩
  · exact .inr e⟩
theorem Fewer.cons {k : Nat} {l m : List (Option Blk)} (a : Option Blk) (h : Fewer (k - 1) l m) : Fewer k (a :: l) (a :: m) := ⟨by simp [h.len], fun i => by
  cases i with
  | zero => exact .inl rfl
  | succ i =>
    simp only [List.getElem?_cons_succ]
    rcases h.at' i with e | e
    · exact .inl e
    · exact .inr ⟨by have := e.1; omega, e.2⟩⟩
theorem Fewer.none {k : Nat} {l m : List (Option Blk)} (a : Option Blk) (hk : 0 < k) (h : Fewer (k - 1) l m) : Fewer k (a :: l) (none :: m) := ⟨by simp [h.len], fun i => by
  cases i with
  | zero => exact .inr ⟨hk, rfl⟩
  | succ i =>
    simp only [List.getElem?_cons_succ]
    rcases h.at' i with e | e
    · exact .inl e
    · exact .inr ⟨by have := e.1; omega, e.2⟩⟩

theorem Post.fewer {bl : List (Option Blk)} (p : Post w R ι h w' R' ι' h') (hf : Fewer (h'.next - h.next) h'.bl bl) : Post w R ι h w' R' ι' { h' with bl := bl } := by
  have hget : ∀ id blk, ({ h' with bl := bl } : Heap).get id = some blk → h'.get id = some blk := fun id blk e => by
    unfold Heap.get at e ⊢
    simp only at e
    split at e
    · rename_i hi
      rw [if_pos hi]
      rcases hf.at' (h'.next - 1 - id) with e2 | ⟨_, e2⟩
      · rw [← e2]; exact e
      · rw [e2] at e; cases e
    · cases e
  have hold : ∀ id, id < h.next → ({ h' with bl := bl } : Heap).get id = h'.get id := fun id hid => by
    unfold Heap.get
    simp only
    split
    · rcases hf.at' (h'.next - 1 - id) with e2 | ⟨h1, _⟩
      · rw [e2]
      · have := p.next; omega
    · rfl
  refine ⟨⟨hf.len.trans p.rel.len, p.rel.none, p.rel.lt, fun id l loc e => p.rel.cells id l loc (hget _ _ e), fun id es loc e => p.rel.maps id es loc (hget _ _ e), fun id id' blk blk' loc loc' e e' => p.rel.inj id id' blk blk' loc loc' (hget _ _ e) (hget _ _ e'),
    fun id blk loc e => p.rel.apart id blk loc (hget _ _ e), fun f hf id l loc hid e => p.rel.low f hf id l loc hid (hget _ _ e), p.rel.floor, fun f hf id es loc hid e => p.rel.lowM f hf id es loc hid (hget _ _ e)⟩,
    p.sub, p.names, p.size, p.os, p.tape, p.output, p.keep, fun id blk loc e => p.own id blk loc (hget _ _ e), fun id hid hn => (hold id hid).trans (p.ghost id hid hn), p.next, p.floors, p.news⟩

def blkBeq : Option Blk → Option Blk → Bool
  | none, none => true
  | some (.cells a), some (.cells b) => V.beqs a b
  | _, _ => false
theorem blkBeq_sound {a b : Option Blk} (h : blkBeq a b = true) : a = b := by
  unfold blkBeq at h
  split at h
  · rfl
  · rw [beqs_sound _ _ h]
  · cases h

/-- what two rows of blocks have in common: those of the first k that differ are given up -/
def meetB : Nat → List (Option Blk) → List (Option Blk) → Option (List (Option Blk))
  | _, [], [] => some []
  | 0, a :: x, b :: y => match blkBeq a b with
    | true => (meetB 0 x y).map (a :: ·)
    | false => none
  | k + 1, a :: x, b :: y => match blkBeq a b with
    | true => (meetB k x y).map (a :: ·)
    | false => (meetB k x y).map (none :: ·)
  | _, _, _ => none
theorem meetB_spec : ∀ (k : Nat) (x y z : List (Option Blk)), meetB k x y = some z → Fewer k x z ∧ Fewer k y z
  | 0, [], [], z, e => by simp only [meetB] at e; cases e; exact ⟨Fewer.refl _ _, Fewer.refl _ _⟩
  | k + 1, [], [], z, e => by simp only [meetB] at e; cases e; exact ⟨Fewer.refl _ _, Fewer.refl _ _⟩
  | 0, a :: x, b :: y, z, e => by
    simp only [meetB] at e
    split at e
    · rename_i hb
      obtain ⟨z', h1, rfl⟩ := map_some e
      obtain ⟨g1, g2⟩ := meetB_spec 0 x y z' h1
      rw [← blkBeq_sound hb]
      exact ⟨.cons a g1, .cons a g2⟩
    · cases e
  | k + 1, a :: x, b :: y, z, e => by
    simp only [meetB] at e
    split at e
    · rename_i hb
      obtain ⟨z', h1, rfl⟩ := map_some e
      obtain ⟨g1, g2⟩ := meetB_spec k x y z' h1
      rw [← blkBeq_sound hb]
      exact ⟨.cons a g1, .cons a g2⟩
    · obtain ⟨z', h1, rfl⟩ := map_some e
      obtain ⟨g1, g2⟩ := meetB_spec k x y z' h1
      exact ⟨.none a (Nat.succ_pos _) g1, .none b (Nat.succ_pos _) g2⟩
  | 0, [], _ :: _, _, e => by simp [meetB] at e
  | k + 1, [], _ :: _, _, e => by simp [meetB] at e
  | 0, _ :: _, [], _, e => by simp [meetB] at e
  | k + 1, _ :: _, [], _, e => by simp [meetB] at e

/-- what the ends of two orders have in common -/
def meetR (n0 : Nat) (x y : Option (Out × Heap)) : Option (Out × Heap) :=
  match x, y with
  | some (.ret u, h1), some (.ret v, h2) =>
    bif V.beq u v && Nat.beq h1.next h2.next then (meetB (h1.next - n0) h1.bl h2.bl).map fun bl => (.ret u, { h1 with bl }) else none
  | _, _ => none
def meetAll (n0 : Nat) : List (Option (Out × Heap)) → Option (Out × Heap)
  | [] => none
  | [x] => match x with
    | some (.ret u, h1) => some (.ret u, h1)
    | _ => none
  | x :: l => meetR n0 x (meetAll n0 l)

/-- an end, and another one that tells less of memory -/
def LessOf (n0 : Nat) (u : V) (h' : Heap) (x : Option (Out × Heap)) : Prop := ∃ h1, x = some (.ret u, h1) ∧ h1.next = h'.next ∧ Fewer (h1.next - n0) h1.bl h'.bl

theorem meetAll_spec (n0 : Nat) : ∀ (l : List (Option (Out × Heap))) (out : Out) (h' : Heap), meetAll n0 l = some (out, h') → ∃ u, out = .ret u ∧ ∀ x ∈ l, LessOf n0 u h' x
  | [], out, h', e => by cases e
  | [x], out, h', e => by
    simp only [meetAll] at e
    split at e
    · rename_i u h1
      cases e
      exact ⟨u, rfl, fun x hx => by rw [List.mem_singleton] at hx; subst hx; exact ⟨_, rfl, rfl, Fewer.refl _ _⟩⟩
    · cases e
  | x :: y :: l, out, h', e => by
    simp only [meetAll] at e
    unfold meetR at e
    split at e
    · rename_i u h1 v h2 hy
      cases hb : (V.beq u v && Nat.beq h1.next h2.next) with
      | false => rw [hb] at e; cases e
      | true =>
        rw [hb] at e
        simp only [Bool.and_eq_true] at hb
        obtain ⟨hb1, hb2⟩ := hb
        have huv := beq_sound _ _ hb1
        have hnn := Nat.eq_of_beq_eq_true hb2
        subst huv
        obtain ⟨bl, h3, h4⟩ := map_some (show (meetB (h1.next - n0) h1.bl h2.bl).map (fun z => (Out.ret u, ({ h1 with bl := z } : Heap))) = some (out, h') from e)
        cases h4
        obtain ⟨g1, g2⟩ := meetB_spec _ _ _ _ h3
        obtain ⟨u', hu', hall⟩ := meetAll_spec n0 (y :: l) _ _ hy
        cases hu'
        refine ⟨u, rfl, fun z hz => ?_⟩
        rcases List.mem_cons.1 hz with rfl | hz
        · exact ⟨h1, rfl, rfl, g1⟩
        · obtain ⟨h5, e1, e2, e3⟩ := hall z hz
          refine ⟨h5, e1, e2.trans hnn.symm, e3.trans ?_⟩
          rw [e2, ← hnn]
          exact g2
    · cases e

/-! ### a function, all its orders -/

def C0 : Ctx := { code := fun _ => none, tidy := fun _ => false, orc := fun _ => none }
def D0 : OCtx := { code := fun _ => none, tidy := fun _ => false, orc := fun _ => none }
theorem c0_ok : CodeOk P G C0 := ⟨(fun _ _ e => by cases e), (fun _ _ e => by cases e)⟩
theorem d0_fine : DFine C0 D0 := ⟨(fun _ _ e => by cases e), rfl, rfl⟩

/-- the function's codes for the kernel, one for each order -/
def optAll (P : Program) (G : Nat → Option V) (fn : Func) (tbl : List Nat) (np dep : Nat) : Option (List OFunc) :=
  match fn.body with
  | none => none
  | some c => match acodes P G c, rvars P fn.results.toList with
    | some bs, some rs => if tabOk tbl fn.ntmps np (capOfD dep) then
        mapAll (fun b => (optC (rho tbl) fn.ntmps b).bind fun b => (renV (rho tbl) rs).map fun r => ({ np, dep, results := r, body := b } : OFunc)) bs
      else none
    | _, _ => none

noncomputable def bodyAny (vs : List OFunc) (n : Nat) (args : List V) (h : Heap) : Option (Out × Heap) :=
  match meetAll h.next (vs.map fun o => bodyT D0 (execT D0 n) o args h) with
  | some (o, ⟨k, _, bl⟩) => some (o, ⟨k, h.floors, bl⟩)
  | none => none

def mdOf : Ex → Option Md
  | .nrm | .ret => some .ret
  | .pan v => some (.pan v)
  | _ => none

theorem any_ok {fn : Func} {tbl : List Nat} {np dep f : Nat} {vs : List OFunc} (h1 : P.funcs[f]? = some fn) (h2 : fn.name ≠ "runtime.NumGoroutine") (h3 : optAll P G fn tbl np dep = some vs) (n : Nat) :
    CallsOk P G (fun f' args h => if f' = f then bodyAny vs n args h else none) := by
  intro f' args h out h' e
  simp only at e
  by_cases hff : f' = f
  · rw [if_pos hff] at e
    subst hff
    unfold optAll at h3
    split at h3
    · cases h3
    · rename_i c hb
      split at h3
      · rename_i bs rs hbs hrs
        split at h3
        · rename_i ht
          obtain ⟨hz, hm, rfl⟩ : ∃ hz, meetAll h.next (vs.map fun o => bodyT D0 (execT D0 n) o args h) = some (out, hz) ∧ h' = { hz with floors := h.floors } := by
            unfold bodyAny at e
            split at e
            · rename_i o k fl bl hm
              cases e
              exact ⟨_, hm, rfl⟩
            · cases e
          obtain ⟨u, rfl, hall⟩ := meetAll_spec _ _ _ _ hm
          refine ⟨⟨fn, c, h1, h2, hb⟩, fun w R ι xs hr hG hx => ?_⟩
          obtain ⟨_, hac⟩ := acodes_ok (C := C0) c0_ok draws_ok c bs hbs
          have hS : SRel G { fr := args ++ List.replicate (fn.ntmps - args.length) .undef, ds := [], h } { tmps := xs ++ Array.replicate (fn.ntmps - xs.size) undef, defers := [] } w R ι :=
            ⟨hr, hG, init_rel hx, rfl, by simp⟩
          refine calls_of_wp_defers h1 hb ?_
          refine wp_mono (hac n _ (fun ex st => ∃ m h1, mdOf ex = some m ∧ ended { ntmps := fn.ntmps, results := rs, body := .skip } st.fr (leave C0 (exec C0 n) st.ds m st.h) = some (.ret u, h1) ∧ h1.next = hz.next ∧ Fewer (h1.next - h.next) h1.bl hz.bl) (fun b hbm => ?_) _ w R ι hS) fun en a' w' hq => ?_
          · obtain ⟨o, ho, hbo⟩ := mapAll_mem h3 b hbm
            obtain ⟨b', hb', hbo⟩ := bind_some hbo
            obtain ⟨r, hr', hbo⟩ := map_some hbo
            subst hbo
            simp only [tabOk, Bool.and_eq_true] at ht
            obtain ⟨⟨⟨t1, t2⟩, t3⟩, t4⟩ := ht
            have t1 := Nat.le_of_ble_eq_true t1
            obtain ⟨s1, s2⟩ := incr_spec tbl 0 0 t4
            have hO : OFine { ntmps := fn.ntmps, results := rs, body := b } { np, dep, results := r, body := b' } (rho tbl) := by
              refine ⟨⟨fun t t' e => ?_, fun t u x e e' => s2 t u x (rho_some e) (rho_some e')⟩, fun t t' e => ?_, Nat.le_of_ble_eq_true t2, Nat.le_of_ble_eq_true t3, hb', hr'⟩
              · have e := rho_some e
                have hlt := (List.getElem?_eq_some_iff.1 e).1
                obtain ⟨_, b, _⟩ := s1 t t' e
                exact ⟨show t < fn.ntmps by omega, b⟩
              · have e := rho_some e
                obtain ⟨_, _, c, d⟩ := s1 t t' e
                simp only [Nat.zero_add] at c d
                rcases Nat.lt_or_ge t np with hh | hh
                · exact .inl ⟨hh, c hh⟩
                · exact .inr ⟨hh, d hh⟩
            obtain ⟨hv, e1, e2, e3⟩ := hall _ (List.mem_map.2 ⟨_, ho, rfl⟩)
            have e4 := bodyT_eq d0_fine (exec_sim d0_fine n) hO e1
            unfold body at e4
            split at e4
            · rename_i st hst
              exact ⟨_, _, hst, .ret, hv, rfl, e4, e2, e3⟩
            · rename_i st hst
              exact ⟨_, _, hst, .ret, hv, rfl, e4, e2, e3⟩
            · rename_i v st hst
              exact ⟨_, _, hst, .pan v, hv, rfl, e4, e2, e3⟩
            · cases e4
          · obtain ⟨ex, st, ⟨m, hv, hmd, e4, e2, e3⟩, hq⟩ := hq
            obtain ⟨R', ι', hp, hg, hd, hen⟩ := hq
            have fin : ∀ (uu : FrameMode), ERel w' R' ι' st.fr a' → MdRel w' R' ι' m uu → Leaves P fn a'.tmps (fun e w' => ∃ R' ι', Post w R ι h w' R' ι' { hz with floors := h.floors } ∧ OutIs w' R' ι' (.ret u) e) a'.defers uu w' := by
              intro uu hE hmr
              cases hl : leave C0 (exec C0 n) st.ds m st.h with
              | none => rw [hl] at e4; cases e4
              | some q =>
                obtain ⟨m2, h2'⟩ := q
                rw [hl] at e4
                refine leave_ok c0_ok (exec_ok c0_ok draws_ok n).code st.ds m st.h m2 h2' hl a'.defers w' R' ι' uu hp.rel hg hd hmr fun w2 R2 ι2 u2 hp2 hm2 => ?_
                cases m2 with
                | ret =>
                  have hu2 : u2 = .returning := hm2
                  subst hu2
                  simp only [ended] at e4
                  obtain ⟨vs', hvs, hh⟩ := map_some e4
                  cases hh
                  obtain ⟨x, hx1, hx2⟩ := results_ok (P := P) hp2.rel (hE.keep hp.rel hp2) hrs hvs
                  have hp3 := Post.fewer (hp.trans hp2) e3
                  have hfl := hp3.floors
                  simp only at hfl
                  have heq : ({ next := hv.next, floors := hv.floors, bl := hz.bl } : Heap) = { hz with floors := h.floors } := by
                    obtain ⟨n1, f1, b1⟩ := hv
                    simp only at e2 hfl ⊢
                    rw [e2, hfl]
                  rw [heq] at hp3
                  exact ⟨x, hx1, R2, ι2, hp3, hx2⟩
                | pan v => simp only [ended] at e4; cases e4
                | caught v => simp only [ended] at e4; cases e4
            cases ex with
            | nrm => cases hmd; obtain ⟨rfl, hE⟩ := hen; exact fin .returning hE rfl
            | ret => cases hmd; obtain ⟨rfl, hE⟩ := hen; exact fin .returning hE rfl
            | pan v => cases hmd; obtain ⟨x, rfl, hx', hE⟩ := hen; exact fin (.panicking [{ v := x, recovered := false }]) hE ⟨x, rfl, hx'⟩
            | exit i => cases hmd
            | goto l => cases hmd
        · cases h3
      · cases h3
  · rw [if_neg hff] at e; cases e
end
end Go.Ab
