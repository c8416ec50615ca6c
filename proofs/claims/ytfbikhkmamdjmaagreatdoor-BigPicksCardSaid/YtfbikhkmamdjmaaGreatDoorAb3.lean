/- The abstract machine, part 3. One operation of a frame: the model's step and the abstract one. Regions in the order of the text; code. Results; calls; code. Tidy calls: what a call leaves behind when nothing that it made is named any more. Code and calls: what the abstract machine computes is what the model does. What an operation depends on. Blocks that the abstract heap holds already and memory not yet. Regions whose order is drawn: the state between two operations. Regions whose order is drawn. Regions whose order is drawn: the operations that come. Regions whose order is drawn: effects; the whole. -/
import Derived.Test.YtfbikhkmamdjmaaGreatDoorAb2
import Derived.LoopN
import Derived.Orders
import Derived.Scope
import Derived.Recover
namespace Go.Ab

/-- the deferred calls -/
def DRel (w : World) (R : Nat → Prop) (ι : Nat → Option Loc) (ds : List (V × List V)) (es : List Deferred) : Prop :=
  ds.length = es.length ∧ ∀ (i : Nat) d e, ds[i]? = some d → es[i]? = some e → ∃ f pre caps xs ys zs, d.1 = .fn f pre caps ∧ e.target = .fn (.func f) xs.toArray ∧ e.args = (ys ++ zs).toArray ∧
    RepL w R ι caps xs ∧ RepL w R ι pre ys ∧ RepL w R ι d.2 zs

structure SRel (G : Nat → Option V) (st : St) (a : Act) (w : World) (R : Nat → Prop) (ι : Nat → Option Loc) : Prop where
  heap : HRel w R ι st.h
  glob : GRel G w R ι
  fr : ERel w R ι st.fr a
  ds : DRel w R ι st.ds a.defers

/-- how a piece of code ends -/
def Ends (w : World) (R : Nat → Prop) (ι : Nat → Option Loc) (fr : List V) (a : Act) (e : Exit) : Ex → Prop
  | .nrm => e = .normal ∧ ERel w R ι fr a
  | .exit i => e = .exit i ∧ ERel w R ι fr a
  | .goto l => e = .goto l ∧ ERel w R ι fr a
  | .ret => e = .ret ∧ ERel w R ι fr a
  | .pan v => ∃ x, e = .panic [{ v := x, recovered := false }] ∧ Rep w R ι v x ∧ ERel w R ι fr a

def QOf (G : Nat → Option V) (w0 : World) (R0 : Nat → Prop) (ι0 : Nat → Option Loc) (h0 : Heap) (ex : Ex) (st : St) (e : Exit) (a : Act) (w : World) : Prop :=
  ∃ R ι, Post w0 R0 ι0 h0 w R ι st.h ∧ GRel G w R ι ∧ DRel w R ι st.ds a.defers ∧ Ends w R ι st.fr a e ex

/-- how a call ends -/
def OutIs (w : World) (R : Nat → Prop) (ι : Nat → Option Loc) : Out → Ending → Prop
  | .ret u, .returned v => Rep w R ι u v
  | .pan u, .panicked chain => ∃ x, chain = [{ v := x, recovered := false }] ∧ Rep w R ι u x
  | _, _ => False

/-- what is known of calls -/
def CallsOk (P : Program) (G : Nat → Option V) (cf : Nat → List V → Heap → Option (Out × Heap)) : Prop :=
  ∀ f args h out h', cf f args h = some (out, h') → (∃ fn c, P.funcs[f]? = some fn ∧ fn.name ≠ "runtime.NumGoroutine" ∧ fn.body = some c) ∧
    ∀ (w : World) (R : Nat → Prop) (ι : Nat → Option Loc) (xs : Array Value), HRel w R ι h → GRel G w R ι → RepL w R ι args xs.toList →
    Calls P f xs w fun e w' => ∃ R' ι', Post w R ι h w' R' ι' h' ∧ OutIs w' R' ι' out e

section
variable {P : Program} {G : Nat → Option V} {w w' w'' : World} {R R' R'' : Nat → Prop} {ι ι' ι'' : Nat → Option Loc} {h h' h'' : Heap} {fr : List V} {a : Act}

theorem GRel.keep (hr : HRel w R ι h) (p : Post w R ι h w' R' ι' h') (hG : GRel G w R ι) : GRel G w' R' ι' := fun g v e => p.val hr (hG g v e)

theorem ERel.keep (hr : HRel w R ι h) (p : Post w R ι h w' R' ι' h') (hE : ERel w R ι fr a) : ERel w' R' ι' fr a :=
  ⟨hE.len, fun i v x e e' => p.val hr (hE.tmps i v x e e')⟩

theorem DRel.keep (hr : HRel w R ι h) (p : Post w R ι h w' R' ι' h') {ds : List (V × List V)} {es : List Deferred} (hD : DRel w R ι ds es) : DRel w' R' ι' ds es :=
  ⟨hD.1, fun i d e h1 h2 => by
    obtain ⟨f, pre, caps, xs, ys, zs, g1, g2, g3, g4, g5, g6⟩ := hD.2 i d e h1 h2
    exact ⟨f, pre, caps, xs, ys, zs, g1, g2, g3, p.vals hr g4, p.vals hr g5, p.vals hr g6⟩⟩

theorem SRel.keep {st : St} (hS : SRel G st a w R ι) (p : Post w R ι st.h w' R' ι' h') : SRel G { st with h := h' } a w' R' ι' :=
  ⟨p.rel, hS.glob.keep hS.heap p, hS.fr.keep hS.heap p, hS.ds.keep hS.heap p⟩

theorem ERel.put (hE : ERel w R ι fr a) {d : Option Nat} {v : V} {x : Value} (hv : Rep w R ι v x) : ERel w R ι (Ab.put fr d v) (a.put d x) := by
  cases d with
  | none => exact hE
  | some d =>
    refine ⟨by simp [Ab.put, Act.put, hE.len], fun i u y e e' => ?_⟩
    simp only [Ab.put, Act.put] at e e'
    by_cases hi : d = i
    · subst hi
      rw [List.getElem?_set] at e
      rw [Array.getElem?_setIfInBounds] at e'
      simp only [if_true] at e e'
      split at e
      · rename_i h1
        rw [if_pos (by rw [← hE.len]; exact h1)] at e'
        cases e; cases e'; exact hv
      · cases e
    · rw [List.getElem?_set_ne hi] at e
      rw [Array.getElem?_setIfInBounds, if_neg hi] at e'
      exact hE.tmps i u y e e'

theorem put_defers (a : Act) (d : Option Nat) (x : Value) : (a.put d x).defers = a.defers := by cases d <;> rfl

theorem SRel.put {st : St} (hS : SRel G st a w R ι) {d : Option Nat} {v : V} {x : Value} (hv : Rep w R ι v x) : SRel G { st with fr := Ab.put st.fr d v } (a.put d x) w R ι :=
  ⟨hS.heap, hS.glob, hS.fr.put hv, by rw [put_defers]; exact hS.ds⟩

/-- whether an operation is carried out -/
theorem wanted_ok (hE : ERel w R ι fr a) {ops : Array Oper} {o : Oper} {g : Option (Nat × Bool)} (hg : match o.guard, g with
    | none, none => True
    | some (j, b), some (t, c) => b = c ∧ (ops[j]?).bind (·.dst) = some t
    | _, _ => False) {b : Bool} (e : wanted fr g = some b) : Region.wanted o (yielded ops a.tmps) = b := by
  unfold Region.wanted
  unfold wanted at e
  split at hg
  · rename_i hgo
    rw [hgo]; cases e; rfl
  · rename_i j b' t c hgo
    obtain ⟨rfl, ht⟩ := hg
    rw [hgo]
    simp only at e ⊢
    have hy : ∀ v, fr.getD t .undef = v → v ≠ .undef → ∃ x, a.tmps[t]? = some x ∧ Rep w R ι v x := by
      intro v hv hne
      rcases Nat.lt_or_ge t fr.length with hlt | hge
      · have hlt' : t < a.tmps.size := by rw [← hE.len]; exact hlt
        refine ⟨_, Array.getElem?_eq_getElem hlt', ?_⟩
        have h1 : fr[t]? = some fr[t] := List.getElem?_eq_getElem hlt
        have : fr[t] = v := by rw [← hv]; simp [List.getD, h1]
        rw [← this]
        exact hE.tmps t _ _ h1 (Array.getElem?_eq_getElem hlt')
      · have : fr.getD t .undef = .undef := by simp [List.getD, List.getElem?_eq_none hge]
        rw [this] at hv; exact absurd hv.symm hne
    split at e
    · rename_i c' hc'
      cases e
      obtain ⟨x, hx, hv⟩ := hy _ hc' (by simp)
      cases hv
      simp only [yielded, ht, Option.bind_some, hx]
      cases c' <;> cases b' <;> rfl
    · cases e
    · rename_i hn1 hn2
      cases e
      obtain ⟨x, hx, hv⟩ := hy _ rfl (fun hh => hn2 hh)
      have hxb : ∀ q, x ≠ .bool q := by
        intro q hq
        subst hq
        generalize hfr : fr.getD t .undef = u at *
        cases hv
        · exact hn2 rfl
        · exact hn1 _ rfl
      simp only [yielded, ht, Option.bind_some, hx]
      cases x <;> first | rfl | exact absurd rfl (hxb _)
  · cases hg

/-- a call -/
theorem call_run {o : Oper} {c : Call} {g : Operand} (ho : o.op = .call c) (hc : c.callee = .value g) {f : Nat} {xs ys : Array Value} (hg : a.eval g = .func (.func f) xs ys)
    {fn : Func} {cd : Code} (h1 : P.funcs[f]? = some fn) (h2 : fn.name ≠ "runtime.NumGoroutine") (h3 : fn.body = some cd) : (execOp a.eval o).run P w = .ok (.enter f (xs ++ c.args.map a.eval ++ ys)) w := by
  unfold execOp
  simp only [ho, resolve, hc, hg, Deferred.ofValue]
  simp [invoke, callFunc, h1, h2, h3]

theorem upon_mono {o : Oper} {K K' : Act → World → Prop} {Q Q' : Exit → Act → World → Prop} (h : ∀ a w, K a w → K' a w) (hq : ∀ e a w, Q e a w → Q' e a w) {r : Result Next}
    (hh : o.upon P a K Q r) : o.upon P a K' Q' r := by
  cases r with
  | ok n w' =>
    cases n <;> simp only [Oper.upon] at hh ⊢ <;>
      first
        | exact h _ _ hh
        | exact Calls.mono hh (fun e w'' he => by cases e <;> first | exact h _ _ he | exact hq _ _ _ he | (obtain ⟨a1, w1, h1⟩ := he; exact ⟨a1, w1, hq _ _ _ h1⟩))
        | exact Rows.mono hh (fun _ _ he => h _ _ he)
        | exact hh
  | halt x w' => cases x <;> simp only [Oper.upon] at hh ⊢ <;> first | exact hq _ _ _ hh | exact hh

theorem oper_mono {o : Oper} {K K' : Act → World → Prop} {Q Q' : Exit → Act → World → Prop} (h : ∀ a w, K a w → K' a w) (hq : ∀ e a w, Q e a w → Q' e a w)
    (hh : o.wp P a w K Q) : o.wp P a w K' Q' := upon_mono h hq hh

/-- behind an operation: all goes on, or a panic -/
def KOf (G : Nat → Option V) (w0 : World) (R0 : Nat → Prop) (ι0 : Nat → Option Loc) (h0 : Heap) (ex : Ex) (st : St) (a : Act) (w : World) : Prop :=
  ex = .nrm ∧ ∃ R ι, Post w0 R0 ι0 h0 w R ι st.h ∧ SRel G st a w R ι
def POf (G : Nat → Option V) (w0 : World) (R0 : Nat → Prop) (ι0 : Nat → Option Loc) (h0 : Heap) (ex : Ex) (st : St) (e : Exit) (a : Act) (w : World) : Prop :=
  ∃ v, ex = .pan v ∧ QOf G w0 R0 ι0 h0 ex st e a w

theorem fn_rep {f : Nat} {pre caps : List V} {x : Value} (hv : Rep w R ι (.fn f pre caps) x) : ∃ xs ys : List Value, x = .func (.func f) xs.toArray ys.toArray ∧ RepL w R ι pre xs ∧ RepL w R ι caps ys := by
  cases hv with
  | fn _ _ _ xs ys h1 h2 h3 h4 => exact ⟨xs, ys, rfl, ⟨h1, h3⟩, ⟨h2, h4⟩⟩

theorem called_ok {cf : Nat → List V → Heap → Option (Out × Heap)} (hC : CallsOk P G cf) {st st' : St} {ex : Ex} {o : Oper} (hS : SRel G st a w R ι) {f : Nat} {args : List V} {xs : Array Value} (hx : RepL w R ι args xs.toList)
    (hrun : ∀ fn cd, P.funcs[f]? = some fn → fn.name ≠ "runtime.NumGoroutine" → fn.body = some cd → (execOp a.eval o).run P w = .ok (.enter f xs) w)
    (e : onOut o.dst st (cf f args st.h) = some (ex, st')) : o.wp P a w (KOf G w R ι st.h ex st') (POf G w R ι st.h ex st') := by
  cases hcf : cf f args st.h with
  | none => rw [hcf] at e; cases e
  | some r =>
    obtain ⟨out, h'⟩ := r
    rw [hcf] at e
    obtain ⟨⟨fn, cd, h1, h2, h3⟩, hcall⟩ := hC f args st.h out h' hcf
    unfold Oper.wp
    rw [hrun fn cd h1 h2 h3, Oper.upon_enter]
    refine Calls.mono (hcall w R ι xs hS.heap hS.glob hx) fun en w2 hen => ?_
    obtain ⟨R', ι', hp, hm⟩ := hen
    cases out with
    | ret u =>
      simp only [onOut] at e
      cases e
      cases en with
      | returned v => exact ⟨rfl, R', ι', hp, (hS.keep hp).put hm⟩
      | panicked ch => exact hm.elim
      | outgrown => exact hm.elim
    | pan u =>
      simp only [onOut] at e
      cases e
      cases en with
      | returned v => exact hm.elim
      | panicked ch =>
        obtain ⟨x, rfl, hx⟩ := hm
        exact ⟨u, rfl, R', ι', hp, hS.glob.keep hS.heap hp, hS.ds.keep hS.heap hp, x, rfl, hx, hS.fr.keep hS.heap hp⟩
      | outgrown => exact hm.elim

/-- the operations that are no op1 -/
def AOp.far : AOp → Bool
  | .call _ _ | .callv _ _ | .panic _ | .defer _ _ => true
  | _ => false

theorem aop_near {o : Oper} {ao : AOp} (ha : aop P G o = some ao) (h1 : ∀ c, o.op ≠ .call c) (h2 : ∀ x, o.op ≠ .panic x) (h3 : ∀ c, o.op ≠ .defer c) : ao.far = false := by
  unfold aop at ha
  cases ho : o.op with
  | call c => exact absurd ho (h1 c)
  | panic c => exact absurd ho (h2 c)
  | defer c => exact absurd ho (h3 c)
  | makeFunc f first caps =>
    simp only [ho] at ha
    cases f <;> simp only at ha <;> repeat' (first | (cases ha; done) | (cases ha; rfl) | split at ha)
  | _ =>
    simp only [ho] at ha
    repeat' (first | (cases ha; done) | (cases ha; rfl) | (obtain ⟨_, _, hh⟩ := map_some ha; cases hh; rfl) | (obtain ⟨_, _, hb⟩ := Option.bind_eq_some_iff.1 ha; obtain ⟨_, _, hh⟩ := map_some hb; cases hh; rfl) | split at ha)

theorem aop_call {o : Oper} {c : Call} {ao : AOp} (ho : o.op = .call c) (ha : aop P G o = some ao) :
    (∃ f l, c.callee = .value (.func f) ∧ opds G c.args.toList = some l ∧ ao = .call f l) ∨ (∃ g g' l, c.callee = .value g ∧ opd G g = some g' ∧ opds G c.args.toList = some l ∧ ao = .callv g' l) ∨ ao.far = false := by
  unfold aop at ha
  simp only [ho] at ha
  split at ha
  · rename_i f l hc hl
    split at ha
    · split at ha
      · cases ha; exact .inr (.inr rfl)
      · cases ha
    · split at ha
      · split at ha
        · cases ha; exact .inr (.inr rfl)
        · cases ha
      · cases ha; exact .inl ⟨f, l, hc, hl, rfl⟩
  · rename_i g l _ hc hl
    obtain ⟨g', hg, hh⟩ := map_some ha
    cases hh; exact .inr (.inl ⟨g, g', l, hc, hg, hl, rfl⟩)
  all_goals (right; right; repeat' (first | (cases ha; done) | (cases ha; rfl) | (obtain ⟨_, _, hh⟩ := map_some ha; cases hh; rfl) | split at ha))

theorem opds_vals (hG : GRel G w R ι) (hE : ERel w R ι fr a) {xs : Array Operand} {ys : List Opd} (e : opds G xs.toList = some ys) : RepL w R ι (ys.map (ev fr)) (xs.map a.eval).toList := by
  rw [Array.toList_map]; exact opds_rel hG hE e

theorem stepOp_near {C : Ctx} {self : ACode → St → Option (Ex × St)} {d : Option Nat} {ao : AOp} {st : St} (h : ao.far = false) : stepOp C self d ao st = (op1 st.fr st.h ao).map fun r => (.nrm, { st with fr := Ab.put st.fr d r.1, h := r.2 }) := by
  cases ao <;> first | rfl | cases h

theorem RepL.append {A B : List V} {X Y : List Value} (h1 : RepL w R ι A X) (h2 : RepL w R ι B Y) : RepL w R ι (A ++ B) (X ++ Y) := by
  have := RepL.splice h1 h2 (show RepL w R ι [] [] from ⟨rfl, by simp⟩)
  simpa using this

theorem stepOp_ok {C : Ctx} {self : ACode → St → Option (Ex × St)} (hC : CallsOk P G (callF C self)) {st st' : St} {ex : Ex} {o : Oper} {ao : AOp} (hS : SRel G st a w R ι) (ha : aop P G o = some ao)
    (e : stepOp C self o.dst ao st = some (ex, st')) : o.wp P a w (KOf G w R ι st.h ex st') (POf G w R ι st.h ex st') := by
  have one : ao.far = false → o.wp P a w (KOf G w R ι st.h ex st') (POf G w R ι st.h ex st') := by
    intro hn
    rw [stepOp_near hn] at e
    obtain ⟨⟨v, h'⟩, hv, hh⟩ := map_some e
    cases hh
    obtain ⟨w', R', ι', hp, hx | hx⟩ := op1_ok hS.heap hS.glob hS.fr ha hv
    · obtain ⟨x, hx, hr⟩ := hx
      unfold Oper.wp
      rw [hx, Oper.upon_value]
      exact ⟨rfl, R', ι', hp, (hS.keep hp).put hr⟩
    · obtain ⟨hx, rfl⟩ := hx
      unfold Oper.wp
      rw [hx, Oper.upon_skip]
      exact ⟨rfl, R', ι', hp, (hS.keep hp).put (.undef _)⟩
  by_cases h1 : ∃ c, o.op = .call c
  · obtain ⟨c, ho⟩ := h1
    rcases aop_call ho ha with ⟨f, l, hc, hl, rfl⟩ | ⟨g, g', l, hc, hg, hl, rfl⟩ | hn
    · simp only [stepOp] at e
      have hx := opds_vals hS.glob hS.fr hl
      refine called_ok hC hS hx (fun fn cd h1 h2 h3 => ?_) e
      have := call_run (a := a) (w := w) ho hc (xs := #[]) (ys := #[]) rfl h1 h2 h3
      simpa using this
    · simp only [stepOp] at e
      split at e
      · rename_i f pre caps hev
        have hx := opds_vals hS.glob hS.fr hl
        have hgv := ev_rel hS.glob hS.fr hg
        rw [hev] at hgv
        obtain ⟨ps, cs, hgx, hp1, hp2⟩ := fn_rep hgv
        refine called_ok hC hS (xs := ps.toArray ++ c.args.map a.eval ++ cs.toArray) (by simpa [List.append_assoc] using (hp1.append hx).append hp2) (fun fn cd h1 h2 h3 => ?_) e
        exact call_run (a := a) (w := w) ho hc hgx h1 h2 h3
      · cases e
    · exact one hn
  by_cases h2 : ∃ x, o.op = .panic x
  · obtain ⟨x, ho⟩ := h2
    unfold aop at ha
    simp only [ho] at ha
    obtain ⟨y, hy, hh⟩ := map_some ha
    cases hh
    simp only [stepOp] at e
    split at e
    · rename_i t v hev
      cases e
      have hv := ev_rel hS.glob hS.fr hy
      rw [hev] at hv
      generalize hx : a.eval x = xv at *
      have hv' := hv
      cases hv' with
      | ifc _ _ z hz =>
        have hrun : (execOp a.eval o).run P w = .halt (.panic (.iface t z)) w := by
          unfold execOp
          simp only [ho, hx, Instr.panic]
          simp [goPanic]
        unfold Oper.wp
        rw [hrun, Oper.upon_panic]
        exact ⟨_, rfl, R, ι, Post.refl hS.heap, hS.glob, hS.ds, _, rfl, hv, hS.fr⟩
    · cases e
  by_cases h3 : ∃ c, o.op = .defer c
  · obtain ⟨c, ho⟩ := h3
    unfold aop at ha
    simp only [ho] at ha
    split at ha
    · rename_i g l hc hl
      obtain ⟨g', hg, hh⟩ := map_some ha
      cases hh
      simp only [stepOp] at e
      split at e
      · rename_i f pre caps hev
        cases e
        have hx := opds_vals hS.glob hS.fr hl
        have hgv := ev_rel hS.glob hS.fr hg
        rw [hev] at hgv
        obtain ⟨ps, cs, hgx, hp1, hp2⟩ := fn_rep hgv
        have hrun : (execOp a.eval o).run P w = .ok (.defer { target := .fn (.func f) cs.toArray, args := ps.toArray ++ c.args.map a.eval }) w := by
          unfold execOp
          simp only [ho, resolve, hc, hgx, Deferred.ofValue]
          simp
        unfold Oper.wp
        rw [hrun, Oper.upon_defer]
        refine ⟨rfl, R, ι, Post.refl hS.heap, ⟨hS.heap, hS.glob, ?_, ?_⟩⟩
        · exact ERel.put (a := { a with defers := _ :: a.defers }) ⟨hS.fr.len, hS.fr.tmps⟩ (.tup [] [] rfl (by simp))
        · rw [put_defers]
          refine ⟨by simp [hS.ds.1], fun i d en h1 h2 => ?_⟩
          cases i with
          | zero =>
            simp at h1 h2; subst h1; subst h2
            exact ⟨f, pre, caps, cs, ps, (c.args.map a.eval).toList, rfl, rfl, by simp, hp2, hp1, hx⟩
          | succ i => exact hS.ds.2 i d en (by simpa using h1) (by simpa using h2)
      · cases e
    · cases ha
  · exact one (aop_near ha (fun c hc => h1 ⟨c, hc⟩) (fun c hc => h2 ⟨c, hc⟩) (fun c hc => h3 ⟨c, hc⟩))
end
end Go.Ab

namespace Go.Ab
section
variable {P : Program} {G : Nat → Option V} {w w' w'' : World} {R R' R'' : Nat → Prop} {ι ι' ι'' : Nat → Option Loc} {h h' h'' : Heap} {fr : List V} {a : Act}

theorem QOf.trans {ex : Ex} {st : St} (p : Post w R ι h w' R' ι' h') {e : Exit} {a : Act} {w2 : World} (q : QOf G w' R' ι' h' ex st e a w2) : QOf G w R ι h ex st e a w2 := by
  obtain ⟨R2, ι2, hp, rest⟩ := q
  exact ⟨R2, ι2, p.trans hp, rest⟩

theorem wpOps_mono {ops : Array Oper} {Q Q' : Exit → Act → World → Prop} (hq : ∀ e a w, Q e a w → Q' e a w) : ∀ (l : List Nat) (a : Act) (w : World), wpOps P ops Q l a w → wpOps P ops Q' l a w
  | [], a, w, h => hq _ _ _ h
  | i :: rest, a, w, h => by
    rw [wpOps_cons] at h ⊢
    unfold wpOp at h ⊢
    split
    · rename_i hn; simp only [hn] at h; exact wpOps_mono hq rest a w h
    · rename_i o ho
      simp only [ho] at h
      split
      · rename_i hw
        simp only [hw, if_true] at h
        refine h.imp (oper_mono (fun a w h => wpOps_mono hq rest a w h) hq) (fun h => ⟨h.1, ?_⟩)
        obtain ⟨a1, w1, h1⟩ := h.2
        exact ⟨a1, w1, hq _ _ _ h1⟩
      · rename_i hw
        simp only [hw] at h
        exact wpOps_mono hq rest _ w h

theorem aops_at : ∀ {ops : List Oper} {as : List AOp}, aops P G ops = some as → ∀ (i : Nat) o, ops[i]? = some o → ∃ ao, as[i]? = some ao ∧ aop P G o = some ao
  | [], as, e, i, o, h => by simp at h
  | x :: r, as, e, i, o, h => by
    unfold aops at e
    split at e
    · rename_i a b ha hb
      cases e
      cases i with
      | zero => simp at h; subst h; exact ⟨a, rfl, ha⟩
      | succ i => exact aops_at hb i o (by simpa using h)
    · cases e

theorem aops_len : ∀ {ops : List Oper} {as : List AOp}, aops P G ops = some as → as.length = ops.length
  | [], as, e => by cases e; rfl
  | x :: r, as, e => by
    unfold aops at e
    split at e
    · rename_i a b ha hb
      cases e
      simp [aops_len hb]
    · cases e

/-- what an operation's step is -/
theorem stepOf_spec {ops : Array Oper} {r : RIn} (hops : r.ops = ops.toList) (has : aops P G r.ops = some r.aops) {chk : List (Nat × Option (Nat × Bool) × AOp)} {i : Nat} {s : Step} (e : stepOf r chk i = some s) :
    ∃ o, ops[i]? = some o ∧ aop P G o = some s.op ∧ s.dst = o.dst ∧ s.chk = chk ∧ (match o.guard, s.guard with
    | none, none => True
    | some (j, b), some (t, c) => b = c ∧ (ops[j]?).bind (·.dst) = some t
    | _, _ => False) := by
  unfold stepOf at e
  split at e
  · rename_i o ao ho hao
    obtain ⟨ao', h1, h2⟩ := aops_at has i o ho
    rw [hao] at h1; cases h1
    have ho' : ops[i]? = some o := by rw [← Array.getElem?_toList, ← hops]; exact ho
    split at e
    · rename_i hg
      cases e
      exact ⟨o, ho', h2, rfl, rfl, by rw [hg]; trivial⟩
    · rename_i j b hg
      split at e
      · rename_i t ht
        cases e
        refine ⟨o, ho', h2, rfl, rfl, ?_⟩
        rw [hg]
        refine ⟨rfl, ?_⟩
        unfold RIn.dstOf at ht
        rw [hops, Array.getElem?_toList] at ht
        exact ht
      · cases e
  · cases e

/-- one operation of a region -/
theorem wpOp_ok {C : Ctx} {self : ACode → St → Option (Ex × St)} (hC : CallsOk P G (callF C self)) {ops : Array Oper} {r : RIn} (hops : r.ops = ops.toList) (has : aops P G r.ops = some r.aops) {chk : List (Nat × Option (Nat × Bool) × AOp)} {i : Nat} {s : Step}
    (es : stepOf r chk i = some s) {st st' : St} {ex : Ex} (hS : SRel G st a w R ι) (e : step C self s st = some (ex, st')) :
    wpOp P ops (POf G w R ι st.h ex st') i (KOf G w R ι st.h ex st') a w := by
  obtain ⟨o, ho, hao, hd, hchk, hg⟩ := stepOf_spec hops has es
  unfold wpOp
  simp only [ho]
  unfold step at e
  split at e
  · rename_i hw
    rw [wanted_ok hS.fr hg hw, if_pos rfl]
    rw [hd] at e
    exact .inl (stepOp_ok hC hS hao e)
  · rename_i hw
    rw [wanted_ok hS.fr hg hw]
    simp only [Bool.false_eq_true, if_false]
    cases e
    rw [hd]
    exact ⟨rfl, R, ι, Post.refl hS.heap, hS.put (.tup [] [] rfl (by simp))⟩
  · cases e

theorem wpOp_mono2 {ops : Array Oper} {Q Q' : Exit → Act → World → Prop} {i : Nat} {K K' : Act → World → Prop} (h : ∀ a w, K a w → K' a w) (hq : ∀ e a w, Q e a w → Q' e a w)
    (hh : wpOp P ops Q i K a w) : wpOp P ops Q' i K' a w := by
  unfold wpOp at *
  split
  · exact h _ _ (by simpa [*] using hh)
  · rename_i o ho
    simp only [ho] at hh
    split
    · rename_i hw
      simp only [hw, if_true] at hh
      refine hh.imp (oper_mono h hq) (fun h => ⟨h.1, ?_⟩)
      obtain ⟨a1, w1, h1⟩ := h.2
      exact ⟨a1, w1, hq _ _ _ h1⟩
    · rename_i hw; simp only [hw] at hh; exact h _ _ hh

theorem wipe_spec : ∀ (l : List Step) (fr : List V), (wipe l fr).length = fr.length ∧ ∀ t, (wipe l fr).getD t .undef = .undef ∨ ((∀ s ∈ l, s.dst ≠ some t) ∧ (wipe l fr).getD t .undef = fr.getD t .undef)
  | [], fr => ⟨rfl, fun t => .inr ⟨(fun s hs => by cases hs), rfl⟩⟩
  | s :: r, fr => by
    obtain ⟨h1, h2⟩ := wipe_spec r (Ab.put fr s.dst .undef)
    have hl : (Ab.put fr s.dst .undef).length = fr.length := by cases hd : s.dst <;> simp [Ab.put]
    refine ⟨by simp only [wipe]; rw [h1, hl], fun t => ?_⟩
    simp only [wipe]
    rcases h2 t with h | ⟨h, h'⟩
    · exact .inl h
    · by_cases hd : s.dst = some t
      · left
        rw [h', hd]
        simp only [Ab.put]
        rcases Nat.lt_or_ge t fr.length with hlt | hge
        · simp [List.getD, hlt]
        · simp [List.getD, List.getElem?_eq_none (show (fr.set t .undef).length ≤ t by simp; exact hge)]
      · right
        refine ⟨fun q hq => ?_, ?_⟩
        · rcases List.mem_cons.1 hq with rfl | hq
          · exact hd
          · exact h q hq
        · rw [h']
          cases hs : s.dst with
          | none => rfl
          | some d =>
            have hne : d ≠ t := fun e => hd (by rw [hs, e])
            simp only [Ab.put, List.getD, List.getElem?_set_ne hne]

theorem ERel.weaken {fr' : List V} (hl : fr'.length = fr.length) (ht : ∀ t, fr'.getD t .undef = .undef ∨ fr'.getD t .undef = fr.getD t .undef) (hE : ERel w R ι fr a) : ERel w R ι fr' a := by
  refine ⟨hl.trans hE.len, fun i v x e e' => ?_⟩
  have hi : i < fr'.length := (List.getElem?_eq_some_iff.1 e).1
  have h1 : fr'.getD i .undef = v := by simp [List.getD, e]
  have h2 : fr[i]? = some (fr.getD i .undef) := by
    have : i < fr.length := by omega
    simp [List.getD, this]
  rcases ht i with h | h
  · rw [h] at h1; subst h1; exact .undef x
  · rw [h] at h1; subst h1; exact hE.tmps i _ x h2 e'

theorem ERel.wipe (hE : ERel w R ι fr a) (l : List Step) : ERel w R ι (Ab.wipe l fr) a := by
  obtain ⟨h1, h2⟩ := wipe_spec l fr
  exact hE.weaken h1 fun t => (h2 t).imp id (fun h => h.2)

theorem QOf.wipe {ex : Ex} {st : St} {e : Exit} {a : Act} (l : List Step) (q : QOf G w R ι h ex st e a w') : QOf G w R ι h ex (wipeSt l ex st) e a w' := by
  cases ex with
  | pan v =>
    obtain ⟨R', ι', hp, hg, hd, x, he, hx, hE⟩ := q
    exact ⟨R', ι', hp, hg, hd, x, he, hx, hE.wipe l⟩
  | _ => exact q

theorem wiped_some {l : List Step} {q : Option (Ex × St)} {ex : Ex} {st' : St} (e : wiped l q = some (ex, st')) : ∃ st1, q = some (ex, st1) ∧ st' = wipeSt l ex st1 := by
  cases q with
  | none => cases e
  | some q => obtain ⟨ex1, st1⟩ := q; cases e; exact ⟨st1, rfl, rfl⟩

theorem plain_ok {C : Ctx} {self : ACode → St → Option (Ex × St)} (hC : CallsOk P G (callF C self)) {ops : Array Oper} {r : RIn} (hops : r.ops = ops.toList) (has : aops P G r.ops = some r.aops) :
    ∀ (l : List Nat) (ss : List Step) (st : St) (a : Act) (w : World) (R : Nat → Prop) (ι : Nat → Option Loc) (ex : Ex) (st' : St), plainSteps r l = some ss → steps C self ss st = some (ex, st') → SRel G st a w R ι →
    wpOps P ops (QOf G w R ι st.h ex st') l a w
  | [], ss, st, a, w, R, ι, ex, st', hp, e, hS => by
    cases hp; cases e
    exact ⟨R, ι, Post.refl hS.heap, hS.glob, hS.ds, rfl, hS.fr⟩
  | i :: l, ss, st, a, w, R, ι, ex, st', hp, e, hS => by
    unfold plainSteps at hp
    split at hp
    · rename_i s t hs ht
      cases hp
      have hchk : s.chk = [] := by
        obtain ⟨o, _, _, _, hc, _⟩ := stepOf_spec hops has hs
        exact hc
      rw [wpOps_cons]
      simp only [steps] at e
      cases hstep : step C self s st with
      | none => rw [hstep] at e; cases e
      | some q =>
        obtain ⟨ex1, st1⟩ := q
        rw [hstep] at e
        have hop := wpOp_ok hC hops has hs hS hstep
        cases ex1 with
        | nrm =>
          simp only [hchk, checks, if_true] at e
          refine wpOp_mono2 (fun a1 w1 hk => ?_) (fun en a1 w1 hk => ?_) hop
          · obtain ⟨_, R1, ι1, hp1, hS1⟩ := hk
            exact wpOps_mono (fun _ _ _ q => q.trans hp1) l a1 w1 (plain_ok hC hops has l t st1 a1 w1 R1 ι1 ex st' ht e hS1)
          · obtain ⟨v, hv, _⟩ := hk; cases hv
        | pan v =>
          simp only at e
          cases e
          refine wpOp_mono2 (fun a1 w1 hk => ?_) (fun en a1 w1 hk => ?_) hop
          · cases hk.1
          · exact hk.choose_spec.2
        | exit i =>
          refine wpOp_mono2 (fun a1 w1 hk => ?_) (fun en a1 w1 hk => ?_) hop
          · cases hk.1
          · obtain ⟨v, hv, _⟩ := hk; cases hv
        | goto i =>
          refine wpOp_mono2 (fun a1 w1 hk => ?_) (fun en a1 w1 hk => ?_) hop
          · cases hk.1
          · obtain ⟨v, hv, _⟩ := hk; cases hv
        | ret =>
          refine wpOp_mono2 (fun a1 w1 hk => ?_) (fun en a1 w1 hk => ?_) hop
          · cases hk.1
          · obtain ⟨v, hv, _⟩ := hk; cases hv
    · cases hp

/-! ### scopes -/

def InScope (P : Program) (r c : Code) (Q : Exit → Act → World → Prop) (a : Act) (w : World) : Prop :=
  ∀ (b : Frame) (k : List Item) (cs : List Frame), ∃ e a' w', Q e a' w' ∧ Arrives P (lone (b.at a (.code r :: .inScope c :: k)) cs w) b k cs e a' w'

theorem wp_scope_in {c : Code} {Q : Exit → Act → World → Prop} (hh : InScope P c c Q a w) : (Code.scope c).wp P Q a w := by
  intro b k cs
  obtain ⟨e, a1, w1, hq, harr⟩ := hh b k cs
  exact ⟨e, a1, w1, hq, .of_steps (.one step_scope) harr⟩

def Exit.inScope (P : Program) (c : Code) (Q : Exit → Act → World → Prop) : Exit → Act → World → Prop
  | .goto l, a, w => match Go.findLabel c l with
    | some rest => InScope P rest c Q a w
    | none => Q (.goto l) a w
  | e, a, w => Q e a w

theorem inScope_of {r c : Code} {Q : Exit → Act → World → Prop} (hh : r.wp P (Exit.inScope P c Q) a w) : InScope P r c Q a w := by
  intro b k cs
  obtain ⟨e, a1, w1, hq, harr⟩ := hh b (.inScope c :: k) cs
  cases e with
  | normal => exact ⟨.normal, a1, w1, hq, Steps.trans harr (.one step_inScope)⟩
  | exit id => exact ⟨.exit id, a1, w1, hq, fun k' hk => harr k' (by simp [exitTo, hk])⟩
  | goto l =>
    simp only [Exit.inScope] at hq
    cases hf : Go.findLabel c l with
    | none =>
      rw [hf] at hq
      exact ⟨.goto l, a1, w1, hq, fun k' hk => harr k' (by simp [gotoIn, hf, hk])⟩
    | some rest =>
      rw [hf] at hq
      obtain ⟨e2, a2, w2, hq2, harr2⟩ := hq b k cs
      exact ⟨e2, a2, w2, hq2, .of_steps (harr _ (by simp [gotoIn, hf])) harr2⟩
  | ret => exact ⟨_, a1, w1, hq, harr⟩
  | panic ch => exact ⟨_, a1, w1, hq, harr⟩
  | outgrown => exact ⟨_, a1, w1, hq, harr⟩

theorem findLabel_ok : ∀ {c : Code} {c' : ACode} {l : Nat}, acode P G c = some c' → (Go.findLabel c l = none ∧ findLabel c' l = none) ∨ ∃ r r', Go.findLabel c l = some r ∧ findLabel c' l = some r' ∧ acode P G r = some r'
  | .seq x y, c', l, e => by
    unfold acode at e
    split at e
    · rename_i x' y' hx hy
      cases e
      rcases findLabel_ok (l := l) hx with ⟨h1, h2⟩ | ⟨r, r', h1, h2, h3⟩
      · rcases findLabel_ok (l := l) hy with ⟨h3, h4⟩ | ⟨r, r', h3, h4, h5⟩
        · exact .inl ⟨by simp [Go.findLabel, h1, h3], by simp [findLabel, h2, h4]⟩
        · exact .inr ⟨r, r', by simp [Go.findLabel, h1, h3], by simp [findLabel, h2, h4], h5⟩
      · refine .inr ⟨.seq r y, .seq r' y', by simp [Go.findLabel, h1], by simp [findLabel, h2], ?_⟩
        simp only [acode, h3, hy]
    · cases e
  | .label l', c', l, e => by
    cases e
    by_cases hl : l' = l
    · subst hl
      exact .inr ⟨.skip, .skip, by simp [Go.findLabel], by simp [findLabel], rfl⟩
    · exact .inl ⟨by simp [Go.findLabel, hl], by simp [findLabel, hl]⟩
  | .skip, c', l, e => by cases e; exact .inl ⟨rfl, rfl⟩
  | .ret, c', l, e => by cases e; exact .inl ⟨rfl, rfl⟩
  | .exit _, c', l, e => by cases e; exact .inl ⟨rfl, rfl⟩
  | .goto _, c', l, e => by cases e; exact .inl ⟨rfl, rfl⟩
  | .region _ ops d, c', l, e => by
    unfold acode at e
    obtain ⟨y, hy, hh⟩ := map_some e
    split at hh <;> (cases hh; exact .inl ⟨rfl, rfl⟩)
  | .block _ _, c', l, e => by
    unfold acode at e
    obtain ⟨y, hy, hh⟩ := map_some e
    cases hh; exact .inl ⟨rfl, rfl⟩
  | .loop _, c', l, e => by
    unfold acode at e
    obtain ⟨y, hy, hh⟩ := map_some e
    cases hh; exact .inl ⟨rfl, rfl⟩
  | .scope _, c', l, e => by
    unfold acode at e
    obtain ⟨y, hy, hh⟩ := map_some e
    cases hh; exact .inl ⟨rfl, rfl⟩
  | .cond _ _ _, c', l, e => by
    unfold acode at e
    split at e
    · cases e; exact .inl ⟨rfl, rfl⟩
    · cases e
end
end Go.Ab

namespace Go.Ab
section
variable {P : Program} {G : Nat → Option V} {w w' w'' : World} {R R' R'' : Nat → Prop} {ι ι' ι'' : Nat → Option Loc} {h h' h'' : Heap} {fr : List V} {a : Act}

theorem at_ptr {v : V} {x : Value} {cs : List V} (e : h.at v = some cs) (hv : Rep w R ι v x) : ∃ ad : Addr, x = .pointer (some ad) := by
  unfold Heap.at at e
  split at e
  · cases hv; exact ⟨_, rfl⟩
  · cases hv; exact ⟨_, rfl⟩
  · cases e

theorem tmp_rel (hE : ERel w R ι fr a) (t : Nat) : Rep w R ι (fr.getD t .undef) (a.tmps.getD t undef) := by
  have := ev_rel (G := fun _ => none) (fun g v e => by cases e) hE (x := .tmp t) (y := .t t) rfl
  simpa [ev, Act.eval] using this

def resOf (tmps : Array Value) : ResultVar → Sem Value
  | .tmp t => pure (tmps.getD t undef)
  | .cell ad t => do loadVar t (← asAddr (tmps.getD ad undef))

theorem results_def (fn : Func) (tmps : Array Value) : Go.results fn tmps = (do let vs ← fn.results.mapM (resOf tmps); pure (if h : vs.size = 1 then vs[0] else .tuple vs) : Sem Value) := by
  unfold Go.results
  congr 1

theorem results_list (hr : HRel w R ι h) (hE : ERel w R ι fr a) : ∀ (rs : List ResultVar) (rv : List RVar) (vs : List V), rvars P rs = some rv → results h fr rv = some vs →
    ∃ xs : List Value, (rs.mapM (resOf a.tmps)).run P w = .ok xs w ∧ RepL w R ι vs xs
  | [], rv, vs, e1, e2 => by
    cases e1; cases e2
    exact ⟨[], by simp, rfl, by simp⟩
  | .tmp t :: r, rv, vs, e1, e2 => by
    simp only [rvars] at e1
    obtain ⟨rv', h1, hh⟩ := map_some e1
    cases hh
    simp only [results] at e2
    obtain ⟨vs', h2, hh⟩ := map_some e2
    cases hh
    obtain ⟨xs, h3, h4⟩ := results_list hr hE r rv' vs' h1 h2
    refine ⟨a.tmps.getD t undef :: xs, ?_, RepL.append (A := [_]) (X := [_]) ⟨rfl, fun i v x ev ex => ?_⟩ h4⟩
    · simp only [List.mapM_cons, Sem.run_bind, Sem.run_pure, Result.andThen_ok, h3, resOf]
    · cases i with
      | zero => simp only [List.getElem?_cons_zero, Option.some.injEq] at ev ex; subst ev; subst ex; exact tmp_rel hE t
      | succ i => simp at ev
  | .cell ad t :: r, rv, vs, e1, e2 => by
    simp only [rvars] at e1
    split at e1
    · rename_i g i l hg hi hl
      split at e1
      · rename_i hc
        cases e1
        simp only [results] at e2
        cases hat : h.at (fr.getD ad .undef) with
        | none => rw [hat] at e2; cases e2
        | some cs =>
          rw [hat] at e2
          cases hpa : part g i.size cs with
          | none => simp only [Option.bind_some, hpa] at e2; cases e2
          | some u =>
            simp only [Option.bind_some, hpa] at e2
            obtain ⟨vs', h2, hh⟩ := map_some e2
            cases hh
            obtain ⟨xs, h3, h4⟩ := results_list hr hE r l vs' hl h2
            have hv := tmp_rel hE ad
            obtain ⟨y, hy, hrep⟩ := load_ok hr hg hi hc hat hpa hv
            obtain ⟨adr, had⟩ := at_ptr hat hv
            rw [had] at hy
            simp only [Instr.loadAt, Instr.sureAddr, Sem.run_bind, Sem.run_pure, Result.andThen_ok] at hy
            refine ⟨y :: xs, ?_, RepL.append (A := [_]) (X := [_]) ⟨rfl, fun i v x ev ex => ?_⟩ h4⟩
            · have h5 : (resOf a.tmps (.cell ad t)).run P w = .ok y w := by
                simp only [resOf, had, asAddr, Sem.run_bind, Sem.run_pure, Result.andThen_ok, hy]
              simp only [List.mapM_cons, Sem.run_bind, Sem.run_pure, Result.andThen_ok, h3, h5]
            · cases i with
              | zero => simp only [List.getElem?_cons_zero, Option.some.injEq] at ev ex; subst ev; subst ex; exact hrep
              | succ i => simp at ev
      · cases e1
    · cases e1

theorem results_ok (hr : HRel w R ι h) (hE : ERel w R ι fr a) {fn : Func} {rv : List RVar} {vs : List V} (e1 : rvars P fn.results.toList = some rv) (e2 : results h fr rv = some vs) :
    ∃ x, (Go.results fn a.tmps).run P w = .ok x w ∧ Rep w R ι (oneOr vs) x := by
  obtain ⟨xs, h1, h2⟩ := results_list hr hE _ rv vs e1 e2
  have hrun : (Go.results fn a.tmps).run P w = .ok (if hs : xs.toArray.size = 1 then xs.toArray[0] else .tuple xs.toArray) w := by
    rw [results_def]
    have : fn.results = fn.results.toList.toArray := by simp
    rw [this]
    simp only [List.mapM_toArray, Sem.run_bind]
    rw [Sem.run_map, h1]
    rfl
  refine ⟨_, hrun, ?_⟩
  have hl := h2.1
  match vs, xs, hl, h2 with
  | [v], [x], _, h2 => exact h2.2 0 v x rfl rfl
  | [], [], _, h2 => exact .tup [] [] rfl (by simp)
  | v :: v2 :: r, x :: x2 :: s, hl, h2 =>
    have : ¬ ((x :: x2 :: s).toArray.size = 1) := by simp
    rw [dif_neg this]
    exact .tup _ _ hl h2.2
end
end Go.Ab

namespace Go.Ab
section
variable {P : Program} {G : Nat → Option V} {w w' w'' : World} {R R' R'' : Nat → Prop} {ι ι' ι'' : Nat → Option Loc} {h h' h'' : Heap} {fr : List V} {a : Act}

theorem elems_spec {sz : Nat} (hs : 0 < sz) : ∀ (n : Nat) (l : List V), n * sz ≤ l.length → (∀ v ∈ l, v.one = true) → (elems sz n l).length = n ∧ (∀ e ∈ elems sz n l, e.cells.length = sz) ∧ (elems sz n l).flatMap V.cells = l.take (n * sz)
  | 0, l, _, _ => by simp [elems]
  | n + 1, l, hl, ho => by
    rw [Nat.add_mul] at hl
    obtain ⟨i1, i2, i3⟩ := elems_spec hs n (l.drop sz) (by simp; omega) (fun v hv => ho v (List.mem_of_mem_drop hv))
    have hcell : (if sz = 1 then l.headD .undef else .agg (l.take sz)).cells = l.take sz := by
      split
      · rename_i h1
        subst h1
        cases l with
        | nil => simp at hl
        | cons v r =>
          have := ho v (by simp)
          cases v <;> simp [V.one] at this <;> rfl
      · rfl
    refine ⟨by simp [elems, i1], ?_, ?_⟩
    · intro e he
      simp only [elems, List.mem_cons] at he
      rcases he with rfl | he
      · rw [hcell, List.length_take]; omega
      · exact i2 e he
    · simp only [elems, List.flatMap_cons, hcell, i3]
      have : (n + 1) * sz = sz + n * sz := by rw [Nat.add_mul]; omega
      rw [this, List.take_add]

/-- what keeps its cells -/
theorem freeze_one {h : Heap} {n k : Nat} {v v' : V} (e : freeze h n k v = some v') (ho : v.one = true) : v'.one = true ∧ v'.cells.length = 1 := by
  cases k with
  | zero => simp [freeze] at e
  | succ k =>
    unfold freeze at e
    split at e
    · split at e
      · cases e; exact ⟨rfl, rfl⟩
      · split at e
        · split at e
          · cases hf : freezes h n k (elems _ _ (List.drop _ _)) with
            | none => rw [hf] at e; cases e
            | some es =>
              rw [hf] at e
              simp only [Option.bind_some] at e
              split at e
              · cases e; exact ⟨rfl, rfl⟩
              · cases e
          · cases e
        · cases e
    · split at e
      · cases e; exact ⟨rfl, rfl⟩
      · cases e
    · split at e
      · cases e; exact ⟨rfl, rfl⟩
      · cases e
    · simp [V.one] at ho
    · simp [V.one] at ho
    · rename_i f a cs
      cases hf : freezes h n k a with
      | none => rw [hf] at e; cases e
      | some as =>
        rw [hf] at e
        simp only [Option.bind_some] at e
        obtain ⟨y, _, hh⟩ := map_some e
        cases hh; exact ⟨rfl, rfl⟩
    · obtain ⟨y, _, hh⟩ := map_some e
      cases hh; exact ⟨rfl, rfl⟩
    · rename_i h1 h2 h3 h4 h5 h6 h7
      cases e
      cases v <;> simp [V.one] at ho <;> first | exact ⟨rfl, rfl⟩ | (exfalso; exact h1 _ _ _ _ _ rfl) 

theorem freezes_at {h : Heap} {n : Nat} : ∀ {k : Nat} {vs us : List V}, freezes h n k vs = some us → us.length = vs.length ∧ ∀ (i : Nat) v u, vs[i]? = some v → us[i]? = some u → ∃ k', k' < k ∧ freeze h n k' v = some u
  | k, [], us, e => by
    cases k <;> (simp [freezes] at e; subst e; simp)
  | 0, v :: r, us, e => by simp [freezes] at e
  | k + 1, v :: r, us, e => by
    simp only [freezes] at e
    cases hf : freeze h n k v with
    | none => rw [hf] at e; cases e
    | some v' =>
      rw [hf] at e
      simp only [Option.bind_some] at e
      obtain ⟨r', hr, hh⟩ := map_some e
      cases hh
      obtain ⟨i1, i2⟩ := freezes_at hr
      refine ⟨by simp [i1], fun i x u ex eu => ?_⟩
      cases i with
      | zero => simp at ex eu; subst ex; subst eu; exact ⟨k, Nat.lt_succ_self k, hf⟩
      | succ i =>
        obtain ⟨k', h1, h2⟩ := i2 i x u (by simpa using ex) (by simpa using eu)
        exact ⟨k', by omega, h2⟩

theorem one_cells' {v : V} (h : v.one = true) : v.cells = [v] := by cases v <;> first | rfl | cases h

/-- an element's cells, frozen -/
theorem freeze_cells {h : Heap} {n k : Nat} {e e' : V} (hf : freeze h n k e = some e') (ho : ∀ v ∈ e.cells, v.one = true) (hne : e.cells ≠ []) :
    e'.cells.length = e.cells.length ∧ (∀ v ∈ e'.cells, v.one = true) ∧ ∀ (i : Nat) v u, e.cells[i]? = some v → e'.cells[i]? = some u → ∃ k', k' ≤ k ∧ freeze h n k' v = some u := by
  by_cases h1 : e.one = true
  · obtain ⟨g1, g2⟩ := freeze_one hf h1
    rw [one_cells' h1, one_cells' g1]
    refine ⟨rfl, by simpa using g1, fun i v u ev eu => ?_⟩
    cases i with
    | zero => simp at ev eu; subst ev; subst eu; exact ⟨k, Nat.le_refl _, hf⟩
    | succ i => simp at ev
  · cases e with
    | agg cs =>
      cases k with
      | zero => simp [freeze] at hf
      | succ k =>
        simp only [freeze] at hf
        obtain ⟨us, hus, hh⟩ := map_some hf
        cases hh
        obtain ⟨i1, i2⟩ := freezes_at hus
        refine ⟨i1, fun u hu => ?_, fun i v u ev eu => ?_⟩
        · obtain ⟨j, hj⟩ := List.mem_iff_getElem?.1 hu
          have hj' : j < cs.length := by rw [← i1]; exact (List.getElem?_eq_some_iff.1 hj).1
          obtain ⟨k', _, hk⟩ := i2 j _ u (List.getElem?_eq_getElem hj') hj
          exact (freeze_one hk (ho _ (List.getElem_mem hj'))).1
        · obtain ⟨k', h1, h2⟩ := i2 i v u ev eu
          exact ⟨k', by omega, h2⟩
    | undef => exact absurd rfl hne
    | tup _ => exact absurd rfl hne
    | _ => exact absurd rfl h1

theorem freezes_flat {h : Heap} {n : Nat} {sz : Nat} (hs : 0 < sz) : ∀ {k : Nat} {vs us : List V}, freezes h n k vs = some us → (∀ e ∈ vs, e.cells.length = sz) → (∀ v ∈ vs.flatMap V.cells, v.one = true) →
    us.length = vs.length ∧ (∀ e ∈ us, e.cells.length = sz) ∧ (∀ v ∈ us.flatMap V.cells, v.one = true) ∧ (us.flatMap V.cells).length = (vs.flatMap V.cells).length ∧
    ∀ (i : Nat) v u, (vs.flatMap V.cells)[i]? = some v → (us.flatMap V.cells)[i]? = some u → ∃ k', k' < k ∧ freeze h n k' v = some u
  | k, [], us, e, _, _ => by
    cases k <;> (simp [freezes] at e; subst e; simp)
  | 0, v :: r, us, e, _, _ => by simp [freezes] at e
  | k + 1, v :: r, us, e, hsz, ho => by
    simp only [freezes] at e
    cases hf : freeze h n k v with
    | none => rw [hf] at e; cases e
    | some v' =>
      rw [hf] at e
      simp only [Option.bind_some] at e
      obtain ⟨r', hr, hh⟩ := map_some e
      cases hh
      obtain ⟨i1, i2, i3, i4, i5⟩ := freezes_flat hs hr (fun e he => hsz e (by simp [he])) (fun u hu => ho u (by simp only [List.flatMap_cons, List.mem_append]; exact .inr hu))
      have hl := hsz v (by simp)
      obtain ⟨c1, c2, c3⟩ := freeze_cells hf (fun u hu => ho u (by simp only [List.flatMap_cons, List.mem_append]; exact .inl hu)) (by intro hc; rw [hc] at hl; simp at hl; omega)
      refine ⟨by simp [i1], ?_, ?_, ?_, fun i x u ex eu => ?_⟩
      · intro e he
        rcases List.mem_cons.1 he with rfl | he
        · rw [c1, hl]
        · exact i2 e he
      · intro u hu
        simp only [List.flatMap_cons, List.mem_append] at hu
        rcases hu with hu | hu
        · exact c2 u hu
        · exact i3 u hu
      · simp only [List.flatMap_cons, List.length_append, c1, i4]
      · simp only [List.flatMap_cons] at ex eu
        rcases Nat.lt_or_ge i v.cells.length with hi | hi
        · rw [List.getElem?_append_left hi] at ex
          rw [List.getElem?_append_left (by omega)] at eu
          obtain ⟨k', h1, h2⟩ := c3 i x u ex eu
          exact ⟨k', by omega, h2⟩
        · rw [List.getElem?_append_right hi] at ex
          rw [List.getElem?_append_right (by omega), c1] at eu
          obtain ⟨k', h1, h2⟩ := i5 _ x u ex eu
          exact ⟨k', by omega, h2⟩

theorem lows_flat {n : Nat} : ∀ {es : List V}, V.lows n es = true → V.lows n (es.flatMap V.cells) = true := by
  intro es h
  refine lows_spec.2 fun v hv => ?_
  obtain ⟨e, he, hv⟩ := List.mem_flatMap.1 hv
  have h1 := lows_spec.1 h e he
  cases e with
  | agg cs => simp only [V.low] at h1; exact lows_spec.1 h1 v hv
  | undef => simp [V.cells] at hv
  | tup _ => simp [V.cells] at hv
  | _ => simp [V.cells] at hv; subst hv; exact h1

theorem freeze_ok (hr : HRel w R ι h) {n : Nat} (hR : ∀ b, R b → R'' b) (hlive : ∀ id blk loc, n ≤ id → h.get id = some blk → ι id = some loc → R'' loc.b) (hι : ∀ id, id < n → ι'' id = ι id) :
    ∀ (k : Nat) (v u : V) (x : Value), freeze h n k v = some u → Rep w R ι v x → Rep w R'' ι'' u x := by
  intro k
  induction k using Nat.strongRecOn with
  | _ k ih =>
  intro v u x e hv
  have ihl : ∀ {vs us : List V} {xs : List Value} {k' : Nat}, k' ≤ k → freezes h n k' vs = some us → vs.length = xs.length → (∀ (i : Nat) v y, vs[i]? = some v → xs[i]? = some y → Rep w R ι v y) → us.length = xs.length ∧ ∀ (i : Nat) u y, us[i]? = some u → xs[i]? = some y → Rep w R'' ι'' u y := by
    intro vs us xs k' hk' hf hl hrep
    obtain ⟨i1, i2⟩ := freezes_at hf
    refine ⟨by rw [i1, hl], fun i u y eu ey => ?_⟩
    have hi : i < vs.length := by rw [← i1]; exact (List.getElem?_eq_some_iff.1 eu).1
    obtain ⟨k2, h1, h2⟩ := i2 i _ u (List.getElem?_eq_getElem hi) eu
    exact ih k2 (by omega) _ _ _ h2 (hrep i _ y (List.getElem?_eq_getElem hi) ey)
  have low0 : ∀ {v : V} {x : Value}, V.low 0 v = true → Rep w R ι v x → Rep w R'' ι'' v x := fun hl hv =>
    (hv.forget (n := 0) (ι' := ι'') (fun id hid => absurd hid (Nat.not_lt_zero _)) hl).mono hR (fun _ _ => rfl) (fun _ _ h => h)
  have lown : ∀ {v : V} {x : Value}, V.low n v = true → Rep w R ι v x → Rep w R'' ι'' v x := fun hl hv =>
    (hv.forget (n := n) (ι' := ι'') hι hl).mono hR (fun _ _ => rfl) (fun _ _ h => h)
  cases k with
  | zero => simp [freeze] at e
  | succ k =>
    unfold freeze at e
    split at e
    · rename_i id sz off len cap
      split at e
      · rename_i hid
        cases e
        exact lown (by simp only [V.low, decide_eq_true_eq]; exact hid) hv
      · rename_i hid
        split at e
        · rename_i l hl
          split at e
          · rename_i hc
            simp only [Bool.and_eq_true, decide_eq_true_eq] at hc
            cases hf : freezes h n k (elems sz len (l.drop (off * sz))) with
            | none => rw [hf] at e; cases e
            | some es =>
              rw [hf] at e
              simp only [Option.bind_some] at e
              split at e
              · rename_i hlow
                cases e
                cases hv with
                | msl _ _ _ _ _ loc c hι' hlc hfull hcap =>
                  have hg := cellsOf_get hl
                  obtain ⟨cur, te, g1, g2, g3, g4, g5⟩ := hr.cells id l loc hg hι'
                  have hfit : len * sz ≤ (l.drop (off * sz)).length := by
                    rw [List.length_drop]; have := hc.1; rw [Nat.add_mul] at this; omega
                  have hone : ∀ v ∈ l.drop (off * sz), v.one = true := fun v hv => g4 v (List.mem_of_mem_drop hv)
                  obtain ⟨e1, e2, e3⟩ := elems_spec hc.2 len (l.drop (off * sz)) hfit hone
                  obtain ⟨f1, f2, f3, f4, f5⟩ := freezes_flat hc.2 hf e2 (by rw [e3]; exact fun v hv => hone v (List.mem_of_mem_take hv))
                  have hval : ∀ (i : Nat) u, (es.flatMap V.cells)[i]? = some u → ∃ y, cur[off * sz + i]? = some y ∧ Rep w R'' ι'' u y := by
                    intro i u eu
                    have hi : i < ((elems sz len (l.drop (off * sz))).flatMap V.cells).length := by rw [← f4]; exact (List.getElem?_eq_some_iff.1 eu).1
                    obtain ⟨k2, h1, h2⟩ := f5 i _ u (List.getElem?_eq_getElem hi) eu
                    have hx : ((elems sz len (l.drop (off * sz))).flatMap V.cells)[i]? = some (((elems sz len (l.drop (off * sz))).flatMap V.cells)[i]) := List.getElem?_eq_getElem hi
                    generalize ((elems sz len (l.drop (off * sz))).flatMap V.cells)[i] = z at hx h2
                    rw [e3, List.getElem?_take] at hx
                    split at hx
                    · rw [List.getElem?_drop] at hx
                      obtain ⟨y, hy, hrp⟩ := g5 _ z hx
                      exact ⟨y, hy, ih k2 (by omega) _ _ _ h2 hrp⟩
                    · cases hx
                  have := Rep.fsl (w := w) (R := R'') (ι := ι'') es cap ⟨loc.b, off * sz, none⟩ c sz (fun i => (cur[off * sz + i]?).getD undef) rfl (hlive id _ loc (by omega) hg hι')
                    (by rw [f1, e1]; exact hlc) hcap f2 f3 (lows_flat hlow)
                    (fun i v ev => by
                      obtain ⟨y, hy, _⟩ := hval i v ev
                      simp [World.cell?, g1, hy])
                    (fun i v ev => by
                      obtain ⟨y, hy, hrp⟩ := hval i v ev
                      simp only [hy, Option.getD_some]; exact hrp)
                  rw [f1, e1] at this
                  exact this
              · cases e
          · cases e
        · cases e
    · split at e
      · rename_i hid
        cases e
        exact lown (by simp only [V.low, decide_eq_true_eq]; exact hid) hv
      · cases e
    · split at e
      · rename_i hid
        cases e
        exact lown (by simp only [V.low, decide_eq_true_eq]; exact hid) hv
      · cases e
    · obtain ⟨us, hus, hh⟩ := map_some e
      cases hh
      cases hv with
      | agg cs' xs hl hone hrep =>
        obtain ⟨g1, g2⟩ := ihl (by omega) hus hl hrep
        refine .agg us xs g1 (fun u hu => ?_) g2
        obtain ⟨i1, i2⟩ := freezes_at hus
        obtain ⟨j, hj⟩ := List.mem_iff_getElem?.1 hu
        have hj' := (List.getElem?_eq_some_iff.1 hj).1
        rw [i1] at hj'
        obtain ⟨k', _, hk⟩ := i2 j _ u (List.getElem?_eq_getElem hj') hj
        exact (freeze_one hk (hone _ (List.getElem_mem hj'))).1
    · obtain ⟨us, hus, hh⟩ := map_some e
      cases hh
      cases hv with
      | tup cs xs hl hrep =>
        obtain ⟨g1, g2⟩ := ihl (by omega) hus hl hrep
        exact .tup us xs g1 g2
    · rename_i f as cs
      cases hf : freezes h n k as with
      | none => rw [hf] at e; cases e
      | some as' =>
        rw [hf] at e
        simp only [Option.bind_some] at e
        obtain ⟨cs', hcs, hh⟩ := map_some e
        cases hh
        cases hv with
        | fn _ _ _ xs ys hl hl' hr1 hr2 =>
          obtain ⟨g1, g2⟩ := ihl (by omega) hf hl hr1
          obtain ⟨g3, g4⟩ := ihl (by omega) hcs hl' hr2
          exact .fn f as' cs' xs ys g1 g3 g2 g4
    · obtain ⟨y, hy, hh⟩ := map_some e
      cases hh
      cases hv with
      | ifc _ _ x hv => exact .ifc _ y x (ih k (by omega) _ _ _ hy hv)
    · rename_i h1 h2 h3 h4 h5 h6 h7
      cases e
      refine low0 ?_ hv
      cases v <;> first | rfl | (exfalso; exact h1 _ _ _ _ _ rfl) | (exfalso; exact h2 _ _ rfl) | (exfalso; exact h3 _ rfl) | (exfalso; exact h4 _ rfl) | (exfalso; exact h5 _ rfl) | (exfalso; exact h6 _ _ _ rfl) | (exfalso; exact h7 _ _ rfl)

/-- what remains of a call's heap -/
theorem Post.tidied (hr : HRel w R ι h) (p : Post w R ι { h with floors := h.next :: h.floors } w' R' ι' h') :
    Post w R ι h w' (fun b => R' b ∨ ∃ id blk loc, h.next ≤ id ∧ h'.get id = some blk ∧ ι' id = some loc ∧ loc.b = b) (fun id => if id < h.next then ι' id else none) (h'.tidied h) := by
  have hn : h.next ≤ h'.next := p.next
  have hget : ∀ id blk, (h'.tidied h).get id = some blk → id < h.next ∧ h'.get id = some blk := fun id blk e => by
    have hlt : id < h.next := get_lt (h := h'.tidied h) e
    rw [get_tidied hlt hn] at e
    exact ⟨hlt, e⟩
  have hfl : h'.floors = h.next :: h.floors := p.floors
  refine ⟨⟨?_, ?_, ?_, ?_, ?_, ?_, ?_, ?_, ?_, ?_⟩, fun b hb => .inl (p.sub b hb), fun id hid => ?_, p.size, p.os, p.tape, p.output, p.keep, ?_, ?_, Nat.le_refl _, rfl, fun b hb => by
    have own' : ∀ id blk loc, h'.get id = some blk → ι' id = some loc → loc.b = b → R b ∨ w.heap.size ≤ b ∨ ∃ id blk loc, h.get id = some blk ∧ ι id = some loc ∧ loc.b = b := fun id blk loc e0 e1 e2 => by
      rcases p.own id blk loc e0 e1 with hge | ⟨id0, blk0, loc0, f0, f1, f2⟩
      · exact .inr (.inl (e2 ▸ hge))
      · exact .inr (.inr ⟨id0, blk0, loc0, f0, f1, f2.trans e2⟩)
    rcases hb with hb | ⟨id, blk, loc, _, e0, e1, e2⟩
    · exact p.news b hb
    · exact own' id blk loc e0 e1 e2⟩
  · simp only [Heap.tidied, List.length_drop, p.rel.len]; omega
  · intro id hid
    have hid' : h.next ≤ id := hid
    have : ¬ id < h.next := by omega
    simp [this]
  · rintro b (hb | ⟨id, blk, loc, h1, h2, h3, rfl⟩)
    · exact p.rel.lt b hb
    · exact p.rel.blk_lt h2 h3
  · intro id l loc e e'
    obtain ⟨hlt, e⟩ := hget id _ e
    simp only [hlt, if_true] at e'
    obtain ⟨cur, te, g1, g2, g3, g4, g5⟩ := p.rel.cells id l loc e e'
    refine ⟨cur, te, g1, g2, g3, g4, fun i v ev => ?_⟩
    obtain ⟨x, hx, hv⟩ := g5 i v ev
    have hlow := p.rel.low h.next (by rw [hfl]; simp) id l loc hlt e e'
    refine ⟨x, hx, (hv.forget (n := h.next) (ι' := fun id => if id < h.next then ι' id else none) (fun id hid => by simp [hid]) (low_at hlow ev)).mono (fun b hb => .inl hb) (fun _ _ => rfl) (fun _ _ h => h)⟩
  · intro id es loc e e'
    obtain ⟨hlt, e⟩ := hget id _ e
    simp only [hlt, if_true] at e'
    have hlow := p.rel.lowM h.next (by rw [hfl]; simp) id es loc hlt e e'
    have conv : ∀ {v x}, V.low h.next v = true → Rep w' R' ι' v x → Rep w' (fun b => R' b ∨ ∃ id blk loc, h.next ≤ id ∧ h'.get id = some blk ∧ ι' id = some loc ∧ loc.b = b) (fun id => if id < h.next then ι' id else none) v x := fun hl hv =>
      (hv.forget (n := h.next) (ι' := fun id => if id < h.next then ι' id else none) (fun id hid => by simp [hid]) hl).mono (fun b hb => .inl hb) (fun _ _ => rfl) (fun _ _ h => h)
    exact (p.rel.maps id es loc e e').moveL rfl fun q hq => ⟨fun _ => conv (hlow q hq).1, fun _ => conv (hlow q hq).2⟩
  · intro id id' blk blk' loc loc' e e' f f' hne
    obtain ⟨h1, e⟩ := hget id _ e
    obtain ⟨h2, e'⟩ := hget id' _ e'
    simp only [h1, h2, if_true] at f f'
    exact p.rel.inj id id' blk blk' loc loc' e e' f f' hne
  · rintro id blk loc e f (hb | ⟨id2, blk2, loc2, h1, h2, h3, h4⟩)
    · obtain ⟨hlt, e⟩ := hget id _ e
      simp only [hlt, if_true] at f
      exact p.rel.apart id blk loc e f hb
    · obtain ⟨hlt, e⟩ := hget id _ e
      simp only [hlt, if_true] at f
      exact p.rel.inj id2 id blk2 blk loc2 loc h2 e h3 f (by omega) h4
  · intro f hf id l loc hid e e'
    obtain ⟨hlt, e⟩ := hget id _ e
    simp only [hlt, if_true] at e'
    exact p.rel.low f (by rw [hfl]; exact List.mem_cons_of_mem _ hf) id l loc hid e e'
  · intro f hf; exact hr.floor f hf
  · intro f hf id es loc hid e e'
    obtain ⟨hlt, e⟩ := hget id _ e
    simp only [hlt, if_true] at e'
    exact p.rel.lowM f (by rw [hfl]; exact List.mem_cons_of_mem _ hf) id es loc hid e e'
  · simp only [hid, if_true]; exact p.names id hid
  · intro id blk loc e f
    obtain ⟨hlt, e⟩ := hget id _ e
    simp only [hlt, if_true] at f
    exact p.own id blk loc e f
  · intro id hid hno
    rw [get_tidied hid hn]
    exact p.ghost id hid hno

/-- a floor at the heap's end -/
theorem HRel.floored (hr : HRel w R ι h) : HRel w R ι { h with floors := h.next :: h.floors } where
  len := hr.len
  none := hr.none
  lt := hr.lt
  cells := hr.cells
  maps := hr.maps
  inj := hr.inj
  apart := hr.apart
  low := fun f hf id l loc hid e e' => by
    rcases List.mem_cons.1 hf with rfl | hf
    · obtain ⟨cur, te, g1, g2, g3, g4, g5⟩ := hr.cells id l loc e e'
      refine lows_of_at fun i v ev => ?_
      obtain ⟨x, hx, hv⟩ := g5 i v ev
      exact hv.low hr.none
    · exact hr.low f hf id l loc hid e e'
  floor := fun f hf => by
    rcases List.mem_cons.1 hf with rfl | hf
    · exact Nat.le_refl _
    · exact hr.floor f hf
  lowM := fun f hf id es loc hid e e' => by
    rcases List.mem_cons.1 hf with rfl | hf
    · obtain ⟨ents, clock, g1, g2, g3⟩ := hr.maps id es loc e e'
      intro q hq
      obtain ⟨i, hi⟩ := List.mem_iff_getElem?.1 hq
      obtain ⟨me, _, k2, k3⟩ := g3 i q.1 q.2 hi
      exact ⟨k2.low hr.none, k3.low hr.none⟩
    · exact hr.lowM f hf id es loc hid e e'
end
end Go.Ab

namespace Go.Ab

/-- the codes that the abstract machine runs are the program's functions -/
structure CodeOk (P : Program) (G : Nat → Option V) (C : Ctx) : Prop where
  code : ∀ f af, C.code f = some af → ∃ fn c, P.funcs[f]? = some fn ∧ fn.name ≠ "runtime.NumGoroutine" ∧ fn.body = some c ∧ af.ntmps = fn.ntmps ∧ acode P G c = some af.body ∧ rvars P fn.results.toList = some af.results
  orc : ∀ f g, C.orc f = some g → CallsOk P G (fun f' args h => if f' = f then g args h else none)

/-- regions whose order is drawn -/
def DrawOk (P : Program) (G : Nat → Option V) (C : Ctx) : Prop :=
  ∀ (self : ACode → St → Option (Ex × St)), CallsOk P G (callF C self) → ∀ (id : Nat) (ops : Array Oper) (ss : List Step), region P G ops.toList true = some ss →
    ∀ (st : St) (a : Act) (w : World) (R : Nat → Prop) (ι : Nat → Option Loc) (ex : Ex) (st' : St), wiped ss (steps C self ss st) = some (ex, st') → SRel G st a w R ι → (Code.region id ops true).wp P (QOf G w R ι st.h ex st') a w

section
variable {P : Program} {G : Nat → Option V} {w w' w'' : World} {R R' R'' : Nat → Prop} {ι ι' ι'' : Nat → Option Loc} {h h' h'' : Heap} {fr : List V} {a : Act}

theorem region_ok {C : Ctx} (hD : DrawOk P G C) {self : ACode → St → Option (Ex × St)} (hC : CallsOk P G (callF C self)) {id : Nat} {ops : Array Oper} {d : Bool} {ss : List Step} (hr : region P G ops.toList d = some ss)
    {st st' : St} {ex : Ex} (e : wiped ss (steps C self ss st) = some (ex, st')) (hS : SRel G st a w R ι) : (Code.region id ops d).wp P (QOf G w R ι st.h ex st') a w := by
  cases d with
  | true => exact hD self hC id ops ss hr st a w R ι ex st' e hS
  | false =>
    unfold region at hr
    split at hr
    · cases hr
    · rename_i as has
      simp only [Bool.false_eq_true, if_false] at hr
      have hlen : ops.toList.length = ops.size := Array.length_toList
      refine wp_region ?_
      rw [← hlen]
      obtain ⟨st1, e1, rfl⟩ := wiped_some e
      exact wpOps_mono (fun _ _ _ q => q.wipe ss) _ _ _ (plain_ok hC (r := { ops := ops.toList, aops := as, anc := [] }) rfl has _ ss st a w R ι ex st1 hr e1 hS)

theorem init_rel {n : Nat} {xs : Array Value} (hx : RepL w R ι fr xs.toList) : ERel w R ι (fr ++ List.replicate (n - fr.length) .undef) { tmps := xs ++ Array.replicate (n - xs.size) undef, defers := [] } := by
  have hl : fr.length = xs.size := by rw [hx.1, Array.length_toList]
  refine ⟨by simp [hl], fun i v x ev ex => ?_⟩
  rcases Nat.lt_or_ge i fr.length with hi | hi
  · rw [List.getElem?_append_left hi] at ev
    rw [Array.getElem?_append_left (by omega)] at ex
    exact hx.2 i v x ev (by rw [Array.getElem?_toList]; exact ex)
  · rw [List.getElem?_append_right hi] at ev
    have : v = .undef := List.eq_of_mem_replicate (List.mem_of_getElem? ev)
    subst this
    exact .undef x

/-- how a function is being left -/
def MdRel (w : World) (R : Nat → Prop) (ι : Nat → Option Loc) : Md → FrameMode → Prop
  | .ret, u => u = .returning
  | .pan v, u => ∃ x, u = .panicking [{ v := x, recovered := false }] ∧ Rep w R ι v x
  | .caught v, u => ∃ x, u = .panicking [{ v := x, recovered := true }] ∧ Rep w R ι v x

theorem MdRel.keep {m : Md} {u : FrameMode} (hr : HRel w R ι h) (p : Post w R ι h w' R' ι' h') (hm : MdRel w R ι m u) : MdRel w' R' ι' m u := by
  cases m with
  | ret => exact hm
  | pan v => obtain ⟨x, h1, h2⟩ := hm; exact ⟨x, h1, p.val hr h2⟩
  | caught v => obtain ⟨x, h1, h2⟩ := hm; exact ⟨x, h1, p.val hr h2⟩

/-- what a deferred function's code leaves behind -/
def QS (G : Nat → Option V) (c0 : Frame) (cs : List Frame) (w0 : World) (R0 : Nat → Prop) (ι0 : Nat → Option Loc) (h0 : Heap) (ex : Ex) (m : Md) (st : St) (e : Exit) (a : Act) (cs' : List Frame) (w : World) : Prop :=
  ∃ R ι u, cs' = { c0 with mode := u } :: cs ∧ MdRel w R ι m u ∧ Post w0 R0 ι0 h0 w R ι st.h ∧ GRel G w R ι ∧ DRel w R ι st.ds a.defers ∧ Ends w R ι st.fr a e ex

theorem QS.trans {c0 : Frame} {cs : List Frame} {ex : Ex} {m : Md} {st : St} (p : Post w R ι h w' R' ι' h') {e : Exit} {a : Act} {cs' : List Frame} {w2 : World} (q : QS G c0 cs w' R' ι' h' ex m st e a cs' w2) : QS G c0 cs w R ι h ex m st e a cs' w2 := by
  obtain ⟨R2, ι2, u, h1, h2, hp, rest⟩ := q
  exact ⟨R2, ι2, u, h1, h2, p.trans hp, rest⟩

theorem wpS_mono {c : Code} {Q Q' : Exit → Act → List Frame → World → Prop} {cs : List Frame} (hq : ∀ e a cs w, Q e a cs w → Q' e a cs w) (h : c.wpS P Q a cs w) : c.wpS P Q' a cs w :=
  fun b k hb hr => let ⟨e, a', cs', w', q, r⟩ := h b k hb hr; ⟨e, a', cs', w', hq _ _ _ _ q, r⟩

theorem wpOpsS_mono {ops : Array Oper} {Q Q' : Exit → Act → List Frame → World → Prop} (hq : ∀ e a cs w, Q e a cs w → Q' e a cs w) : ∀ (l : List Nat) (a : Act) (cs : List Frame) (w : World), wpOpsS P ops Q l a cs w → wpOpsS P ops Q' l a cs w
  | [], a, cs, w, h => hq _ _ _ _ h
  | i :: rest, a, cs, w, h => by
    simp only [wpOpsS] at h ⊢
    cases ho : ops[i]? with
    | none => simp only [ho] at h ⊢; exact wpOpsS_mono hq rest _ _ _ h
    | some o =>
      simp only [ho] at h ⊢
      by_cases hw : Region.wanted o (yielded ops a.tmps) = true
      · simp only [hw, if_true] at h ⊢
        split
        · rename_i w' hr
          simp only [hr] at h
          split
          · rename_i v cs' hrec
            simp only [hrec] at h
            exact wpOpsS_mono hq rest _ _ _ h
          · rename_i hrec
            simp only [hrec] at h
            exact wpOpsS_mono hq rest _ _ _ h
        · rename_i r hnot
          split at h
          · rename_i w' hr; exact absurd hr (hnot _)
          · exact upon_mono (fun a w h => wpOpsS_mono hq rest _ _ _ h) (fun e a w h => hq _ _ _ _ h) h
      · simp only [hw, if_false, Bool.false_eq_true] at h ⊢
        exact wpOpsS_mono hq rest _ _ _ h

theorem aop_recover {o : Oper} (ha : aop P G o = some .recover) : ∃ c, o.op = .call c ∧ c.callee = .builtin .recover := by
  unfold aop at ha
  cases ho : o.op with
  | call c =>
    simp only [ho] at ha
    split at ha
    case h_7 => rename_i hc _; exact ⟨c, rfl, hc⟩
    all_goals (repeat' (first | (cases ha; done) | (obtain ⟨_, _, hh⟩ := map_some ha; cases hh; done) | split at ha))
  | makeFunc f first caps =>
    simp only [ho] at ha
    cases f <;> simp only at ha <;> repeat' (first | (cases ha; done) | split at ha)
  | _ =>
    simp only [ho] at ha
    repeat' (first | (cases ha; done) | (obtain ⟨_, _, hh⟩ := map_some ha; cases hh; done) | (obtain ⟨_, _, hb⟩ := Option.bind_eq_some_iff.1 ha; obtain ⟨_, _, hh⟩ := map_some hb; cases hh; done) | split at ha)

theorem stepsR_ok {ops : Array Oper} {r : RIn} (hops : r.ops = ops.toList) (has : aops P G r.ops = some r.aops) {c0 : Frame} {cs : List Frame} :
    ∀ (l : List Nat) (ss : List Step) (m : Md) (st : St) (u : FrameMode) (a : Act) (w : World) (R : Nat → Prop) (ι : Nat → Option Loc) (m' : Md) (st' : St), plainSteps r l = some ss → stepsR ss m st = some (m', st') → SRel G st a w R ι → MdRel w R ι m u →
    wpOpsS P ops (QS G c0 cs w R ι st.h .nrm m' st') l a ({ c0 with mode := u } :: cs) w
  | [], ss, m, st, u, a, w, R, ι, m', st', hp, e, hS, hm => by
    cases hp; cases e
    exact ⟨R, ι, u, rfl, hm, Post.refl hS.heap, hS.glob, hS.ds, rfl, hS.fr⟩
  | i :: l, ss, m, st, u, a, w, R, ι, m', st', hp, e, hS, hm => by
    unfold plainSteps at hp
    split at hp
    · rename_i s t hs ht
      cases hp
      obtain ⟨o, ho, hao, hd, hchk, hg⟩ := stepOf_spec hops has hs
      simp only [stepsR] at e
      split at e
      · rename_i m1 st1 h1
        unfold stepR at h1
        split at h1
        · rename_i hgc
          simp only [Bool.and_eq_true, Option.isNone_iff_eq_none] at hgc
          have hw : Region.wanted o (yielded ops a.tmps) = true := wanted_ok hS.fr hg (by rw [hgc.1]; rfl)
          simp only [wpOpsS, ho, hw, if_true]
          have near : ∀ {v : V} {h1 : Heap}, op1 st.fr st.h s.op = some (v, h1) → m1 = m → st1 = { st with fr := Ab.put st.fr s.dst v, h := h1 } →
              (match (execOp a.eval o).run P w with
              | .ok .recover w' => (match recoverD ({ c0 with mode := u } :: cs) with
                | some (v, cs') => wpOpsS P ops (QS G c0 cs w R ι st.h .nrm m' st') l (a.put o.dst v) cs' w'
                | none => wpOpsS P ops (QS G c0 cs w R ι st.h .nrm m' st') l (a.put o.dst .nilIface) ({ c0 with mode := u } :: cs) w')
              | r => o.upon P a (fun a' w' => wpOpsS P ops (QS G c0 cs w R ι st.h .nrm m' st') l a' ({ c0 with mode := u } :: cs) w') (fun e a' w' => QS G c0 cs w R ι st.h .nrm m' st' e a' ({ c0 with mode := u } :: cs) w') r) := by
            intro v h1 hv hm1 hst1
            subst hm1; subst hst1
            obtain ⟨w', R', ι', hp, hx | hx⟩ := op1_ok hS.heap hS.glob hS.fr hao hv
            · obtain ⟨x, hx, hr⟩ := hx
              rw [hx]
              simp only [Oper.upon_value]
              rw [← hd]
              exact wpOpsS_mono (fun _ _ _ _ q => q.trans hp) l _ _ _ (stepsR_ok hops has l t _ _ u _ w' R' ι' m' st' ht e ((hS.keep hp).put hr) (hm.keep hS.heap hp))
            · obtain ⟨hx, rfl⟩ := hx
              rw [hx]
              simp only [Oper.upon_skip]
              rw [← hd]
              exact wpOpsS_mono (fun _ _ _ _ q => q.trans hp) l _ _ _ (stepsR_ok hops has l t _ _ u _ w' R' ι' m' st' ht e ((hS.keep hp).put (.undef _)) (hm.keep hS.heap hp))
          cases hop : s.op with
          | recover =>
            rw [hop] at h1 hao
            obtain ⟨c, hc1, hc2⟩ := aop_recover hao
            have hrun : (execOp a.eval o).run P w = .ok .recover w := by rw [exec_builtin hc1 hc2]; rfl
            rw [hrun]
            simp only
            cases m with
            | pan v =>
              cases h1
              obtain ⟨x, rfl, hx⟩ := hm
              simp only [recoverD]
              rw [← hd]
              have := stepsR_ok (c0 := c0) (cs := cs) hops has l t (.caught v) { st with fr := Ab.put st.fr s.dst v } (.panicking [{ v := x, recovered := true }]) _ w R ι m' st' ht e (hS.put hx) ⟨x, rfl, hx⟩
              exact this
            | ret =>
              cases h1
              have hu : u = .returning := hm
              subst hu
              simp only [recoverD]
              rw [← hd]
              have := stepsR_ok (c0 := c0) (cs := cs) hops has l t .ret { st with fr := Ab.put st.fr s.dst .nilifc } .returning _ w R ι m' st' ht e (hS.put .nilifc) hm
              exact this
            | caught v =>
              cases h1
              obtain ⟨x, rfl, hx⟩ := hm
              simp only [recoverD]
              rw [← hd]
              have := stepsR_ok (c0 := c0) (cs := cs) hops has l t (.caught v) { st with fr := Ab.put st.fr s.dst .nilifc } (.panicking [{ v := x, recovered := true }]) _ w R ι m' st' ht e (hS.put .nilifc) ⟨x, rfl, hx⟩
              exact this
          | call f xs => rw [hop] at h1; cases h1
          | callv f xs => rw [hop] at h1; cases h1
          | panic x => rw [hop] at h1; cases h1
          | defer f xs => rw [hop] at h1; cases h1
          | _ =>
            rw [hop] at h1
            obtain ⟨⟨v, h2⟩, hv, hh⟩ := map_some h1
            cases hh
            exact near (by rw [hop]; exact hv) rfl rfl
        · cases h1
      · cases e
    · cases hp

/-- a code that stands neither for a sequence, nor for a branch, nor for a region with 'recover' -/
def ACode.isD : ACode → Bool
  | .seq _ _ | .cond _ _ _ | .rregion _ => true
  | _ => false
theorem execD_other {self : ACode → St → Option (Ex × St)} {c : ACode} {m : Md} {st : St} (h : c.isD = false) : execD self c m st = (self c st).map fun q => (q.1, m, q.2) := by
  cases c <;> first | rfl | cases h

theorem execD_ok {self : ACode → St → Option (Ex × St)}
    (hself : ∀ (c : Code) (c' : ACode) (st : St) (ex : Ex) (st' : St), self c' st = some (ex, st') → acode P G c = some c' → ∀ (a : Act) (w : World) (R : Nat → Prop) (ι : Nat → Option Loc), SRel G st a w R ι → c.wp P (QOf G w R ι st.h ex st') a w)
    {c0 : Frame} {cs : List Frame} : ∀ (c : Code) (c' : ACode) (m : Md) (st : St) (ex : Ex) (m' : Md) (st' : St), execD self c' m st = some (ex, m', st') → acode P G c = some c' → ∀ (u : FrameMode) (a : Act) (w : World) (R : Nat → Prop) (ι : Nat → Option Loc), SRel G st a w R ι → MdRel w R ι m u →
    c.wpS P (QS G c0 cs w R ι st.h ex m' st') a ({ c0 with mode := u } :: cs) w := by
  have other : ∀ (c : Code) (c' : ACode) (m : Md) (st : St) (ex : Ex) (m' : Md) (st' : St), c'.isD = false → execD self c' m st = some (ex, m', st') → acode P G c = some c' → ∀ (u : FrameMode) (a : Act) (w : World) (R : Nat → Prop) (ι : Nat → Option Loc), SRel G st a w R ι → MdRel w R ι m u →
      c.wpS P (QS G c0 cs w R ι st.h ex m' st') a ({ c0 with mode := u } :: cs) w := by
    intro c c' m st ex m' st' hd e hc u a w R ι hS hm
    rw [execD_other hd] at e
    obtain ⟨⟨ex1, st1⟩, h1, hh⟩ := map_some e
    cases hh
    refine wpS_of_wp (wp_mono (hself c c' st _ _ h1 hc a w R ι hS) fun en a1 w1 q => ?_)
    obtain ⟨R1, ι1, hp, rest⟩ := q
    exact ⟨R1, ι1, u, rfl, hm.keep hS.heap hp, hp, rest⟩
  intro c
  induction c with
  | seq x y ihx ihy =>
    intro c' m st ex m' st' e hc u a w R ι hS hm
    unfold acode at hc
    split at hc
    · rename_i x' y' hx hy
      cases hc
      simp only [execD] at e
      refine wpS_seq ?_
      cases h1 : execD self x' m st with
      | none => rw [h1] at e; cases e
      | some q =>
        obtain ⟨ex1, m1, st1⟩ := q
        rw [h1] at e
        refine wpS_mono (fun en a1 cs1 w1 hq => ?_) (ihx x' m st ex1 m1 st1 h1 hx u a w R ι hS hm)
        have hq0 := hq
        obtain ⟨R1, ι1, u1, rfl, hm1, hp, hg, hd, hen⟩ := hq
        cases ex1 with
        | nrm =>
          obtain ⟨rfl, hE⟩ := hen
          simp only at e
          exact wpS_mono (fun _ _ _ _ q => q.trans hp) (ihy y' m1 st1 ex m' st' e hy u1 a1 w1 R1 ι1 ⟨hp.rel, hg, hE, hd⟩ hm1)
        | exit i => obtain ⟨rfl, _⟩ := hen; cases e; exact hq0
        | goto l => obtain ⟨rfl, _⟩ := hen; cases e; exact hq0
        | ret => obtain ⟨rfl, _⟩ := hen; cases e; exact hq0
        | pan v => obtain ⟨x, rfl, _⟩ := hen; cases e; exact hq0
    · cases hc
  | cond c0' x y ihx ihy =>
    intro c' m st ex m' st' e hc u a w R ι hS hm
    unfold acode at hc
    split at hc
    · rename_i c1 x' y' hc0 hx hy
      cases hc
      have hv := ev_rel hS.glob hS.fr hc0
      simp only [execD] at e
      split at e
      · rename_i ht
        rw [ht] at hv
        have hcv : a.eval c0' = .bool true := by
          generalize a.eval c0' = cv at hv
          cases hv; rfl
        exact wpS_cond hcv (ihx x' m st ex m' st' e hx u a w R ι hS hm)
      · rename_i ht
        rw [ht] at hv
        have hcv : a.eval c0' = .bool false := by
          generalize a.eval c0' = cv at hv
          cases hv; rfl
        exact wpS_cond hcv (ihy y' m st ex m' st' e hy u a w R ι hS hm)
      · cases e
    · cases hc
  | region id ops d =>
    intro c' m st ex m' st' e hc u a w R ι hS hm
    have hc0 := hc
    unfold acode at hc
    obtain ⟨ss, hss, hh⟩ := map_some hc
    split at hh
    · rename_i hcond
      subst hh
      simp only [Bool.and_eq_true, Bool.not_eq_true'] at hcond
      obtain ⟨rfl, _⟩ := hcond
      simp only [execD] at e
      obtain ⟨⟨m1, st1⟩, h1, hh⟩ := map_some e
      cases hh
      unfold region at hss
      split at hss
      · cases hss
      · rename_i as has
        simp only [Bool.false_eq_true, if_false] at hss
        have hlen : ops.toList.length = ops.size := Array.length_toList
        refine wpS_region ?_
        rw [← hlen]
        exact stepsR_ok (r := { ops := ops.toList, aops := as, anc := [] }) rfl has _ ss m st u a w R ι m' st' hss h1 hS hm
    · subst hh
      exact other _ _ m st ex m' st' rfl e hc0 u a w R ι hS hm
  | skip => intro c' m st ex m' st' e hc u a w R ι hS hm; have hc0 := hc; cases hc; exact other _ _ m st ex m' st' rfl e hc0 u a w R ι hS hm
  | label l => intro c' m st ex m' st' e hc u a w R ι hS hm; have hc0 := hc; cases hc; exact other _ _ m st ex m' st' rfl e hc0 u a w R ι hS hm
  | exit l => intro c' m st ex m' st' e hc u a w R ι hS hm; have hc0 := hc; cases hc; exact other _ _ m st ex m' st' rfl e hc0 u a w R ι hS hm
  | goto l => intro c' m st ex m' st' e hc u a w R ι hS hm; have hc0 := hc; cases hc; exact other _ _ m st ex m' st' rfl e hc0 u a w R ι hS hm
  | ret => intro c' m st ex m' st' e hc u a w R ι hS hm; have hc0 := hc; cases hc; exact other _ _ m st ex m' st' rfl e hc0 u a w R ι hS hm
  | block id x ih =>
    intro c' m st ex m' st' e hc u a w R ι hS hm
    have hc0 := hc
    unfold acode at hc
    obtain ⟨x', hx, hh⟩ := map_some hc
    subst hh
    exact other _ _ m st ex m' st' rfl e hc0 u a w R ι hS hm
  | loop x ih =>
    intro c' m st ex m' st' e hc u a w R ι hS hm
    have hc0 := hc
    unfold acode at hc
    obtain ⟨x', hx, hh⟩ := map_some hc
    subst hh
    exact other _ _ m st ex m' st' rfl e hc0 u a w R ι hS hm
  | scope x ih =>
    intro c' m st ex m' st' e hc u a w R ι hS hm
    have hc0 := hc
    unfold acode at hc
    obtain ⟨x', hx, hh⟩ := map_some hc
    subst hh
    exact other _ _ m st ex m' st' rfl e hc0 u a w R ι hS hm
  | _ => intros; rename_i hc _ _ _ _ _ _ _; cases hc

theorem noDefers {st : St} {a : Act} (hd : DRel w R ι st.ds a.defers) (hem : st.ds.isEmpty = true) : a.defers = [] := by
  have hds : st.ds = [] := by simpa using hem
  have := hd.1
  rw [hds] at this
  exact List.eq_nil_of_length_eq_zero this.symm

/-- a deferred call -/
theorem callD_ok {C : Ctx} (hK : CodeOk P G C) {self : ACode → St → Option (Ex × St)}
    (hself : ∀ (c : Code) (c' : ACode) (st : St) (ex : Ex) (st' : St), self c' st = some (ex, st') → acode P G c = some c' → ∀ (a : Act) (w : World) (R : Nat → Prop) (ι : Nat → Option Loc), SRel G st a w R ι → c.wp P (QOf G w R ι st.h ex st') a w)
    {f : Nat} {args : List V} {m m' : Md} {h h' : Heap} {out : Out} (e : callD C self f args m h = some (out, m', h')) :
    (∃ fn c, P.funcs[f]? = some fn ∧ fn.name ≠ "runtime.NumGoroutine" ∧ fn.body = some c) ∧
    ∀ (w : World) (R : Nat → Prop) (ι : Nat → Option Loc) (xs : Array Value) (u : FrameMode), HRel w R ι h → GRel G w R ι → RepL w R ι args xs.toList → MdRel w R ι m u →
    CallsD P f xs u w fun e u' w' => ∃ R' ι', Post w R ι h w' R' ι' h' ∧ GRel G w' R' ι' ∧ MdRel w' R' ι' m' u' ∧ OutIs w' R' ι' out e := by
  unfold callD at e
  split at e
  · cases e
  · rename_i af haf
    obtain ⟨fn, c, h1, h2, h3, h4, h5, h6⟩ := hK.code f af haf
    refine ⟨⟨fn, c, h1, h2, h3⟩, fun w R ι xs u hr hG hx hm => callsD_of_wpS h1 h3 fun c0 cs hu => ?_⟩
    have hlen : args.length = xs.size := by rw [hx.1, Array.length_toList]
    have hS : SRel G { fr := args ++ List.replicate (af.ntmps - args.length) .undef, ds := [], h } { tmps := xs ++ Array.replicate (fn.ntmps - xs.size) undef, defers := [] } w R ι :=
      ⟨hr, hG, by rw [h4]; exact init_rel hx, rfl, by simp⟩
    have hc0 : (c0 :: cs) = { c0 with mode := u } :: cs := by subst hu; rfl
    rw [hc0]
    have fin : ∀ {st : St} {en : Exit} {a' : Act} {cs' : List Frame} {w' : World}, (if st.ds.isEmpty then (results st.h st.fr af.results).map fun vs => (Out.ret (oneOr vs), m', st.h) else none) = some (out, m', h') → (∀ R' ι', Ends w' R' ι' st.fr a' en .nrm ∨ Ends w' R' ι' st.fr a' en .ret → (en = .normal ∨ en = .ret) ∧ ERel w' R' ι' st.fr a') →
        ∀ {ex : Ex}, (ex = .nrm ∨ ex = .ret) → QS G c0 cs w R ι h ex m' st en a' cs' w' → bodyPostS P fn c0 cs (fun e u' w' => ∃ R' ι', Post w R ι h w' R' ι' h' ∧ GRel G w' R' ι' ∧ MdRel w' R' ι' m' u' ∧ OutIs w' R' ι' out e) en a' cs' w' := by
      intro st en a' cs' w' e hE ex hex hq
      split at e
      · rename_i hem
        obtain ⟨vs, hvs, hh⟩ := map_some e
        cases hh
        obtain ⟨R', ι', u', rfl, hm', hp, hg, hd, hen⟩ := hq
        obtain ⟨hen', hE'⟩ := hE R' ι' (by rcases hex with rfl | rfl <;> first | exact .inl hen | exact .inr hen)
        obtain ⟨x, hx1, hx2⟩ := results_ok (P := P) hp.rel hE' h6 hvs
        have hnd := noDefers hd hem
        rcases hen' with rfl | rfl
        · exact ⟨hnd, u', rfl, x, hx1, R', ι', hp, hg, hm', hx2⟩
        · exact ⟨hnd, u', rfl, x, hx1, R', ι', hp, hg, hm', hx2⟩
      · cases e
    have ends : ∀ {w' : World} {fr : List V} {a' : Act} {en : Exit}, ∀ R' ι', Ends w' R' ι' fr a' en .nrm ∨ Ends w' R' ι' fr a' en .ret → (en = .normal ∨ en = .ret) ∧ ERel w' R' ι' fr a' := by
      intro w' fr a' en R' ι' hh
      rcases hh with ⟨rfl, hE⟩ | ⟨rfl, hE⟩
      · exact ⟨.inl rfl, hE⟩
      · exact ⟨.inr rfl, hE⟩
    split at e
    · rename_i m1 st hst
      have hmm : m1 = m' := by
        split at e
        · obtain ⟨_, _, hh⟩ := map_some e; cases hh; rfl
        · cases e
      subst hmm
      exact wpS_mono (fun en a' cs' w' hq => fin e ends (.inl rfl) hq) (execD_ok hself c af.body m _ _ _ st hst h5 u _ w R ι hS hm)
    · rename_i m1 st hst
      have hmm : m1 = m' := by
        split at e
        · obtain ⟨_, _, hh⟩ := map_some e; cases hh; rfl
        · cases e
      subst hmm
      exact wpS_mono (fun en a' cs' w' hq => fin e ends (.inr rfl) hq) (execD_ok hself c af.body m _ _ _ st hst h5 u _ w R ι hS hm)
    · rename_i v m1 st hst
      split at e
      · rename_i hem
        cases e
        refine wpS_mono (fun en a' cs' w' hq => ?_) (execD_ok hself c af.body m _ _ _ st hst h5 u _ w R ι hS hm)
        obtain ⟨R', ι', u', rfl, hm', hp, hg, hd, x, rfl, hx', _⟩ := hq
        exact ⟨noDefers hd hem, u', rfl, R', ι', hp, hg, hm', x, rfl, hx'⟩
      · cases e
    · cases e

/-- the deferred calls -/
theorem leave_ok {C : Ctx} (hK : CodeOk P G C) {self : ACode → St → Option (Ex × St)}
    (hself : ∀ (c : Code) (c' : ACode) (st : St) (ex : Ex) (st' : St), self c' st = some (ex, st') → acode P G c = some c' → ∀ (a : Act) (w : World) (R : Nat → Prop) (ι : Nat → Option Loc), SRel G st a w R ι → c.wp P (QOf G w R ι st.h ex st') a w)
    {fn : Func} {tmps : Array Value} {Q : Ending → World → Prop} : ∀ (ds : List (V × List V)) (m : Md) (h : Heap) (m' : Md) (h' : Heap), leave C self ds m h = some (m', h') → ∀ (es : List Deferred) (w : World) (R : Nat → Prop) (ι : Nat → Option Loc) (u : FrameMode), HRel w R ι h → GRel G w R ι → DRel w R ι ds es → MdRel w R ι m u →
    (∀ w' R' ι' u', Post w R ι h w' R' ι' h' → MdRel w' R' ι' m' u' → Leaves P fn tmps Q [] u' w') → Leaves P fn tmps Q es u w
  | [], m, h, m', h', e, es, w, R, ι, u, hr, hG, hD, hm, hQ => by
    cases e
    have hes : es = [] := List.eq_nil_of_length_eq_zero hD.1.symm
    subst hes
    exact hQ w R ι u (Post.refl hr) hm
  | d :: ds, m, h, m', h', e, es, w, R, ι, u, hr, hG, hD, hm, hQ => by
    cases es with
    | nil => have := hD.1; simp at this
    | cons en es =>
      obtain ⟨f, pre, caps, xs, ys, zs, g1, g2, g3, g4, g5, g6⟩ := hD.2 0 d en rfl rfl
      have hD' : DRel w R ι ds es := ⟨by have := hD.1; simpa using this, fun i d' e' h1 h2 => hD.2 (i + 1) d' e' (by simpa using h1) (by simpa using h2)⟩
      simp only [leave, g1] at e
      cases hcd : callD C self f (pre ++ d.2 ++ caps) m h with
      | none => rw [hcd] at e; cases e
      | some q =>
        obtain ⟨out, m1, h1⟩ := q
        rw [hcd] at e
        obtain ⟨⟨fn', c', k1, k2, k3⟩, hcall⟩ := callD_ok hK hself hcd
        have hargs : RepL w R ι (pre ++ d.2 ++ caps) ((ys ++ zs).toArray ++ xs.toArray).toList := by
          simpa [List.append_assoc] using (g5.append g6).append g4
        have hu : u ≠ .run := by
          cases m with
          | ret => have : u = .returning := hm; rw [this]; simp
          | pan v => obtain ⟨x, rfl, _⟩ := hm; simp
          | caught v => obtain ⟨x, rfl, _⟩ := hm; simp
        have hinv : (invoke (.fn (.func f) xs.toArray) (ys ++ zs).toArray).run P w = .ok (.enter f ((ys ++ zs).toArray ++ xs.toArray)) w := by
          simp [invoke, callFunc, k1, k2, k3]
        have hen : en = { target := .fn (.func f) xs.toArray, args := (ys ++ zs).toArray } := by
          obtain ⟨t, ar⟩ := en
          simp only at g2 g3
          rw [g2, g3]
        rw [hen]
        refine leaves_cons hu hinv (CallsD.mono (hcall w R ι _ u hr hG hargs hm) fun o u1 w1 hh => ?_)
        obtain ⟨R1, ι1, hp, hg1, hm1, hout⟩ := hh
        cases out with
        | ret v =>
          cases o with
          | returned x =>
            simp only at e ⊢
            have hset : MdRel w1 R1 ι1 m1.settle (settle u1) := by
              cases m1 with
              | ret => have : u1 = .returning := hm1; subst this; rfl
              | pan v => obtain ⟨x, rfl, hx⟩ := hm1; exact ⟨x, rfl, hx⟩
              | caught v => obtain ⟨x, rfl, hx⟩ := hm1; rfl
            exact leave_ok hK hself ds _ _ m' h' e es w1 R1 ι1 _ hp.rel hg1 (hD'.keep hr hp) hset fun w' R' ι' u' hp' hm' => hQ w' R' ι' u' (hp.trans hp') hm'
          | panicked ch => exact hout.elim
          | outgrown => exact hout.elim
        | pan v =>
          cases o with
          | returned x => exact hout.elim
          | panicked ch =>
            obtain ⟨x, rfl, hx⟩ := hout
            cases m1 with
            | ret =>
              simp only at e ⊢
              have hu1 : u1 = .returning := hm1
              subst hu1
              exact leave_ok hK hself ds _ _ m' h' e es w1 R1 ι1 (raised .returning [{ v := x, recovered := false }]) hp.rel hg1 (hD'.keep hr hp) ⟨x, rfl, hx⟩ fun w' R' ι' u' hp' hm' => hQ w' R' ι' u' (hp.trans hp') hm'
            | pan v => simp only at e; cases e
            | caught v => simp only at e; cases e
          | outgrown => exact hout.elim

/-- a function's body, run -/
theorem body_ok {C : Ctx} (hK : CodeOk P G C) {self : ACode → St → Option (Ex × St)}
    (hself : ∀ (c : Code) (c' : ACode) (st : St) (ex : Ex) (st' : St), self c' st = some (ex, st') → acode P G c = some c' → ∀ (a : Act) (w : World) (R : Nat → Prop) (ι : Nat → Option Loc), SRel G st a w R ι → c.wp P (QOf G w R ι st.h ex st') a w)
    {f : Nat} {af : AFunc} (hf : C.code f = some af) {args : List V} {h h' : Heap} {out : Out} (e : body C self af args h = some (out, h')) :
    (∃ fn c, P.funcs[f]? = some fn ∧ fn.name ≠ "runtime.NumGoroutine" ∧ fn.body = some c) ∧
    ∀ (w : World) (R : Nat → Prop) (ι : Nat → Option Loc) (xs : Array Value), HRel w R ι h → GRel G w R ι → RepL w R ι args xs.toList →
    Calls P f xs w fun e w' => ∃ R' ι', Post w R ι h w' R' ι' h' ∧ OutIs w' R' ι' out e := by
  obtain ⟨fn, c, h1, h2, h3, h4, h5, h6⟩ := hK.code f af hf
  refine ⟨⟨fn, c, h1, h2, h3⟩, fun w R ι xs hr hG hx => ?_⟩
  unfold body at e
  have hlen : args.length = xs.size := by rw [hx.1, Array.length_toList]
  have hS : SRel G { fr := args ++ List.replicate (af.ntmps - args.length) .undef, ds := [], h } { tmps := xs ++ Array.replicate (fn.ntmps - xs.size) undef, defers := [] } w R ι :=
    ⟨hr, hG, by rw [h4]; exact init_rel hx, rfl, by simp⟩
  have fin : ∀ {st : St} {m : Md}, ended af st.fr (leave C self st.ds m st.h) = some (out, h') → ∀ (R' : Nat → Prop) (ι' : Nat → Option Loc) (a' : Act) (w' : World) (u : FrameMode),
      Post w R ι h w' R' ι' st.h → GRel G w' R' ι' → DRel w' R' ι' st.ds a'.defers → ERel w' R' ι' st.fr a' → MdRel w' R' ι' m u → Leaves P fn a'.tmps (fun e w' => ∃ R' ι', Post w R ι h w' R' ι' h' ∧ OutIs w' R' ι' out e) a'.defers u w' := by
    intro st m e R' ι' a' w' u hp hg hd hE hm
    cases hl : leave C self st.ds m st.h with
    | none => rw [hl] at e; cases e
    | some q =>
      obtain ⟨m2, h2⟩ := q
      rw [hl] at e
      refine leave_ok hK hself st.ds m st.h m2 h2 hl a'.defers w' R' ι' u hp.rel hg hd hm fun w2 R2 ι2 u2 hp2 hm2 => ?_
      cases m2 with
      | ret =>
        have hu2 : u2 = .returning := hm2
        subst hu2
        simp only [ended] at e
        obtain ⟨vs, hvs, hh⟩ := map_some e
        cases hh
        obtain ⟨x, hx1, hx2⟩ := results_ok (P := P) hp2.rel (hE.keep hp.rel hp2) h6 hvs
        exact ⟨x, hx1, R2, ι2, hp.trans hp2, hx2⟩
      | pan v =>
        obtain ⟨x, rfl, hx⟩ := hm2
        simp only [ended] at e
        cases e
        exact ⟨R2, ι2, hp.trans hp2, x, rfl, hx⟩
      | caught v => simp only [ended] at e; cases e
  refine calls_of_wp_defers h1 h3 ?_
  split at e
  · rename_i st hst
    refine wp_mono (hself c af.body _ _ st hst h5 _ w R ι hS) fun en a' w' hq => ?_
    obtain ⟨R', ι', hp, hg, hd, rfl, hE⟩ := hq
    exact fin e R' ι' a' w' .returning hp hg hd hE rfl
  · rename_i st hst
    refine wp_mono (hself c af.body _ _ st hst h5 _ w R ι hS) fun en a' w' hq => ?_
    obtain ⟨R', ι', hp, hg, hd, rfl, hE⟩ := hq
    exact fin e R' ι' a' w' .returning hp hg hd hE rfl
  · rename_i v st hst
    refine wp_mono (hself c af.body _ _ st hst h5 _ w R ι hS) fun en a' w' hq => ?_
    obtain ⟨R', ι', hp, hg, hd, x, rfl, hx', hE⟩ := hq
    exact fin e R' ι' a' w' (.panicking [{ v := x, recovered := false }]) hp hg hd hE ⟨x, rfl, hx'⟩
  · cases e

theorem callF_ok {C : Ctx} (hK : CodeOk P G C) {self : ACode → St → Option (Ex × St)}
    (hself : ∀ (c : Code) (c' : ACode) (st : St) (ex : Ex) (st' : St), self c' st = some (ex, st') → acode P G c = some c' → ∀ (a : Act) (w : World) (R : Nat → Prop) (ι : Nat → Option Loc), SRel G st a w R ι → c.wp P (QOf G w R ι st.h ex st') a w) :
    CallsOk P G (callF C self) := by
  intro f args h out h' e
  unfold callF at e
  split at e
  · rename_i g hg
    exact hK.orc f g hg f args h out h' (by simp [e])
  · split at e
    · cases e
    · rename_i af haf
      split at e
      · split at e
        · rename_i v h1 hb
          obtain ⟨u, hu, hh⟩ := map_some e
          cases hh
          obtain ⟨hf, hc⟩ := body_ok hK hself haf hb
          refine ⟨hf, fun w R ι xs hr hG hx => Calls.mono (hc w R ι xs hr.floored hG hx) fun en w' hen => ?_⟩
          obtain ⟨R', ι', hp, hm⟩ := hen
          cases en with
          | returned y =>
            refine ⟨_, _, Post.tidied hr hp, ?_⟩
            exact freeze_ok hp.rel (fun b hb => .inl hb) (fun id blk loc h1 h2 h3 => .inr ⟨id, blk, loc, h1, h2, h3, rfl⟩) (fun id hid => by simp [hid]) fuelF v u y hu hm
          | panicked ch => exact hm.elim
          | outgrown => exact hm.elim
        · rename_i v h1 hb
          obtain ⟨u, hu, hh⟩ := map_some e
          cases hh
          obtain ⟨hf, hc⟩ := body_ok hK hself haf hb
          refine ⟨hf, fun w R ι xs hr hG hx => Calls.mono (hc w R ι xs hr.floored hG hx) fun en w' hen => ?_⟩
          obtain ⟨R', ι', hp, hm⟩ := hen
          cases en with
          | returned y => exact hm.elim
          | panicked ch =>
            obtain ⟨x, rfl, hx'⟩ := hm
            refine ⟨_, _, Post.tidied hr hp, x, rfl, ?_⟩
            exact freeze_ok hp.rel (fun b hb => .inl hb) (fun id blk loc h1 h2 h3 => .inr ⟨id, blk, loc, h1, h2, h3, rfl⟩) (fun id hid => by simp [hid]) fuelF v u x hu hx'
          | outgrown => exact hm.elim
        · cases e
      · exact body_ok hK hself haf e

theorem rounds_mono {c : Code} {Q Q' : Exit → Act → World → Prop} (hq : ∀ e a w, Q e a w → Q' e a w) : ∀ (n : Nat) (a : Act) (w : World), Code.rounds P c Q n a w → Code.rounds P c Q' n a w
  | 0, _, _, h => h.elim
  | n + 1, a, w, h => by
    rw [rounds_succ] at h ⊢
    refine wp_mono h fun e a w he => ?_
    cases e <;> simp only [Exit.then] at he ⊢ <;> first | exact hq _ _ _ he | exact rounds_mono hq n a w he

theorem inScope_mono {r c : Code} {Q Q' : Exit → Act → World → Prop} (hq : ∀ e a w, Q e a w → Q' e a w) (h : InScope P r c Q a w) : InScope P r c Q' a w :=
  fun b k cs => let ⟨e, a', w', q, r⟩ := h b k cs; ⟨e, a', w', hq _ _ _ q, r⟩

/-- every piece of code -/
structure ExecOk (P : Program) (G : Nat → Option V) (C : Ctx) (n : Nat) : Prop where
  code : ∀ (c : Code) (c' : ACode) (st : St) (ex : Ex) (st' : St), exec C n c' st = some (ex, st') → acode P G c = some c' → ∀ (a : Act) (w : World) (R : Nat → Prop) (ι : Nat → Option Loc), SRel G st a w R ι → c.wp P (QOf G w R ι st.h ex st') a w
  loop : ∀ (c : Code) (c' : ACode) (st : St) (ex : Ex) (st' : St), exec C n (.loop c') st = some (ex, st') → acode P G c = some c' → ∀ (a : Act) (w : World) (R : Nat → Prop) (ι : Nat → Option Loc), SRel G st a w R ι → Code.rounds P c (QOf G w R ι st.h ex st') n a w
  scope : ∀ (r c : Code) (r' c' : ACode) (st : St) (ex : Ex) (st' : St), exec C n (.inscope r' c') st = some (ex, st') → acode P G r = some r' → acode P G c = some c' → ∀ (a : Act) (w : World) (R : Nat → Prop) (ι : Nat → Option Loc), SRel G st a w R ι → InScope P r c (QOf G w R ι st.h ex st') a w

theorem exec_ok {C : Ctx} (hK : CodeOk P G C) (hD : DrawOk P G C) : ∀ n, ExecOk P G C n
  | 0 => ⟨fun _ _ _ _ _ e => by simp [exec] at e, fun _ _ _ _ _ e => by simp [exec] at e, fun _ _ _ _ _ _ _ e => by simp [exec] at e⟩
  | n + 1 => by
    have ih := exec_ok hK hD n
    have hC : CallsOk P G (callF C (exec C n)) := callF_ok hK ih.code
    have back : ∀ {st : St} {a : Act} {w : World} {R : Nat → Prop} {ι : Nat → Option Loc} {R1 : Nat → Prop} {ι1 : Nat → Option Loc} {a1 : Act} {w1 : World} {st1 : St}, SRel G st a w R ι → Post w R ι st.h w1 R1 ι1 st1.h → GRel G w1 R1 ι1 → DRel w1 R1 ι1 st1.ds a1.defers → ERel w1 R1 ι1 st1.fr a1 → SRel G st1 a1 w1 R1 ι1 :=
      fun _ hp hg hd hE => ⟨hp.rel, hg, hE, hd⟩
    have hloop : ∀ (c : Code) (c' : ACode) (st : St) (ex : Ex) (st' : St), exec C (n + 1) (.loop c') st = some (ex, st') → acode P G c = some c' → ∀ (a : Act) (w : World) (R : Nat → Prop) (ι : Nat → Option Loc), SRel G st a w R ι → Code.rounds P c (QOf G w R ι st.h ex st') (n + 1) a w := by
      intro c c' st ex st' e hc a w R ι hS
      simp only [exec] at e
      rw [rounds_succ]
      cases h1 : exec C n c' st with
      | none => rw [h1] at e; cases e
      | some q =>
        obtain ⟨ex1, st1⟩ := q
        rw [h1] at e
        refine wp_mono (ih.code c c' st ex1 st1 h1 hc a w R ι hS) fun en a1 w1 hq => ?_
        have hq0 := hq
        obtain ⟨R1, ι1, hp, hg, hd, hen⟩ := hq
        cases ex1 with
        | nrm =>
          obtain ⟨rfl, hE⟩ := hen
          simp only at e
          exact rounds_mono (fun _ _ _ q => q.trans hp) n a1 w1 (ih.loop c c' st1 ex st' e hc a1 w1 R1 ι1 (back hS hp hg hd hE))
        | exit i => obtain ⟨rfl, _⟩ := hen; cases e; exact hq0
        | goto l => obtain ⟨rfl, _⟩ := hen; cases e; exact hq0
        | ret => obtain ⟨rfl, _⟩ := hen; cases e; exact hq0
        | pan v => obtain ⟨x, rfl, _⟩ := hen; cases e; exact hq0
    have hscope : ∀ (r c : Code) (r' c' : ACode) (st : St) (ex : Ex) (st' : St), exec C (n + 1) (.inscope r' c') st = some (ex, st') → acode P G r = some r' → acode P G c = some c' → ∀ (a : Act) (w : World) (R : Nat → Prop) (ι : Nat → Option Loc), SRel G st a w R ι → InScope P r c (QOf G w R ι st.h ex st') a w := by
      intro r c r' c' st ex st' e hr hc a w R ι hS
      simp only [exec] at e
      refine inScope_of ?_
      cases h1 : exec C n r' st with
      | none => rw [h1] at e; cases e
      | some q =>
        obtain ⟨ex1, st1⟩ := q
        rw [h1] at e
        refine wp_mono (ih.code r r' st ex1 st1 h1 hr a w R ι hS) fun en a1 w1 hq => ?_
        have hq0 := hq
        obtain ⟨R1, ι1, hp, hg, hd, hen⟩ := hq
        cases ex1 with
        | nrm => obtain ⟨rfl, _⟩ := hen; cases e; exact hq0
        | exit i => obtain ⟨rfl, _⟩ := hen; cases e; exact hq0
        | goto l =>
          obtain ⟨rfl, hE⟩ := hen
          simp only at e
          simp only [Exit.inScope]
          rcases findLabel_ok (l := l) hc with ⟨g1, g2⟩ | ⟨s, s', g1, g2, g3⟩
          · rw [g1]; rw [g2] at e; cases e; exact hq0
          · rw [g1]; rw [g2] at e
            exact inScope_mono (fun _ _ _ q => q.trans hp) (ih.scope s c s' c' st1 ex st' e g3 hc a1 w1 R1 ι1 (back hS hp hg hd hE))
        | ret => obtain ⟨rfl, _⟩ := hen; cases e; exact hq0
        | pan v => obtain ⟨x, rfl, _⟩ := hen; cases e; exact hq0
    refine ⟨?_, hloop, hscope⟩
    intro c c' st ex st' e hc a w R ι hS
    have self : ∀ {en : Exit}, en = en → ERel w R ι st.fr a → True := fun _ _ => trivial
    cases c with
    | skip => cases hc; cases e; exact wp_skip ⟨R, ι, Post.refl hS.heap, hS.glob, hS.ds, rfl, hS.fr⟩
    | label l => cases hc; cases e; exact wp_label ⟨R, ι, Post.refl hS.heap, hS.glob, hS.ds, rfl, hS.fr⟩
    | exit i => cases hc; cases e; exact wp_exit ⟨R, ι, Post.refl hS.heap, hS.glob, hS.ds, rfl, hS.fr⟩
    | goto l => cases hc; cases e; exact wp_goto ⟨R, ι, Post.refl hS.heap, hS.glob, hS.ds, rfl, hS.fr⟩
    | ret => cases hc; cases e; exact wp_ret ⟨R, ι, Post.refl hS.heap, hS.glob, hS.ds, rfl, hS.fr⟩
    | refuse s => cases hc
    | rangeFunc _ _ _ _ => cases hc
    | region id ops d =>
      unfold acode at hc
      obtain ⟨ss, hss, hh⟩ := map_some hc
      split at hh
      · subst hh; cases e
      · subst hh
        simp only [exec] at e
        exact region_ok hD hC hss e hS
    | seq x y =>
      unfold acode at hc
      split at hc
      · rename_i x' y' hx hy
        cases hc
        simp only [exec] at e
        refine wp_seq ?_
        cases h1 : exec C n x' st with
        | none => rw [h1] at e; cases e
        | some q =>
          obtain ⟨ex1, st1⟩ := q
          rw [h1] at e
          refine wp_mono (ih.code x x' st ex1 st1 h1 hx a w R ι hS) fun en a1 w1 hq => ?_
          have hq0 := hq
          obtain ⟨R1, ι1, hp, hg, hd, hen⟩ := hq
          cases ex1 with
          | nrm =>
            obtain ⟨rfl, hE⟩ := hen
            simp only at e
            exact wp_mono (ih.code y y' st1 ex st' e hy a1 w1 R1 ι1 (back hS hp hg hd hE)) (fun _ _ _ q => q.trans hp)
          | exit i => obtain ⟨rfl, _⟩ := hen; cases e; exact hq0
          | goto l => obtain ⟨rfl, _⟩ := hen; cases e; exact hq0
          | ret => obtain ⟨rfl, _⟩ := hen; cases e; exact hq0
          | pan v => obtain ⟨x, rfl, _⟩ := hen; cases e; exact hq0
      · cases hc
    | cond c0 x y =>
      unfold acode at hc
      split at hc
      · rename_i c0' x' y' hc0 hx hy
        cases hc
        simp only [exec] at e
        split at e
        · rename_i t ht
          have hv := ev_rel hS.glob hS.fr hc0
          rw [ht] at hv
          have hcv : a.eval c0 = .bool t := by
            generalize a.eval c0 = cv at hv
            cases hv; rfl
          refine wp_cond hcv ?_
          cases t with
          | true => exact ih.code x x' st ex st' e hx a w R ι hS
          | false => exact ih.code y y' st ex st' e hy a w R ι hS
        · cases e
      · cases hc
    | block id x =>
      unfold acode at hc
      obtain ⟨x', hx, hh⟩ := map_some hc
      cases hh
      simp only [exec] at e
      refine wp_block ?_
      cases h1 : exec C n x' st with
      | none => rw [h1] at e; cases e
      | some q =>
        obtain ⟨ex1, st1⟩ := q
        rw [h1] at e
        refine wp_mono (ih.code x x' st ex1 st1 h1 hx a w R ι hS) fun en a1 w1 hq => ?_
        have hq0 := hq
        obtain ⟨R1, ι1, hp, hg, hd, hen⟩ := hq
        cases ex1 with
        | nrm => obtain ⟨rfl, _⟩ := hen; cases e; exact hq0
        | exit i =>
          obtain ⟨rfl, hE⟩ := hen
          simp only [Option.some.injEq, Prod.mk.injEq] at e
          obtain ⟨e1, rfl⟩ := e
          simp only [Exit.inBlock]
          split at e1
          · rename_i hi
            subst hi; subst e1
            rw [if_pos rfl]
            exact ⟨R1, ι1, hp, hg, hd, rfl, hE⟩
          · rename_i hi
            subst e1
            rw [if_neg hi]
            exact hq0
        | goto l => obtain ⟨rfl, _⟩ := hen; cases e; exact hq0
        | ret => obtain ⟨rfl, _⟩ := hen; cases e; exact hq0
        | pan v => obtain ⟨x, rfl, _⟩ := hen; cases e; exact hq0
    | loop x =>
      unfold acode at hc
      obtain ⟨x', hx, hh⟩ := map_some hc
      cases hh
      exact wp_loop_rounds (n + 1) (hloop x x' st ex st' e hx a w R ι hS)
    | scope x =>
      unfold acode at hc
      obtain ⟨x', hx, hh⟩ := map_some hc
      cases hh
      simp only [exec] at e
      exact wp_scope_in (ih.scope x x x' x' st ex st' e hx hx a w R ι hS)

/-- a call -/
theorem call_calls {C : Ctx} (hK : CodeOk P G C) (hD : DrawOk P G C) (n : Nat) : CallsOk P G (call C n) := callF_ok hK (exec_ok hK hD n).code
end
end Go.Ab

namespace Go.Ab

def Same (fr fr' : List V) (l : List Nat) : Prop := ∀ t ∈ l, fr.getD t .undef = fr'.getD t .undef

/-- the frame behind an operation -/
def frOf (ex : Ex) (fr : List V) (d : Option Nat) (v : V) : List V :=
  match ex with
  | .nrm => put fr d v
  | _ => fr

section
variable {fr fr' : List V} {h h' : Heap}

theorem Same.left {l m : List Nat} (hs : Same fr fr' (l ++ m)) : Same fr fr' l := fun t ht => hs t (List.mem_append_left _ ht)
theorem Same.right {l m : List Nat} (hs : Same fr fr' (l ++ m)) : Same fr fr' m := fun t ht => hs t (List.mem_append_right _ ht)

theorem ev_same {x : Opd} (hs : Same fr fr' x.uses) : ev fr x = ev fr' x := by
  cases x with
  | t n => exact hs n (by simp [Opd.uses])
  | v x => rfl

theorem evs_same : ∀ {xs : List Opd}, Same fr fr' (xs.flatMap Opd.uses) → xs.map (ev fr) = xs.map (ev fr')
  | [], _ => rfl
  | x :: r, hs => by
    simp only [List.flatMap_cons] at hs
    simp only [List.map_cons, ev_same hs.left, evs_same hs.right]

theorem optIdx_same {x : Option Opd} (hs : Same fr fr' (oUses x)) (d : Nat) : optIdx fr x d = optIdx fr' x d := by
  cases x with
  | none => rfl
  | some x => simp only [optIdx, ev_same (x := x) hs]

theorem parts_same : ∀ {ps : List (Nat × Nat × Opd)}, Same fr fr' (ps.flatMap fun p => p.2.2.uses) → (ps.map fun p => (p.1, p.2.1, ev fr p.2.2)) = ps.map fun p => (p.1, p.2.1, ev fr' p.2.2)
  | [], _ => rfl
  | p :: r, hs => by
    simp only [List.flatMap_cons] at hs
    simp only [List.map_cons, ev_same hs.left, parts_same hs.right]

theorem op1_same {ao : AOp} (hs : Same fr fr' ao.uses) : op1 fr h ao = op1 fr' h ao := by
  cases ao with
  | mov x => simp only [op1, ev_same (x := x) hs]
  | box x => simp only [op1, ev_same (x := x) hs]
  | load n g x => simp only [op1, ev_same (x := x) hs]
  | nilchk x => simp only [op1, ev_same (x := x) hs]
  | un op x => simp only [op1, ev_same (x := x) hs]
  | faddr o x => simp only [op1, ev_same (x := x) hs]
  | field o n g x => simp only [op1, ev_same (x := x) hs]
  | conv k x => simp only [op1, ev_same (x := x) hs]
  | convF k x => simp only [op1, ev_same (x := x) hs]
  | s2b x => simp only [op1, ev_same (x := x) hs]
  | b2s x => simp only [op1, ev_same (x := x) hs]
  | same x => simp only [op1, ev_same (x := x) hs]
  | frz z x => simp only [op1, ev_same (x := x) hs]
  | mkifc t x => simp only [op1, ev_same (x := x) hs]
  | tassert t k z x => simp only [op1, ev_same (x := x) hs]
  | len k x => simp only [op1, ev_same (x := x) hs]
  | capOf x => simp only [op1, ev_same (x := x) hs]
  | reim i x => simp only [op1, ev_same (x := x) hs]
  | extract x i => simp only [op1, ev_same (x := x) hs]
  | panic x => rfl
  | pick c a b => simp only [op1, ev_same (x := c) hs.left.left, ev_same (x := a) hs.left.right, ev_same (x := b) hs.right]
  | alloc z => rfl
  | recover => rfl
  | mkmap => rfl
  | build z ps => simp only [op1, parts_same hs]
  | lit s z n ps => simp only [op1, parts_same hs]
  | store n x y => simp only [op1, ev_same (x := x) hs.left, ev_same (x := y) hs.right]
  | bin o x y => simp only [op1, ev_same (x := x) hs.left, ev_same (x := y) hs.right]
  | binB n x y => simp only [op1, ev_same (x := x) hs.left, ev_same (x := y) hs.right]
  | binN k n x y => simp only [op1, ev_same (x := x) hs.left, ev_same (x := y) hs.right]
  | eqs n k x y => simp only [op1, ev_same (x := x) hs.left, ev_same (x := y) hs.right]
  | index x y => simp only [op1, ev_same (x := x) hs.left, ev_same (x := y) hs.right]
  | iaddr z x y => simp only [op1, ev_same (x := x) hs.left, ev_same (x := y) hs.right]
  | iaddrA z n x y => simp only [op1, ev_same (x := x) hs.left, ev_same (x := y) hs.right]
  | mkslice z b l x y => simp only [op1, ev_same (x := x) hs.left, ev_same (x := y) hs.right]
  | cplx x y => simp only [op1, ev_same (x := x) hs.left, ev_same (x := y) hs.right]
  | app z b x y => simp only [op1, ev_same (x := x) hs.left, ev_same (x := y) hs.right]
  | copy z x y => simp only [op1, ev_same (x := x) hs.left, ev_same (x := y) hs.right]
  | mapget kd z k x y => simp only [op1, ev_same (x := x) hs.left, ev_same (x := y) hs.right]
  | kget kd z k x y => simp only [op1, ev_same (x := x) hs.left, ev_same (x := y) hs.right]
  | kdel kd x y => simp only [op1, ev_same (x := x) hs.left, ev_same (x := y) hs.right]
  | appz a b z x y => simp only [op1, ev_same (x := x) hs.left, ev_same (x := y) hs.right]
  | clr sz z x => simp only [op1, ev_same (x := x) hs]
  | mapdel x y => simp only [op1, ev_same (x := x) hs.left, ev_same (x := y) hs.right]
  | apart x y => simp only [op1, ev_same (x := x) hs.left, ev_same (x := y) hs.right]
  | ixb x y => simp only [op1, ev_same (x := x) hs.left, ev_same (x := y) hs.right]
  | fbits x => simp only [op1, ev_same (x := x) hs]
  | sliceS x lo hi => simp only [op1, ev_same (x := x) hs.left.left, optIdx_same (x := lo) hs.left.right, optIdx_same (x := hi) hs.right]
  | slice z x lo hi mx =>
    have h1 : ∀ o, mx = some o → ev fr o = ev fr' o := fun o ho => by
      subst ho; exact ev_same hs.right
    have h2 := optIdx_same (x := mx) hs.right
    simp only [op1, ev_same (x := x) hs.left.left.left, optIdx_same (x := lo) hs.left.left.right, optIdx_same (x := hi) hs.left.right, h2]
    cases mx with
    | none => rfl
    | some o => simp only [h1 o rfl]
  | sliceA z n x lo hi => simp only [op1, ev_same (x := x) hs.left.left, optIdx_same (x := lo) hs.left.right, optIdx_same (x := hi) hs.right]
  | mkfn f a b => simp only [op1, evs_same hs.left, evs_same hs.right]
  | mm m xs =>
    simp only [op1]
    cases xs with
    | nil => rfl
    | cons x r =>
      simp only [AOp.uses, List.flatMap_cons] at hs
      simp only [ev_same (x := x) hs.left, evs_same hs.right]
  | call f xs => rfl
  | callv g xs => rfl
  | defer g xs => rfl
  | mapput kd m k x => simp only [op1, ev_same (x := m) hs.left.left, ev_same (x := k) hs.left.right, ev_same (x := x) hs.right]
  | kput kd m k x => simp only [op1, ev_same (x := m) hs.left.left, ev_same (x := k) hs.left.right, ev_same (x := x) hs.right]

/-- the far operations too -/
theorem stepOp_same {C : Ctx} {self : ACode → St → Option (Ex × St)} {ds : List (V × List V)} {d : Option Nat} {ao : AOp} (hs : Same fr fr' ao.uses) {ex : Ex} {st' : St}
    (e : stepOp C self d ao { fr := fr, ds, h } = some (ex, st')) :
    ∃ v, st'.fr = frOf ex fr d v ∧ stepOp C self d ao { fr := fr', ds, h } = some (ex, { st' with fr := frOf ex fr' d v }) := by
  have out : ∀ {q : Option (Out × Heap)}, onOut d { fr := fr, ds, h } q = some (ex, st') → ∃ v, st'.fr = frOf ex fr d v ∧ onOut d { fr := fr', ds, h } q = some (ex, { st' with fr := frOf ex fr' d v }) := by
    intro q hq
    cases q with
    | none => cases hq
    | some q =>
      obtain ⟨o, h2⟩ := q
      cases o with
      | ret v => cases hq; exact ⟨v, rfl, rfl⟩
      | pan v => cases hq; exact ⟨v, rfl, rfl⟩
  have near : ao.far = false → ∃ v, st'.fr = frOf ex fr d v ∧ stepOp C self d ao { fr := fr', ds, h } = some (ex, { st' with fr := frOf ex fr' d v }) := by
    intro hf
    rw [stepOp_near hf] at e ⊢
    obtain ⟨⟨v, h2⟩, hv, hh⟩ := map_some e
    cases hh
    rw [op1_same hs] at hv
    refine ⟨v, rfl, ?_⟩
    simp only [hv, Option.map_some, frOf]
  cases ao with
  | call f xs =>
    simp only [stepOp] at e ⊢
    rw [← evs_same hs]
    exact out e
  | callv g xs =>
    simp only [stepOp] at e ⊢
    rw [← evs_same hs.right, ← ev_same hs.left]
    split at e
    · exact out e
    · cases e
  | panic x =>
    simp only [stepOp] at e ⊢
    rw [← ev_same hs]
    split at e
    · cases e; exact ⟨.undef, rfl, rfl⟩
    · cases e
  | defer g xs =>
    simp only [stepOp] at e ⊢
    rw [← evs_same hs.right, ← ev_same hs.left]
    split at e
    · cases e; exact ⟨.tup [], rfl, rfl⟩
    · cases e
  | _ => exact near rfl

theorem wanted_same {g : Option (Nat × Bool)} (hs : ∀ t b, g = some (t, b) → fr.getD t .undef = fr'.getD t .undef) : wanted fr g = wanted fr' g := by
  cases g with
  | none => rfl
  | some p => obtain ⟨t, b⟩ := p; simp only [wanted, hs t b rfl]

/-! ### kinds -/

theorem get_new_some {b blk : Blk} {id : Nat} (e : h.get id = some blk) : (h.new b).get id = some blk := by
  rw [get_new_lt (get_lt e)]; exact e

theorem cellsOf_new {b : Blk} {id : Nat} {l : List V} (e : h.cellsOf id = some l) : (h.new b).cellsOf id = some l := by
  have := get_new_some (b := b) (cellsOf_get e)
  simp only [Heap.cellsOf, this]

theorem at_new {b : Blk} {v : V} {l : List V} (e : h.at v = some l) : (h.new b).at v = some l := by
  unfold Heap.at at e ⊢
  split at e
  · exact e
  · rename_i id off
    obtain ⟨c, hc, hh⟩ := map_some e
    simp only [cellsOf_new hc, Option.map_some, hh]
  · cases e

theorem row_new {b : Blk} {sz : Nat} {v : V} {l : List V} (e : h.row sz v = some l) : (h.new b).row sz v = some l := by
  unfold Heap.row at e ⊢
  split at e
  · exact e
  · exact e
  · exact e
  · rename_i id sz' off len c
    split at e
    · rename_i hs
      split at e
      · rename_i l' hl
        subst hs
        simp only [if_true, cellsOf_new hl]
        exact e
      · cases e
    · cases e
  · exact e
  · cases e

theorem bind_map {α β γ : Type} {x : Option α} {f : α → Option β} {g : β → γ} : (x.bind f).map g = x.bind fun y => (f y).map g := by cases x <;> rfl

theorem op1_pure' {ao : AOp} (hk : ao.kind = 0) (h2 : Heap) : op1 fr h2 ao = (op1 fr h ao).map fun p => (p.1, h2) := by
  cases ao <;> first | (simp [AOp.kind] at hk; done) | skip
  all_goals simp only [op1, Option.map_map, Option.map_some, Function.comp_def]
  all_goals (repeat' split)
  all_goals first | rfl | (simp_all; done) | (simp only [Option.map_map, Function.comp_def]; done) | (simp only [bind_map, apply_ite (Option.map (fun p : V × Heap => (p.1, h2))), Option.map_some, Option.map_none]; done)

theorem op1_pure2 {ao : AOp} (hk : ao.kind = 0) {v : V} (e : op1 fr h ao = some (v, h')) : h' = h := by
  have h1 := op1_pure' (fr := fr) (h := h) hk h
  rw [e] at h1
  simp only [Option.map_some, Option.some.injEq, Prod.mk.injEq, true_and] at h1
  exact h1

theorem op1_pure {ao : AOp} (hk : ao.kind = 0) {v : V} (e : op1 fr h ao = some (v, h')) : h' = h ∧ ∀ h2, op1 fr h2 ao = some (v, h2) := by
  refine ⟨op1_pure2 hk e, fun h2 => ?_⟩
  rw [op1_pure' (h := h) hk h2, e]; rfl

theorem op1_read {ao : AOp} (hk : ao.kind = 1) {v : V} (e : op1 fr h ao = some (v, h')) : h' = h ∧ ∀ b, op1 fr (h.new b) ao = some (v, h.new b) := by
  cases ao with
  | load n g x =>
    simp only [op1] at e ⊢
    obtain ⟨u, hu, hh⟩ := map_some e
    cases hh
    cases hat : h.at (ev fr x) with
    | none => rw [hat] at hu; cases hu
    | some cs =>
      rw [hat] at hu
      refine ⟨rfl, fun b => ?_⟩
      rw [at_new hat]
      simp only [Option.bind_some] at hu ⊢
      rw [hu]; rfl
  | b2s x =>
    simp only [op1] at e ⊢
    split at e
    · cases e
    · rename_i hns
      split at e
      · rename_i cs hcs
        obtain ⟨s, hs, hh⟩ := map_some e
        cases hh
        refine ⟨rfl, fun b => ?_⟩
        rw [row_new hcs]
        simp only [hs, Option.map_some]
      · cases e
  | len k x =>
    simp only [op1] at e ⊢
    split at e
    · rename_i id hid
      split at e
      · rename_i hk
        split at e
        · rename_i es hes
          cases e
          refine ⟨rfl, fun b => ?_⟩
          simp only [hk, if_true, get_new_some hes]
        · cases e
      · cases e
    · split at e
      · rename_i hk; cases e; exact ⟨rfl, fun b => by simp only [hk, if_true]⟩
      · cases e
    · split at e
      · rename_i hk; cases e; exact ⟨rfl, fun b => by simp only [hk, if_true]⟩
      · cases e
    · split at e
      · rename_i hk
        obtain ⟨n, hn, hh⟩ := map_some e
        cases hh
        exact ⟨rfl, fun b => by simp only [hk, if_true, hn, Option.map_some]⟩
      · cases e
  | mapget z k m x =>
    simp only [op1] at e ⊢
    obtain ⟨r, hr, hh⟩ := map_some e
    cases hh
    refine ⟨rfl, fun b => ?_⟩
    split at hr
    · rename_i id hid
      split at hr
      · rename_i es hes
        simp only [get_new_some hes, hr, Option.map_some]
      · cases hr
    · cases hr; rfl
    · cases hr
  | kget kd z k m x =>
    simp only [op1] at e ⊢
    split at e
    · rename_i id hid
      split at e
      · rename_i es hes
        split at e
        · rename_i hc
          obtain ⟨r, hr, hh⟩ := map_some e
          cases hh
          exact ⟨rfl, fun b => by simp only [get_new_some hes, hc, if_true, hr, Option.map_some]⟩
        · cases e
      · cases e
    · cases e
  | slice z x lo hi mx =>
    simp only [op1] at e ⊢
    split at e
    · obtain ⟨l, h1, e⟩ := Option.bind_eq_some_iff.1 e
      obtain ⟨r, h2, e⟩ := Option.bind_eq_some_iff.1 e
      obtain ⟨m, h3, e⟩ := Option.bind_eq_some_iff.1 e
      split at e
      · rename_i hc
        cases e
        exact ⟨rfl, fun b => by simp only [h1, h2, h3, Option.bind_some, hc, if_true]⟩
      · cases e
    · obtain ⟨l, h1, e⟩ := Option.bind_eq_some_iff.1 e
      obtain ⟨r, h2, e⟩ := Option.bind_eq_some_iff.1 e
      split at e
      · rename_i hc
        cases e
        exact ⟨rfl, fun b => by simp only [h1, h2, Option.bind_some, hc, if_true]⟩
      · cases e
    · obtain ⟨l, h1, e⟩ := Option.bind_eq_some_iff.1 e
      obtain ⟨r, h2, e⟩ := Option.bind_eq_some_iff.1 e
      split at e
      · rename_i hc
        cases mx with
        | none =>
          simp only at e
          cases e
          exact ⟨rfl, fun b => by simp only [h1, h2, Option.bind_some, hc, if_true]⟩
        | some o =>
          simp only at e
          obtain ⟨m, h3, e⟩ := Option.bind_eq_some_iff.1 e
          split at e
          · rename_i hc2
            cases e
            exact ⟨rfl, fun b => by simp only [h1, h2, h3, Option.bind_some, hc, hc2, if_true]⟩
          · cases e
      · cases e
    · split at e
      · rename_i cs hcs
        obtain ⟨l, h1, e⟩ := Option.bind_eq_some_iff.1 e
        obtain ⟨r, h2, e⟩ := Option.bind_eq_some_iff.1 e
        split at e
        · rename_i hc
          cases mx with
          | none =>
            simp only at e
            cases e
            exact ⟨rfl, fun b => by simp only [cellsOf_new hcs, h1, h2, Option.bind_some, hc, if_true]⟩
          | some o =>
            simp only at e
            obtain ⟨m, h3, e⟩ := Option.bind_eq_some_iff.1 e
            split at e
            · rename_i hc2
              cases e
              exact ⟨rfl, fun b => by simp only [cellsOf_new hcs, h1, h2, h3, Option.bind_some, hc, hc2, if_true]⟩
            · cases e
        · cases e
      · cases e
    · cases e
  | _ => simp [AOp.kind] at hk
end
end Go.Ab

namespace Go.Ab

mutual
theorem beq_sound : ∀ (a b : V), V.beq a b = true → a = b
  | .undef, b, h => by cases b <;> first | rfl | (simp [V.beq] at h)
  | .bool x, b, h => by cases b <;> simp [V.beq] at h; rw [h]
  | .int j x, b, h => by cases b <;> simp [V.beq] at h; rw [h.1, h.2]
  | .str x, b, h => by cases b <;> simp [V.beq] at h; rw [h]
  | .flt j x, b, h => by cases b <;> simp [V.beq] at h; rw [h.1, h.2]
  | .cpx j x y, b, h => by cases b <;> simp [V.beq] at h; rw [h.1.1, h.1.2, h.2]
  | .nilsl, b, h => by cases b <;> first | rfl | (simp [V.beq] at h)
  | .esl, b, h => by cases b <;> first | rfl | (simp [V.beq] at h)
  | .fsl x c, b, h => by cases b <;> simp [V.beq] at h; rw [beqs_sound _ _ h.1, h.2]
  | .msl a b c d e, b', h => by cases b' <;> simp [V.beq] at h; obtain ⟨⟨⟨⟨rfl, rfl⟩, rfl⟩, rfl⟩, rfl⟩ := h; rfl
  | .nilptr, b, h => by cases b <;> first | rfl | (simp [V.beq] at h)
  | .fptr x, b, h => by cases b <;> simp [V.beq] at h; rw [beqs_sound _ _ h]
  | .mptr x y, b, h => by cases b <;> simp [V.beq] at h; rw [h.1, h.2]
  | .agg x, b, h => by cases b <;> simp [V.beq] at h; rw [beqs_sound _ _ h]
  | .tup x, b, h => by cases b <;> simp [V.beq] at h; rw [beqs_sound _ _ h]
  | .fn f x y, b, h => by cases b <;> simp [V.beq] at h; rw [h.1.1, beqs_sound _ _ h.1.2, beqs_sound _ _ h.2]
  | .nilfn, b, h => by cases b <;> first | rfl | (simp [V.beq] at h)
  | .ifc t x, b, h => by cases b <;> simp [V.beq] at h; rw [h.1, beq_sound _ _ h.2]
  | .nilifc, b, h => by cases b <;> first | rfl | (simp [V.beq] at h)
  | .mp x, b, h => by cases b <;> simp [V.beq] at h; rw [h]
  | .nilmp, b, h => by cases b <;> first | rfl | (simp [V.beq] at h)
theorem beqs_sound : ∀ (a b : List V), V.beqs a b = true → a = b
  | [], b, h => by cases b <;> first | rfl | (simp [V.beqs] at h)
  | x :: r, b, h => by
    cases b with
    | nil => simp [V.beqs] at h
    | cons y s => simp only [V.beqs, Bool.and_eq_true] at h; rw [beq_sound _ _ h.1, beqs_sound _ _ h.2]
end

/-- a new block's name -/
inductive RefV where
  | ptr
  | sl (sz n : Nat)
  | mp
/-- a block's values lead to elder blocks -/
def blkLow (n : Nat) : Blk → Bool
  | .cells l => V.lows n l
  | .map es => es.all fun p => V.low n p.1 && V.low n p.2
def RefV.at (f : RefV) (id : Nat) : V :=
  match f with
  | .ptr => .mptr id 0
  | .sl sz n => .msl id sz 0 n none
  | .mp => .mp id

section
variable {P : Program} {G : Nat → Option V} {w w' w'' : World} {R R' R'' : Nat → Prop} {ι ι' ι'' : Nat → Option Loc} {h h' h'' : Heap} {fr : List V} {a : Act}

theorem op1_alloc {ao : AOp} (hk : ao.kind = 2) {v : V} (e : op1 fr h ao = some (v, h')) : ∃ (f : RefV) (b : Blk), v = f.at h.next ∧ h' = h.new b ∧ ∀ h2, op1 fr h2 ao = some (f.at h2.next, h2.new b) := by
  cases ao with
  | alloc z => cases e; exact ⟨.ptr, _, rfl, rfl, fun _ => rfl⟩
  | box x => cases e; exact ⟨.ptr, _, rfl, rfl, fun _ => rfl⟩
  | lit sz z n ps =>
    simp only [op1] at e ⊢
    obtain ⟨cs, hcs, hh⟩ := map_some e
    cases hh
    exact ⟨.sl sz n, .cells cs, rfl, rfl, fun _ => by simp only [hcs, Option.map_some]; rfl⟩
  | mkslice sz b z l c =>
    simp only [op1] at e ⊢
    split at e
    · rename_i k1 x k2 y h1 h2
      split at e
      · rename_i hc
        cases e
        exact ⟨.sl sz x.toNat, _, rfl, rfl, fun _ => by simp only [if_pos hc]; rfl⟩
      · cases e
    · cases e
  | mkmap => cases e; exact ⟨.mp, _, rfl, rfl, fun _ => rfl⟩
  | _ => simp [AOp.kind] at hk

theorem repL_low (hn : ∀ id, h.next ≤ id → ι id = none) {l : List V} {xs : List Value} (hl : RepL w R ι l xs) : V.lows h.next l = true :=
  lows_of_at fun i v ev => by
    obtain ⟨x, _, hx⟩ := hl.get ev
    exact hx.low hn

/-- a new block's cells lead to elder blocks -/
theorem alloc_low {o : Oper} {ao : AOp} (hr : HRel w R ι h) (hG : GRel G w R ι) (hE : ERel w R ι fr a) (e : aop P G o = some ao) (hk : ao.kind = 2) {v : V} {blk : Blk} (e1 : op1 fr h ao = some (v, h.new blk)) : blkLow h.next blk = true := by
  have hinj : ∀ {b : Blk}, h.new b = h.new blk → b = blk := fun {b} hh => by
    have : (h.new b).bl = (h.new blk).bl := by rw [hh]
    simp only [Heap.new, List.cons.injEq, Option.some.injEq, and_true] at this
    exact this
  cases ho : o.op with
  | alloc t =>
    unfold aop at e; simp only [ho] at e
    obtain ⟨z, hz, hh⟩ := map_some e
    cases hh
    simp only [op1, Option.some.injEq, Prod.mk.injEq] at e1
    obtain ⟨i, zv, hi, hzv, hvs, hzl⟩ := zeroOf_spec hz
    rw [← hinj e1.2]
    show V.lows _ _ = true
    exact repL_low hr.none (vsOf_repL (w := w) (R := R) (ι := ι) hvs).1
  | box t x =>
    unfold aop at e; simp only [ho] at e
    obtain ⟨y, hy, hh⟩ := map_some e
    cases hh
    simp only [op1, Option.some.injEq, Prod.mk.injEq] at e1
    rw [← hinj e1.2]
    show V.lows _ _ = true
    by_cases hne : (ev fr y).cells = []
    · rw [hne]; rfl
    · exact repL_low hr.none ((ev_rel hG hE hy).cells hne).1
  | buildSlice t n ps =>
    unfold aop at e; simp only [ho] at e
    split at e
    · split at e
      · rename_i el hu _ _ z ie hz hi
        split at e
        · obtain ⟨aps, haps, hh⟩ := map_some e
          cases hh
          simp only [op1] at e1
          obtain ⟨cs, hcs, hh⟩ := map_some e1
          simp only [Prod.mk.injEq] at hh
          rw [← hinj hh.2]
          obtain ⟨i, zv, hi', hzv, hvs, hzl⟩ := zeroOf_spec hz
          obtain ⟨hrep, hone⟩ := vsOf_repL (w := w) (R := R) (ι := ι) hvs
          obtain ⟨cur', g1, g2, g3⟩ := fill_ok hG hE ps.toList aps _ _ cs haps (zeros_rep hrep n) (by
            intro u hu'
            obtain ⟨l, hl1, hl2⟩ := List.mem_flatten.1 hu'
            rw [List.eq_of_mem_replicate hl1] at hl2
            exact hone u hl2) hcs
          show V.lows _ _ = true
          exact repL_low hr.none g2
        · cases e
      · cases e
    · cases e
  | makeSlice t l c =>
    unfold aop at e; simp only [ho] at e
    split at e
    · split at e
      · rename_i el hu _ _ _ _ z i l' c' hz hi hl hc
        split at e
        · cases e
          simp only [op1] at e1
          split at e1
          · split at e1
            · simp only [Option.some.injEq, Prod.mk.injEq] at e1
              rw [← hinj e1.2]
              obtain ⟨i, zv, hi', hzv, hvs, hzl⟩ := zeroOf_spec hz
              show V.lows _ _ = true
              exact repL_low hr.none (zeros_rep (vsOf_repL (w := w) (R := R) (ι := ι) hvs).1 _)
            · cases e1
          · cases e1
        · cases e
      · cases e
    · cases e
  | call c =>
    rcases aop_call ho e with ⟨f, l, hc, hl, rfl⟩ | ⟨g, g', l, hc, hg, hl, rfl⟩ | hn
    · cases hk
    · cases hk
    · unfold aop at e; simp only [ho] at e
      exfalso
      repeat' (first | (cases e; done) | (cases e; simp [AOp.kind] at hk; done) | (obtain ⟨_, _, hh⟩ := map_some e; cases hh; simp [AOp.kind] at hk; done) | split at e)
  | makeMap t r =>
    unfold aop at e; simp only [ho] at e
    split at e
    · cases e
      simp only [op1, Option.some.injEq, Prod.mk.injEq] at e1
      rw [← hinj e1.2]
      rfl
    · cases e
  | lookup t m k ok =>
    unfold aop at e; simp only [ho] at e
    exfalso
    split at e
    · split at e
      · obtain ⟨_, _, hh⟩ := map_some e; cases hh; simp [AOp.kind] at hk
      · obtain ⟨_, _, hb⟩ := Option.bind_eq_some_iff.1 e
        obtain ⟨_, _, hh⟩ := map_some hb; cases hh; simp [AOp.kind] at hk
    · cases e
  | makeFunc f first caps =>
    unfold aop at e; simp only [ho] at e
    exfalso
    cases f <;> simp only at e <;> repeat' (first | (cases e; done) | (cases e; simp [AOp.kind] at hk; done) | split at e)
  | _ =>
    unfold aop at e; simp only [ho] at e
    exfalso
    repeat' (first | (cases e; done) | (cases e; simp [AOp.kind] at hk; done) | (obtain ⟨_, _, hh⟩ := map_some e; cases hh; simp [AOp.kind] at hk; done) | (obtain ⟨_, _, hb⟩ := Option.bind_eq_some_iff.1 e; obtain ⟨_, _, hh⟩ := map_some hb; cases hh; simp [AOp.kind] at hk; done) | split at e)

/-- a block that memory does not hold yet -/
theorem HRel.ghost (hr : HRel w R ι h) (b : Blk) : HRel w R ι (h.new b) := by
  have hget : ∀ id blk loc, (h.new b).get id = some blk → ι id = some loc → id < h.next ∧ h.get id = some blk := fun id blk loc e e' => by
    have hlt := hr.ι_lt e'
    rw [get_new_lt hlt] at e
    exact ⟨hlt, e⟩
  refine ⟨by simp [Heap.new, hr.len], fun id hid => hr.none id (by have : h.next + 1 ≤ id := hid; omega), hr.lt, ?_, ?_, ?_, ?_, ?_, ?_, ?_⟩
  · intro id l loc e e'
    obtain ⟨_, e⟩ := hget id _ loc e e'
    exact hr.cells id l loc e e'
  · intro id es loc e e'
    exact hr.maps id es loc (hget id _ loc e e').2 e'
  · intro id id' blk blk' loc loc' e e' f f' hne
    exact hr.inj id id' blk blk' loc loc' (hget id _ loc e f).2 (hget id' _ loc' e' f').2 f f' hne
  · intro id blk loc e f
    exact hr.apart id blk loc (hget id _ loc e f).2 f
  · intro f hf id l loc hid e e'
    exact hr.low f hf id l loc hid (hget id _ loc e e').2 e'
  · intro f hf; have := hr.floor f hf; show f ≤ h.next + 1; omega
  · intro f hf id es loc hid e e'
    exact hr.lowM f hf id es loc hid (hget id _ loc e e').2 e'

theorem Post.ghosted (p : Post w R ι h w' R' ι' h') (b : Blk) : Post w R ι h w' R' ι' (h'.new b) where
  rel := p.rel.ghost b
  sub := p.sub
  names := p.names
  size := p.size
  os := p.os
  tape := p.tape
  output := p.output
  keep := p.keep
  own := fun id blk loc e e' => by
    have hlt := p.rel.ι_lt e'
    rw [get_new_lt hlt] at e
    exact p.own id blk loc e e'
  ghost := fun id hid hn => by
    rw [get_new_lt (Nat.lt_of_lt_of_le hid p.next)]
    exact p.ghost id hid hn
  next := Nat.le_trans p.next (Nat.le_succ _)
  floors := p.floors
  news := p.news

/-- the same values under more names -/
theorem Rep.swap {n : Nat} (hι : ∀ id loc, id < n → ι id = some loc → ι' id = some loc) {v : V} {x : Value} (hv : Rep w R ι v x) : V.low n v = true → Rep w R ι' v x := by
  induction hv with
  | undef x => exact fun _ => .undef x
  | bool b => exact fun _ => .bool b
  | int k n => exact fun _ => .int k n
  | str x => exact fun _ => .str x
  | flt k b => exact fun _ => .flt k b
  | cpx k a b => exact fun _ => .cpx k a b
  | nilsl => exact fun _ => .nilsl
  | esl ad c => exact fun _ => .esl ad c
  | fsl es c a cap sz f hs hRa hlc hc hsz hone hlow hce hr ih =>
    exact fun _ => .fsl es c a cap sz f hs hRa hlc hc hsz hone hlow hce fun i v e => ih i v e (low_mono (Nat.zero_le _) v (low_at hlow e))
  | msl id sz off len cap loc c h1 h2 h3 h4 =>
    intro h; simp only [V.low, decide_eq_true_eq] at h
    exact .msl id sz off len cap loc c (hι id _ h h1) h2 h3 h4
  | nilptr => exact fun _ => .nilptr
  | fptr cs a f hs hRa hone hlow hce hr ih =>
    exact fun _ => .fptr cs a f hs hRa hone hlow hce fun i v e => ih i v e (low_mono (Nat.zero_le _) v (low_at hlow e))
  | mptr id off loc h1 =>
    intro h; simp only [V.low, decide_eq_true_eq] at h
    exact .mptr id off loc (hι id _ h h1)
  | agg cs xs hl hone hr ih =>
    intro h; simp only [V.low] at h
    exact .agg cs xs hl hone fun i v x e e' => ih i v x e e' (low_at h e)
  | tup cs xs hl hr ih =>
    intro h; simp only [V.low] at h
    exact .tup cs xs hl fun i v x e e' => ih i v x e e' (low_at h e)
  | fn f pre caps xs ys hl hl' hr hr' ih ih' =>
    intro h; simp only [V.low, Bool.and_eq_true] at h
    exact .fn f pre caps xs ys hl hl' (fun i v x e e' => ih i v x e e' (low_at h.1 e)) (fun i v x e e' => ih' i v x e e' (low_at h.2 e))
  | nilfn => exact fun _ => .nilfn
  | ifc t v x _ ih => intro h; simp only [V.low] at h; exact .ifc t v x (ih h)
  | nilifc => exact fun _ => .nilifc
  | mp id loc h1 =>
    intro h; simp only [V.low, decide_eq_true_eq] at h
    exact .mp id loc (hι id _ h h1)
  | nilmp => exact fun _ => .nilmp

/-- memory gets a block that the abstract heap holds already -/
theorem ghost_made {w0 : World} {R0 : Nat → Prop} {ι0 : Nat → Option Loc} {h0 : Heap} (p0 : Post w0 R0 ι0 h0 w R ι h) {g : Nat} {blk0 : Blk} (hg : h.get g = some blk0) (hn : ι g = none) (h0g : h0.next ≤ g) (hfl : ∀ f ∈ h.floors, f ≤ g)
    (p : Post w R ι h w' R' ι' (h.new blk0)) (hlow : blkLow h.next blk0 = true) {loc : Loc} (hloc : ι' h.next = some loc) :
    ∃ ι'', Post w0 R0 ι0 h0 w' R' ι'' h ∧ ι'' g = some loc ∧ (∀ id, id ≠ g → id < h.next → ι'' id = ι id) ∧ (∀ v x, Rep w R ι v x → Rep w' R' ι'' v x) := by
  have hglt : g < h.next := get_lt hg
  have hr := p0.rel
  let ι'' : Nat → Option Loc := fun id => if id = g then some loc else if id < h.next then ι' id else none
  have e1 : ι'' g = some loc := by simp [ι'']
  have e2 : ∀ id, id ≠ g → id < h.next → ι'' id = ι' id := fun id h1 h2 => by simp [ι'', h1, h2]
  have e3 : ∀ id, id ≠ g → id < h.next → ι'' id = ι id := fun id h1 h2 => (e2 id h1 h2).trans (p.names id h2)
  have e4 : ∀ id, h.next ≤ id → ι'' id = none := fun id h1 => by
    have : id ≠ g := by omega
    have h2 : ¬ id < h.next := by omega
    simp [ι'', this, h2]
  have hmono : ∀ v x, Rep w R ι v x → Rep w' R' ι'' v x := fun v x hv => hv.mono p.sub (p.Rw hr) fun id loc e => by
    have hlt := hr.ι_lt e
    have hne : id ≠ g := fun h => by subst h; rw [hn] at e; cases e
    rw [e3 id hne hlt]; exact e
  have hconv : ∀ v x, V.low h.next v = true → Rep w' R' ι' v x → Rep w' R' ι'' v x := fun v x hl hv => hv.swap (n := h.next) (fun id loc hlt e => by
    have hne : id ≠ g := fun h => by subst h; rw [p.names _ hlt, hn] at e; cases e
    rw [e2 id hne hlt]; exact e) hl
  have hnew : (h.new blk0).get h.next = some blk0 := get_new_same h _
  have hold : ∀ id blk, h.get id = some blk → (h.new blk0).get id = some blk := fun id blk e => get_new_some e
  have hpr := p.rel
  -- the values of cells lie below
  have hcells : ∀ id l' loc', h.get id = some (.cells l') → ι id = some loc' → ∀ v ∈ l', V.low h.next v = true := by
    intro id l' loc' e f v hv
    obtain ⟨cur, te, g1, g2, g3, g4, g5⟩ := hr.cells id l' loc' e f
    obtain ⟨j, hj⟩ := List.mem_iff_getElem?.1 hv
    obtain ⟨x, _, hx⟩ := g5 j v hj
    exact hx.low hr.none
  have hmaps : ∀ id es loc', h.get id = some (.map es) → ι id = some loc' → ∀ q ∈ es, V.low h.next q.1 = true ∧ V.low h.next q.2 = true := by
    intro id es loc' e f q hq
    obtain ⟨ents, clock, _, _, g3⟩ := hr.maps id es loc' e f
    obtain ⟨i, hi⟩ := List.mem_iff_getElem?.1 hq
    obtain ⟨me, _, k2, k3⟩ := g3 i q.1 q.2 hi
    exact ⟨k2.low hr.none, k3.low hr.none⟩
  have key : ∀ id blk loc', h.get id = some blk → ι'' id = some loc' → ∃ id', (h.new blk0).get id' = some blk ∧ ι' id' = some loc' ∧ ((id = g ∧ id' = h.next) ∨ (id ≠ g ∧ id' = id ∧ id < h.next)) := by
    intro id blk loc' e f
    by_cases hid : id = g
    · subst hid
      rw [hg] at e; cases e
      rw [e1] at f; cases f
      exact ⟨h.next, hnew, hloc, .inl ⟨rfl, rfl⟩⟩
    · have hlt := get_lt e
      rw [e2 id hid hlt] at f
      exact ⟨id, hold id blk e, f, .inr ⟨hid, rfl, hlt⟩⟩
  have hrel : HRel w' R' ι'' h := by
    refine ⟨hr.len, e4, hpr.lt, ?_, ?_, ?_, ?_, ?_, hr.floor, ?_⟩
    · intro id l' loc' e f
      obtain ⟨id', h1, h2, h3⟩ := key id _ loc' e f
      obtain ⟨cur, te, g1, g2, g3, g4, g5⟩ := hpr.cells id' l' loc' h1 h2
      refine ⟨cur, te, g1, g2, g3, g4, fun i v ev => ?_⟩
      obtain ⟨x, hx, hv⟩ := g5 i v ev
      refine ⟨x, hx, ?_⟩
      -- what v leads to is below
      have hv1 : V.low (h.next + 1) v = true := hv.low hpr.none
      rcases h3 with ⟨rfl, rfl⟩ | ⟨hne, rfl, hlt⟩
      · rw [hg] at e; cases e
        exact hconv v x (low_at (show V.lows _ _ = true from hlow) ev) hv
      · rw [e3 id' hne hlt] at f
        exact hconv v x (hcells id' l' loc' e f v (List.mem_of_getElem? ev)) hv
    · intro id es loc' e f
      obtain ⟨id', h1, h2, h3⟩ := key id _ loc' e f
      rcases h3 with ⟨rfl, rfl⟩ | ⟨hne, rfl, hlt⟩
      · rw [hg] at e; cases e
        have hl : ∀ q ∈ es, V.low h.next q.1 = true ∧ V.low h.next q.2 = true := fun q hq => by
          have := List.all_eq_true.1 (show es.all _ = true from hlow) q hq
          simpa using this
        exact (hpr.maps _ es loc' h1 h2).moveL rfl fun q hq => ⟨fun x hv => hconv q.1 x (hl q hq).1 hv, fun x hv => hconv q.2 x (hl q hq).2 hv⟩
      · rw [e3 id' hne hlt] at f
        have hl := hmaps id' es loc' e f
        exact (hpr.maps id' es loc' h1 h2).moveL rfl fun q hq => ⟨fun x hv => hconv q.1 x (hl q hq).1 hv, fun x hv => hconv q.2 x (hl q hq).2 hv⟩
    · intro id id2 blk blk2 loc1 loc2 e f g1 g2 hne
      obtain ⟨i1, a1, a2, a3⟩ := key id _ loc1 e g1
      obtain ⟨i2, b1, b2, b3⟩ := key id2 _ loc2 f g2
      refine hpr.inj i1 i2 blk blk2 loc1 loc2 a1 b1 a2 b2 ?_
      rcases a3 with ⟨rfl, rfl⟩ | ⟨_, rfl, _⟩ <;> rcases b3 with ⟨rfl, rfl⟩ | ⟨_, rfl, _⟩ <;> omega
    · intro id blk loc' e f
      obtain ⟨i1, a1, a2, a3⟩ := key id _ loc' e f
      exact hpr.apart i1 blk loc' a1 a2
    · intro f hf id l' loc' hid e e'
      by_cases hne : id = g
      · subst hne; have := hfl f hf; omega
      · rw [e3 id hne (get_lt e)] at e'
        exact hr.low f hf id l' loc' hid e e'
    · intro f hf id es loc' hid e e'
      by_cases hne : id = g
      · subst hne; have := hfl f hf; omega
      · rw [e3 id hne (get_lt e)] at e'
        exact hr.lowM f hf id es loc' hid e e'
  refine ⟨ι'', ⟨hrel, fun b hb => p.sub b (p0.sub b hb), ?_, Nat.le_trans p0.size p.size, p.os.trans p0.os, p.tape.trans p0.tape, p.output.trans p0.output, ?_, ?_, p0.ghost, p0.next, p0.floors, fun b hb => ?_⟩, e1, e3, hmono⟩
  · intro id hid
    have hne : id ≠ g := by omega
    rw [e3 id hne (Nat.lt_of_lt_of_le hid p0.next)]
    exact p0.names id hid
  · exact (p0.trans p).keep
  · intro id blk loc' e f
    obtain ⟨i1, a1, a2, a3⟩ := key id _ loc' e f
    exact (p0.trans p).own i1 blk loc' a1 a2
  · exact (p0.trans p).news b hb
end
end Go.Ab

namespace Go.Ab

structure Pend where
  i : Nat
  s : Step
  v : V
  g : Option Nat

/-- an operation that the abstract machine has carried out and memory has not -/
def PendOk (n0 : Nat) (ι : Nat → Option Loc) (st : St) (p : Pend) : Prop :=
  (wanted st.fr p.s.guard = some false ∧ p.v = .tup [] ∧ p.g = none) ∨
  (wanted st.fr p.s.guard = some true ∧
    ((p.g = none ∧ (p.s.op.kind = 0 ∨ p.s.op.kind = 1) ∧ op1 st.fr st.h p.s.op = some (p.v, st.h)) ∨
     (∃ id f b, p.g = some id ∧ p.s.op.kind = 2 ∧ p.v = RefV.at f id ∧ (∀ h2, op1 st.fr h2 p.s.op = some (f.at h2.next, h2.new b)) ∧ n0 ≤ id ∧ st.h.get id = some b ∧ ι id = none)))

structure Inv (P : Program) (G : Nat → Option V) (C : Ctx) (sf : ACode → St → Option (Ex × St)) (r : RIn) (ops : Array Oper) (w0 : World) (R0 : Nat → Prop) (ι0 : Nat → Option Loc) (h0 : Heap) (ex : Ex) (st' : St)
    (n : Nat) (todo done : List Nat) (rest : List Step) (pend : List Pend) (st : St) (af : List V) (listed : Array Bool) (a : Act) (w : World) (R : Nat → Prop) (ι : Nat → Option Loc) : Prop where
  ord : order r n todo done = some rest
  run : steps C sf rest st = some (ex, st')
  post : Post w0 R0 ι0 h0 w R ι st.h
  glob : GRel G w R ι
  ds : DRel w R ι st.ds a.defers
  fr : ERel w R ι af a
  len : af.length = st.fr.length
  agree : ∀ t, (∀ p ∈ pend, r.dstOf p.i ≠ some t) → af.getD t .undef = st.fr.getD t .undef
  pok : ∀ p ∈ pend, PendOk h0.next ι st p
  pval : ∀ p ∈ pend, ∀ t, r.dstOf p.i = some t → t < st.fr.length → st.fr.getD t .undef = p.v
  pstep : ∀ p ∈ pend, stepOf r [] p.i = some p.s
  pdone : ∀ p ∈ pend, p.i ∈ done ∧ r.eff p.i = false
  pnd : (pend.map (·.i)).Nodup
  gnd : ∀ p ∈ pend, ∀ q ∈ pend, p.i ≠ q.i → ∀ x, p.g = some x → q.g ≠ some x
  tnd : todo.Nodup
  disj : ∀ i ∈ todo, i ∉ done
  all : ∀ i, i < ops.size → i ∈ todo ∨ i ∈ done
  rngT : ∀ i ∈ todo, i < ops.size
  rngD : ∀ i ∈ done, i < ops.size
  danc : ∀ i ∈ done, ∀ j ∈ r.ancOf i, j ∈ done
  lsize : listed.size = ops.size
  lst : ∀ i, i < ops.size → (listed.getD i true = true ↔ (i ∈ done ∧ ∀ p ∈ pend, p.i ≠ i))
  down : ∀ (i : Nat) o, ops[i]? = some o → listed.getD i true = true → ∀ j ∈ preds (P.follows .mixedOrders) o, listed.getD j false = true

/-! ### ancestors -/

theorem ancs_pre {mx : Bool} : ∀ (ops : List Oper) (acc : List (List Nat)) (i : Nat), i < acc.length → (ancs mx ops acc).getD i [] = acc.getD i []
  | [], acc, i, _ => rfl
  | o :: r, acc, i, hi => by
    unfold ancs
    rw [ancs_pre r _ i (by simp; omega)]
    simp [List.getD, List.getElem?_append_left hi]

theorem ancs_spec {mx : Bool} : ∀ (ops : List Oper) (acc : List (List Nat)) (k : Nat) (o : Oper), ops[k]? = some o → ∀ j ∈ (ancs mx ops acc).getD (acc.length + k) [], ∃ p ∈ preds mx o, j = p ∨ (p < acc.length + k ∧ j ∈ (ancs mx ops acc).getD p [])
  | [], acc, k, o, h => by simp at h
  | x :: r, acc, k, o, h => by
    intro j hj
    unfold ancs at hj ⊢
    cases k with
    | zero =>
      simp only [List.getElem?_cons_zero, Option.some.injEq] at h
      subst h
      rw [ancs_pre r _ _ (by simp)] at hj
      simp only [Nat.add_zero, List.getD, List.getElem?_append_right (Nat.le_refl _), Nat.sub_self, List.getElem?_cons_zero, Option.getD_some, List.mem_eraseDups, List.mem_flatMap, List.mem_cons] at hj
      obtain ⟨p, hp, hj⟩ := hj
      refine ⟨p, hp, hj.imp id fun hj => ?_⟩
      have hlt : p < acc.length := by
        rcases Nat.lt_or_ge p acc.length with h | h
        · exact h
        · rw [List.getElem?_eq_none h] at hj; simp at hj
      refine ⟨by omega, ?_⟩
      rw [ancs_pre r _ p (by simp; omega)]
      simp only [List.getD, List.getElem?_append_left hlt]
      exact hj
    | succ k =>
      have := ancs_spec r (acc ++ [((preds mx x).flatMap fun j => j :: acc.getD j []).eraseDups]) k o (by simpa using h) j (by
        have e : (acc ++ [((preds mx x).flatMap fun j => j :: acc.getD j []).eraseDups]).length + k = acc.length + (k + 1) := by simp; omega
        rw [e]; exact hj)
      obtain ⟨p, hp, hq⟩ := this
      refine ⟨p, hp, hq.imp id fun hq => ⟨?_, hq.2⟩⟩
      have := hq.1
      simp at this; omega

theorem dst_inj : ∀ (l : List Oper), (l.filterMap (·.dst)).Nodup → ∀ (i j : Nat) t, (l[i]?).bind (·.dst) = some t → (l[j]?).bind (·.dst) = some t → i = j
  | [], _, i, j, t, h, _ => by simp at h
  | o :: r, hn, i, j, t, h1, h2 => by
    have hmem : ∀ {k : Nat}, (r[k]?).bind (·.dst) = some t → t ∈ r.filterMap (·.dst) := fun {k} h => by
      obtain ⟨o', ho', hd⟩ := Option.bind_eq_some_iff.1 h
      exact List.mem_filterMap.2 ⟨o', List.mem_of_getElem? ho', hd⟩
    have hr : (r.filterMap (·.dst)).Nodup := by
      simp only [List.filterMap_cons] at hn
      split at hn
      · exact hn
      · exact (List.nodup_cons.1 hn).2
    have hno : o.dst = some t → t ∉ r.filterMap (·.dst) := fun h => by
      simp only [List.filterMap_cons, h] at hn
      exact (List.nodup_cons.1 hn).1
    cases i with
    | zero =>
      cases j with
      | zero => rfl
      | succ j =>
        simp only [List.getElem?_cons_zero, Option.bind_some] at h1
        simp only [List.getElem?_cons_succ] at h2
        exact absurd (hmem h2) (hno h1)
    | succ i =>
      cases j with
      | zero =>
        simp only [List.getElem?_cons_zero, Option.bind_some] at h2
        simp only [List.getElem?_cons_succ] at h1
        exact absurd (hmem h1) (hno h2)
      | succ j =>
        rw [dst_inj r hr i j t (by simpa using h1) (by simpa using h2)]

section
variable {P : Program} {G : Nat → Option V} {C : Ctx} {self : ACode → St → Option (Ex × St)} {r : RIn} {ops : Array Oper} {w0 w w' : World} {R0 R R' : Nat → Prop} {ι0 ι ι' : Nat → Option Loc} {h0 h h' : Heap} {ex : Ex} {st' : St}
  {n : Nat} {todo done : List Nat} {rest : List Step} {pend : List Pend} {st : St} {af fr : List V} {listed : Array Bool} {a : Act}

theorem stepOf_aop {chk : List (Nat × Option (Nat × Bool) × AOp)} {i : Nat} {s : Step} (e : stepOf r chk i = some s) : r.aops[i]? = some s.op ∧ i < r.ops.length ∧ s.dst = r.dstOf i ∧ s.chk = chk ∧ (∀ t ∈ s.op.uses, t ∈ r.uses i) ∧ ∀ t b, s.guard = some (t, b) → t ∈ r.uses i := by
  unfold stepOf at e
  split at e
  · rename_i o ao ho hao
    have hlt : i < r.ops.length := (List.getElem?_eq_some_iff.1 ho).1
    split at e
    · rename_i hg
      cases e
      exact ⟨hao, hlt, by simp [RIn.dstOf, ho], rfl, fun t ht => by simp only [RIn.uses, hao]; exact List.mem_append_left _ ht, fun t b h => by cases h⟩
    · rename_i j b hg
      split at e
      · rename_i t ht
        cases e
        refine ⟨hao, hlt, by simp [RIn.dstOf, ho], rfl, fun t ht => by simp only [RIn.uses, hao]; exact List.mem_append_left _ ht, fun t' b' h => ?_⟩
        cases h
        simp only [RIn.uses, ho, Option.bind_some, hg, ht]
        exact List.mem_append_right _ (by simp)
      · cases e
  · cases e

/-- what does not keep its place is looked at by its followers alone -/
theorem eff_false {i : Nat} (he : r.eff i = false) : (∃ ao, r.aops[i]? = some ao ∧ ao.kind ≠ 3) ∧ ∀ t, r.dstOf i = some t → ∀ j, j < r.ops.length → t ∈ r.uses j → i ∈ r.ancOf j := by
  unfold RIn.eff at he
  simp only [Bool.or_eq_false_iff] at he
  refine ⟨?_, fun t ht j hj hu => ?_⟩
  · cases ha : r.aops[i]? with
    | none => rw [ha] at he; simp at he
    | some ao => rw [ha] at he; exact ⟨ao, rfl, by simpa using he.1⟩
  · have h2 := he.2
    rw [ht] at h2
    simp only [List.any_eq_false, List.mem_range] at h2
    have := h2 j hj
    simp only [Bool.and_eq_true, List.contains_eq_mem, decide_eq_true_eq, Bool.not_eq_true', decide_eq_false_iff_not, not_and, Classical.not_not] at this
    exact this hu

theorem put_getD {fr : List V} {d : Option Nat} {v : V} {t : Nat} (h : d ≠ some t) : (put fr d v).getD t .undef = fr.getD t .undef := by
  cases d with
  | none => rfl
  | some d =>
    have : d ≠ t := fun e => h (by rw [e])
    simp [put, List.getD, List.getElem?_set_ne this]

theorem put_getD_same {fr : List V} {v : V} {t : Nat} (h : t < fr.length) : (put fr (some t) v).getD t .undef = v := by
  simp [put, List.getD, h]

theorem put_length {fr : List V} {d : Option Nat} {v : V} : (put fr d v).length = fr.length := by cases d <;> simp [put]

theorem put_agree {d : Option Nat} {v : V} {t : Nat} (hl : af.length = fr.length) (h : d ≠ some t → af.getD t .undef = fr.getD t .undef) : (put af d v).getD t .undef = (put fr d v).getD t .undef := by
  by_cases hd : d = some t
  · subst hd
    rcases Nat.lt_or_ge t fr.length with hlt | hge
    · rw [put_getD_same hlt, put_getD_same (by omega)]
    · simp [put, List.getD, hl, Nat.not_lt.2 hge]
  · rw [put_getD hd, put_getD hd]; exact h hd

theorem kind_cases (ao : AOp) (h : ao.kind ≠ 3) : ao.kind = 0 ∨ ao.kind = 1 ∨ ao.kind = 2 := by
  cases ao <;> simp [AOp.kind] at h ⊢

theorem kind_far {ao : AOp} (h : ao.kind ≠ 3) : ao.far = false := by
  cases ao <;> first | rfl | (simp [AOp.kind] at h)
end
end Go.Ab

namespace Go.Ab
section
variable {P : Program} {G : Nat → Option V} {C : Ctx} {self : ACode → St → Option (Ex × St)} {r : RIn} {ops : Array Oper} {w0 w w' : World} {R0 R R' : Nat → Prop} {ι0 ι ι' : Nat → Option Loc} {h0 h h' : Heap} {ex : Ex} {st' : St}
  {n : Nat} {todo done : List Nat} {rest : List Step} {pend : List Pend} {st : St} {af fr : List V} {listed : Array Bool} {a : Act}

/-- everything that an operation waits for is there -/
theorem anc_listed (hops : r.ops = ops.toList) (hanc : r.anc = ancs (P.follows .mixedOrders) r.ops []) (I : Inv P G C self r ops w0 R0 ι0 h0 ex st' n todo done rest pend st af listed a w R ι) :
    ∀ (i : Nat) o, ops[i]? = some o → (∀ j ∈ preds (P.follows .mixedOrders) o, listed.getD j false = true) → ∀ j ∈ r.ancOf i, listed.getD j false = true := by
  intro i
  induction i using Nat.strongRecOn with
  | _ i ih =>
  intro o ho hp j hj
  have ho' : r.ops[i]? = some o := by rw [hops, Array.getElem?_toList]; exact ho
  unfold RIn.ancOf at hj
  rw [hanc] at hj
  obtain ⟨p, hpp, hq⟩ := ancs_spec r.ops [] i o ho' j (by simpa using hj)
  rcases hq with rfl | ⟨hlt, hq⟩
  · exact hp _ hpp
  · have hlp := hp p hpp
    have hps : p < ops.size := by
      rcases Nat.lt_or_ge p ops.size with h | h
      · exact h
      · have : listed.getD p false = false := by simp [Array.getD, I.lsize, Nat.not_lt.2 h]
        rw [this] at hlp; cases hlp
    obtain ⟨o2, ho2⟩ : ∃ o2, ops[p]? = some o2 := ⟨_, Array.getElem?_eq_getElem hps⟩
    have hlt' : listed.getD p true = true := by
      have hs := I.lsize
      simp [Array.getD, hs, hps] at hlp ⊢
      exact hlp
    exact ih p (by simpa using hlt) o2 ho2 (I.down p o2 ho2 hlt') j (by unfold RIn.ancOf; rw [hanc]; exact hq)

theorem listed_true {i : Nat} (I : Inv P G C self r ops w0 R0 ι0 h0 ex st' n todo done rest pend st af listed a w R ι) (h : listed.getD i false = true) : i < ops.size ∧ i ∈ done ∧ ∀ p ∈ pend, p.i ≠ i := by
  have hs := I.lsize
  have hi : i < ops.size := by
    rcases Nat.lt_or_ge i ops.size with h' | h'
    · exact h'
    · have : listed.getD i false = false := by simp [Array.getD, hs, Nat.not_lt.2 h']
      rw [this] at h; cases h
  refine ⟨hi, (I.lst i hi).1 ?_⟩
  simp [Array.getD, hs, hi] at h ⊢
  exact h

theorem mem_ready {md : Region.Mode} {i : Nat} (h : i ∈ Region.ready md ops listed) : i < ops.size ∧ listed.getD i true = false ∧ ∃ o, ops[i]? = some o ∧ ∀ j ∈ predsOf md o, listed.getD j false = true := by
  unfold Region.ready at h
  rw [List.mem_filter] at h
  obtain ⟨h1, h2⟩ := h
  have hi := List.mem_range.1 h1
  simp only [Bool.and_eq_true, Bool.not_eq_true'] at h2
  refine ⟨hi, h2.1, ops[i], Array.getElem?_eq_getElem hi, fun j hj => ?_⟩
  have h3 := h2.2
  rw [Array.getElem?_eq_getElem hi] at h3
  simp only [Option.map_some, Option.getD_some] at h3
  unfold predsOf at hj
  obtain ⟨e, he, rfl⟩ := List.mem_map.1 hj
  obtain ⟨he1, he2⟩ := List.mem_filter.1 he
  have h4 := Array.all_eq_true_iff_forall_mem.1 h3 e (Array.mem_toList_iff.1 he1)
  simp only [he2, Bool.not_true, Bool.false_or] at h4
  exact h4

theorem ready_mem {md : Region.Mode} {i : Nat} {o : Oper} (hi : ops[i]? = some o) (h1 : listed.getD i true = false) (h2 : ∀ j ∈ predsOf md o, listed.getD j false = true) : i ∈ Region.ready md ops listed := by
  unfold Region.ready
  rw [List.mem_filter]
  have hlt : i < ops.size := (Array.getElem?_eq_some_iff.1 hi).1
  refine ⟨List.mem_range.2 hlt, ?_⟩
  simp only [Bool.and_eq_true, Bool.not_eq_true', h1, true_and, hi, Option.map_some, Option.getD_some]
  rw [Array.all_eq_true_iff_forall_mem]
  intro e he
  cases hb : Region.binds md e with
  | false => simp
  | true =>
    simp only [Bool.not_true, Bool.false_or]
    exact h2 e.on (by unfold predsOf; exact List.mem_map.2 ⟨e, List.mem_filter.2 ⟨Array.mem_toList_iff.2 he, hb⟩, rfl⟩)

/-- what an operation that may come now looks at is there -/
theorem uses_there (hops : r.ops = ops.toList) (hanc : r.anc = ancs (P.follows .mixedOrders) r.ops []) (I : Inv P G C self r ops w0 R0 ι0 h0 ex st' n todo done rest pend st af listed a w R ι) {i : Nat} {o : Oper} (ho : ops[i]? = some o) (hp : ∀ j ∈ preds (P.follows .mixedOrders) o, listed.getD j false = true) :
    ∀ t ∈ r.uses i, af.getD t .undef = st.fr.getD t .undef := by
  intro t ht
  refine I.agree t fun p hpm hd => ?_
  have he := (I.pdone p hpm).2
  have hlen : i < r.ops.length := by rw [hops, Array.length_toList]; exact (Array.getElem?_eq_some_iff.1 ho).1
  have := (eff_false he).2 t hd i hlen ht
  have hl := anc_listed hops hanc I i o ho hp _ this
  exact (listed_true I hl).2.2 p hpm rfl

theorem steps_cons {s : Step} {l : List Step} (e : steps C self (s :: l) st = some (ex, st')) : ∃ ex1 st1, step C self s st = some (ex1, st1) ∧ ((ex1 = .nrm ∧ checks st1.fr st1.h s.chk = true ∧ steps C self l st1 = some (ex, st')) ∨ (ex1 ≠ .nrm ∧ ex = ex1 ∧ st' = st1)) := by
  simp only [steps] at e
  cases h : step C self s st with
  | none => rw [h] at e; cases e
  | some q =>
    obtain ⟨ex1, st1⟩ := q
    rw [h] at e
    refine ⟨ex1, st1, rfl, ?_⟩
    cases ex1 with
    | nrm =>
      simp only at e
      split at e
      · rename_i hc; exact .inl ⟨rfl, hc, e⟩
      · cases e
    | _ => cases e; exact .inr ⟨by simp, rfl, rfl⟩

/-- the abstract machine goes on to the next effect -/
theorem absorb (hops : r.ops = ops.toList) (has : aops P G r.ops = some r.aops) (hnd : ∀ i j t, r.dstOf i = some t → r.dstOf j = some t → i = j) : ∀ (n : Nat) (todo done : List Nat) (rest : List Step) (pend : List Pend) (st : St),
    Inv P G C self r ops w0 R0 ι0 h0 ex st' n todo done rest pend st af listed a w R ι →
    ∃ n' todo' done' rest' pend' st2, Inv P G C self r ops w0 R0 ι0 h0 ex st' n' todo' done' rest' pend' st2 af listed a w R ι ∧ pend'.length + todo'.length = pend.length + todo.length ∧
      todo'.find? (fun i => !r.eff i && (r.ancOf i).all fun j => done'.contains j) = none
  | 0, todo, done, rest, pend, st, I => by
    have h := I.ord
    cases todo with
    | nil => exact ⟨0, [], done, rest, pend, st, I, rfl, rfl⟩
    | cons x t => simp [order] at h
  | n + 1, todo, done, rest, pend, st, I => by
    cases hf : todo.find? (fun i => !r.eff i && (r.ancOf i).all fun j => done.contains j) with
    | none => exact ⟨n + 1, todo, done, rest, pend, st, I, rfl, hf⟩
    | some i =>
      have hmem : i ∈ todo := List.mem_of_find?_eq_some hf
      have hprop := List.find?_some hf
      simp only [Bool.and_eq_true, Bool.not_eq_true', List.all_eq_true, List.contains_eq_mem, decide_eq_true_eq] at hprop
      obtain ⟨heff, hanc⟩ := hprop
      have hord := I.ord
      have hne : todo ≠ [] := by intro h; rw [h] at hmem; cases hmem
      have hord2 : (match stepOf r [] i, order r n (todo.filter (· != i)) (i :: done) with
        | some s, some l => some (s :: l)
        | _, _ => none) = some rest := by
        cases todo with
        | nil => exact absurd rfl hne
        | cons x t => simp only [order, hf] at hord; exact hord
      split at hord2
      · rename_i s l hs hl
        cases hord2
        obtain ⟨ex1, st1, hstep, hcase⟩ := steps_cons I.run
        obtain ⟨hao, hilt, hdst, hchk, huse, hguse⟩ := stepOf_aop hs
        obtain ⟨⟨ao, hao', hk3⟩, hlate⟩ := eff_false heff
        rw [hao] at hao'; cases hao'
        have hnotdone : i ∉ done := I.disj i hmem
        -- nobody that is done, nor i, looks at what i writes
        have hfresh : ∀ j, j < r.ops.length → (j = i ∨ j ∈ done) → ∀ t, r.dstOf i = some t → t ∉ r.uses j := by
          intro j hj hjd t ht hu
          have := hlate t ht j hj hu
          rcases hjd with rfl | hjd
          · exact hnotdone (hanc _ this)
          · exact hnotdone (I.danc j hjd i this)
        have hpi : ∀ p ∈ pend, p.i ≠ i := fun p hp h => hnotdone (h ▸ (I.pdone p hp).1)
        have hplt : ∀ p ∈ pend, p.i < r.ops.length := fun p hp => by rw [hops, Array.length_toList]; exact I.rngD _ (I.pdone p hp).1
        -- the step
        have key : ∃ v h2 g, ex1 = .nrm ∧ st1 = { st with fr := put st.fr (r.dstOf i) v, h := h2 } ∧ (h2 = st.h ∨ ∃ b, h2 = st.h.new b ∧ g = some st.h.next) ∧ (g = none ∨ g = some st.h.next) ∧
            PendOk h0.next ι st1 { i, s, v, g } := by
          unfold step at hstep
          have hsame : ∀ v h2, Same (put st.fr (r.dstOf i) v) st.fr s.op.uses ∧ wanted ({ st with fr := put st.fr (r.dstOf i) v, h := h2 } : St).fr s.guard = wanted st.fr s.guard := fun v h2 =>
            ⟨fun t ht => put_getD fun hd => hfresh i hilt (.inl rfl) t hd (huse t ht), wanted_same fun t b hg => put_getD fun hd => hfresh i hilt (.inl rfl) t hd (hguse t b hg)⟩
          split at hstep
          · rename_i hw
            rw [stepOp_near (kind_far hk3)] at hstep
            obtain ⟨⟨v, h2⟩, hv, hh⟩ := map_some hstep
            rw [hdst] at hh
            cases hh
            rcases kind_cases _ hk3 with hk | hk | hk
            · obtain ⟨rfl, hall⟩ := op1_pure hk hv
              refine ⟨v, st.h, none, rfl, rfl, .inl rfl, .inl rfl, .inr ⟨((hsame v st.h).2).trans hw, .inl ⟨rfl, .inl hk, ?_⟩⟩⟩
              rw [op1_same (hsame v st.h).1]; exact hv
            · obtain ⟨rfl, hall⟩ := op1_read hk hv
              refine ⟨v, st.h, none, rfl, rfl, .inl rfl, .inl rfl, .inr ⟨((hsame v st.h).2).trans hw, .inl ⟨rfl, .inr hk, ?_⟩⟩⟩
              rw [op1_same (hsame v st.h).1]; exact hv
            · obtain ⟨f, l', rfl, rfl, hall⟩ := op1_alloc hk hv
              refine ⟨_, _, some st.h.next, rfl, rfl, .inr ⟨l', rfl, rfl⟩, .inr rfl, .inr ⟨((hsame _ _).2).trans hw, .inr ⟨st.h.next, f, l', rfl, hk, rfl, fun h2 => ?_, I.post.next, get_new_same _ _, I.post.rel.none _ (Nat.le_refl _)⟩⟩⟩
              rw [op1_same (hsame _ st.h).1]; exact hall h2
          · rename_i hw
            rw [hdst] at hstep
            cases hstep
            exact ⟨.tup [], st.h, none, rfl, rfl, .inl rfl, .inl rfl, .inl ⟨((hsame (.tup []) st.h).2).trans hw, rfl, rfl⟩⟩
          · cases hstep
        obtain ⟨v, h2, g, rfl, hst1, hh2, hg, hpk⟩ := key
        rcases hcase with ⟨_, hck, hrest⟩ | ⟨hne', _⟩
        rotate_left
        · exact absurd rfl hne'
        have hnew : ∀ id blk, st.h.get id = some blk → h2.get id = some blk := fun id blk e => by
          rcases hh2 with rfl | ⟨l', rfl, _⟩
          · exact e
          · exact get_new_some e
        have I2 : Inv P G C self r ops w0 R0 ι0 h0 ex st' n (todo.filter (· != i)) (i :: done) l ({ i, s, v, g } :: pend) st1 af listed a w R ι := by
          refine { ord := hl, run := hrest, post := ?_, glob := I.glob, ds := ?_, fr := I.fr, len := ?_, agree := ?_, pok := ?_, pval := ?_, pstep := ?_, pdone := ?_, pnd := ?_, gnd := ?_, tnd := ?_, disj := ?_, all := ?_, rngT := ?_, rngD := ?_, danc := ?_, lsize := I.lsize, lst := ?_, down := I.down }
          · rw [hst1]
            rcases hh2 with rfl | ⟨l', rfl, _⟩
            · exact I.post
            · exact I.post.ghosted _
          · rw [hst1]; exact I.ds
          · rw [hst1]; simp only [put_length]; exact I.len
          · intro t ht
            have h1 := ht _ (List.mem_cons_self)
            rw [hst1]
            simp only at h1 ⊢
            rw [put_getD h1]
            exact I.agree t fun p hp => ht p (List.mem_cons_of_mem _ hp)
          · intro p hp
            rcases List.mem_cons.1 hp with rfl | hp
            · exact hpk
            · have hok := I.pok p hp
              obtain ⟨_, _, _, _, puse, pguse⟩ := stepOf_aop (I.pstep p hp)
              have hs1 : Same st1.fr st.fr p.s.op.uses := fun t ht => by
                rw [hst1]; exact put_getD fun hd => hfresh p.i (hplt p hp) (.inr (I.pdone p hp).1) t hd (puse t ht)
              have hw1 : wanted st1.fr p.s.guard = wanted st.fr p.s.guard := wanted_same fun t b hg => by
                rw [hst1]; exact put_getD fun hd => hfresh p.i (hplt p hp) (.inr (I.pdone p hp).1) t hd (pguse t b hg)
              unfold PendOk at hok ⊢
              rw [hw1]
              rcases hok with hok | ⟨hw, ⟨hgn, hk, hv⟩ | ⟨id, f, l', hgi, hk, hv, hall, hn0, hget, hι⟩⟩
              · exact .inl hok
              · refine .inr ⟨hw, .inl ⟨hgn, hk, ?_⟩⟩
                rw [op1_same hs1, hst1]
                rcases hh2 with rfl | ⟨l', rfl, _⟩
                · exact hv
                · rcases hk with hk | hk
                  · exact (op1_pure hk hv).2 _
                  · exact (op1_read hk hv).2 _
              · refine .inr ⟨hw, .inr ⟨id, f, l', hgi, hk, hv, fun h3 => by rw [op1_same hs1]; exact hall h3, hn0, ?_, hι⟩⟩
                rw [hst1]; exact hnew _ _ hget
          · intro p hp t ht hlt
            rw [hst1] at hlt ⊢
            simp only [put_length] at hlt
            rcases List.mem_cons.1 hp with rfl | hp
            · simp only at ht ⊢
              rw [ht]; exact put_getD_same hlt
            · by_cases hd : r.dstOf i = some t
              · exfalso
                exact hpi p hp (hnd _ _ t ht hd)
              · simp only; rw [put_getD hd]; exact I.pval p hp t ht hlt
          · intro p hp
            rcases List.mem_cons.1 hp with rfl | hp
            · exact hs
            · exact I.pstep p hp
          · intro p hp
            rcases List.mem_cons.1 hp with rfl | hp
            · exact ⟨List.mem_cons_self, heff⟩
            · exact ⟨List.mem_cons_of_mem _ (I.pdone p hp).1, (I.pdone p hp).2⟩
          · simp only [List.map_cons, List.nodup_cons]
            refine ⟨fun hm => ?_, I.pnd⟩
            obtain ⟨p, hp, hpe⟩ := List.mem_map.1 hm
            exact hpi p hp hpe
          · have hlt : ∀ q ∈ pend, q.g ≠ some st.h.next := fun q hq hx => by
              rcases I.pok q hq with ⟨_, _, h1⟩ | ⟨_, ⟨h1, _⟩ | ⟨id, f, l', h1, _, _, _, _, h2, _⟩⟩
              · rw [h1] at hx; cases hx
              · rw [h1] at hx; cases hx
              · rw [h1] at hx; cases hx; exact Nat.lt_irrefl _ (get_lt h2)
            intro p hp q hq hne x hx
            rcases List.mem_cons.1 hp with rfl | hp <;> rcases List.mem_cons.1 hq with rfl | hq
            · exact absurd rfl hne
            · simp only at hx
              rcases hg with hg | hg <;> rw [hg] at hx
              · cases hx
              · cases hx; exact hlt q hq
            · simp only
              intro hgx
              rcases hg with hg | hg <;> rw [hg] at hgx
              · cases hgx
              · cases hgx; exact hlt p hp hx
            · exact I.gnd p hp q hq hne x hx
          · exact I.tnd.filter _
          · intro j hj
            obtain ⟨h1, h2'⟩ := List.mem_filter.1 hj
            have : j ≠ i := by simpa using h2'
            intro hm
            rcases List.mem_cons.1 hm with h | h
            · exact this h
            · exact I.disj j h1 h
          · intro j hj
            by_cases hji : j = i
            · exact .inr (by simp [hji])
            · rcases I.all j hj with h | h
              · exact .inl (List.mem_filter.2 ⟨h, by simpa using hji⟩)
              · exact .inr (List.mem_cons_of_mem _ h)
          · intro j hj; exact I.rngT j (List.mem_filter.1 hj).1
          · intro j hj
            rcases List.mem_cons.1 hj with rfl | h
            · exact I.rngT _ hmem
            · exact I.rngD j h
          · intro j hj k hk
            rcases List.mem_cons.1 hj with rfl | h
            · exact List.mem_cons_of_mem _ (hanc k hk)
            · exact List.mem_cons_of_mem _ (I.danc j h k hk)
          · intro j hj
            rw [I.lst j hj]
            constructor
            · rintro ⟨h1, h3⟩
              refine ⟨List.mem_cons_of_mem _ h1, fun p hp => ?_⟩
              rcases List.mem_cons.1 hp with rfl | hp
              · intro h; simp only at h; subst h; exact hnotdone h1
              · exact h3 p hp
            · rintro ⟨h1, h3⟩
              refine ⟨?_, fun p hp => h3 p (List.mem_cons_of_mem _ hp)⟩
              rcases List.mem_cons.1 h1 with h | h
              · exact absurd h.symm (h3 _ (List.mem_cons_self))
              · exact h
        obtain ⟨n', todo', done', rest', pend', st2, g1, g2, g3⟩ := absorb hops has hnd n _ _ _ _ _ I2
        refine ⟨n', todo', done', rest', pend', st2, g1, ?_, g3⟩
        have hlen : (todo.filter (· != i)).length + 1 = todo.length := by
          have := I.tnd.erase_eq_filter i
          rw [← this, List.length_erase_of_mem hmem]
          have : 0 < todo.length := List.length_pos_of_mem hmem
          omega
        rw [g2]; simp only [List.length_cons]; omega
      · cases hord2
end
end Go.Ab

namespace Go.Ab
section
variable {P : Program} {G : Nat → Option V} {C : Ctx} {self : ACode → St → Option (Ex × St)} {r : RIn} {ops : Array Oper} {w0 w w' : World} {R0 R R' : Nat → Prop} {ι0 ι ι' : Nat → Option Loc} {h0 h h' : Heap} {ex : Ex} {st' : St}
  {n : Nat} {todo done : List Nat} {rest : List Step} {pend : List Pend} {st : St} {af fr : List V} {listed : Array Bool} {a : Act}

theorem listed_set {i : Nat} (hs : listed.size = ops.size) (hi : i < ops.size) (j : Nat) (d : Bool) : (listed.setIfInBounds i true).getD j d = if j = i then true else listed.getD j d := by
  by_cases hj : j = i
  · subst hj
    simp [Array.getD, hs, hi]
  · simp only [if_neg hj]
    rcases Nat.lt_or_ge j listed.size with h | h
    · simp [Array.getD, h, Ne.symm hj]
    · simp [Array.getD, Nat.not_lt.2 h]

/-- memory has caught up with an operation -/
theorem caught (I : Inv P G C self r ops w0 R0 ι0 h0 ex st' n todo done rest pend st af listed a w R ι) {p : Pend} (hp : p ∈ pend) {o : Oper} (ho : ops[p.i]? = some o) (hod : o.dst = r.dstOf p.i)
    (hpre : ∀ j ∈ preds (P.follows .mixedOrders) o, listed.getD j false = true) {x : Value} (post' : Post w0 R0 ι0 h0 w' R' ι' st.h) (hmono : ∀ v x, Rep w R ι v x → Rep w' R' ι' v x) (hx : ∃ u, Rep w' R' ι' u x ∧ (u = p.v))
    (hgh : ∀ q ∈ pend, q.i ≠ p.i → ∀ id, q.g = some id → ι' id = none) :
    Inv P G C self r ops w0 R0 ι0 h0 ex st' n todo done rest (pend.filter fun q => q.i != p.i) st (put af o.dst p.v) (listed.setIfInBounds p.i true) (a.put o.dst x) w' R' ι' := by
  obtain ⟨u, hu, rfl⟩ := hx
  have hi : p.i < ops.size := (Array.getElem?_eq_some_iff.1 ho).1
  have hsub : ∀ q, q ∈ pend.filter (fun q => q.i != p.i) ↔ q ∈ pend ∧ q.i ≠ p.i := fun q => by simp [List.mem_filter]
  refine { ord := I.ord, run := I.run, post := post', glob := fun g v e => hmono _ _ (I.glob g v e), ds := ?_, fr := ?_, len := (by rw [put_length]; exact I.len), agree := ?_, pok := ?_, pval := ?_, pstep := ?_, pdone := ?_, pnd := ?_, gnd := ?_, tnd := I.tnd, disj := I.disj, all := I.all, rngT := I.rngT, rngD := I.rngD, danc := I.danc, lsize := (by simp [I.lsize]), lst := ?_, down := ?_ }
  · rw [put_defers]
    refine ⟨I.ds.1, fun i d e h1 h2 => ?_⟩
    obtain ⟨f, pre, caps, xs, ys, zs, g1, g2, g3, g4, g5, g6⟩ := I.ds.2 i d e h1 h2
    exact ⟨f, pre, caps, xs, ys, zs, g1, g2, g3, ⟨g4.1, fun i v x e e' => hmono _ _ (g4.2 i v x e e')⟩, ⟨g5.1, fun i v x e e' => hmono _ _ (g5.2 i v x e e')⟩, ⟨g6.1, fun i v x e e' => hmono _ _ (g6.2 i v x e e')⟩⟩
  · exact ERel.put ⟨I.fr.len, fun i v x e e' => hmono _ _ (I.fr.tmps i v x e e')⟩ hu
  · intro t ht
    by_cases hd : r.dstOf p.i = some t
    · rw [hod, hd]
      rcases Nat.lt_or_ge t st.fr.length with hlt | hge
      · rw [put_getD_same (by rw [I.len]; exact hlt), I.pval p hp t hd hlt]
      · have h1 : (put af (some t) p.v).getD t .undef = .undef := by simp [List.getD, List.getElem?_eq_none (show (put af (some t) p.v).length ≤ t by rw [put_length, I.len]; exact hge)]
        have h2 : st.fr.getD t .undef = .undef := by simp [List.getD, List.getElem?_eq_none hge]
        rw [h1, h2]
    · rw [hod, put_getD hd]
      refine I.agree t fun q hq => ?_
      by_cases hqp : q.i = p.i
      · rw [hqp]; exact hd
      · exact ht q ((hsub q).2 ⟨hq, hqp⟩)
  · intro q hq
    obtain ⟨hq1, hq2⟩ := (hsub q).1 hq
    rcases I.pok q hq1 with hk | ⟨hw, hk | ⟨id, f, l', h1, h2, h3, h4, h5, h6, h7⟩⟩
    · exact .inl hk
    · exact .inr ⟨hw, .inl hk⟩
    · exact .inr ⟨hw, .inr ⟨id, f, l', h1, h2, h3, h4, h5, h6, hgh q hq1 hq2 id h1⟩⟩
  · intro q hq; exact I.pval q ((hsub q).1 hq).1
  · intro q hq; exact I.pstep q ((hsub q).1 hq).1
  · intro q hq; exact I.pdone q ((hsub q).1 hq).1
  · exact List.Nodup.sublist (List.Sublist.map _ List.filter_sublist) I.pnd
  · intro q hq s hs; exact I.gnd q ((hsub q).1 hq).1 s ((hsub s).1 hs).1
  · intro j hj
    rw [listed_set I.lsize hi]
    by_cases hji : j = p.i
    · subst hji
      simp only [if_true, true_iff]
      exact ⟨(I.pdone p hp).1, fun q hq => ((hsub q).1 hq).2⟩
    · rw [if_neg hji, I.lst j hj]
      constructor
      · rintro ⟨h1, h2⟩
        exact ⟨h1, fun q hq => h2 q ((hsub q).1 hq).1⟩
      · rintro ⟨h1, h2⟩
        refine ⟨h1, fun q hq => ?_⟩
        by_cases hqp : q.i = p.i
        · rw [hqp]; exact Ne.symm hji
        · exact h2 q ((hsub q).2 ⟨hq, hqp⟩)
  · intro j o' ho' hl k hk
    rw [listed_set I.lsize hi] at hl ⊢
    by_cases hki : k = p.i
    · rw [if_pos hki]
    · rw [if_neg hki]
      by_cases hji : j = p.i
      · subst hji
        rw [ho] at ho'; cases ho'
        exact hpre k hk
      · rw [if_neg hji] at hl
        exact I.down j o' ho' hl k hk

/-- an operation that has its place later comes -/
theorem pend_ok (hr0 : HRel w0 R0 ι0 h0) (hops : r.ops = ops.toList) (hanc : r.anc = ancs (P.follows .mixedOrders) r.ops []) (has : aops P G r.ops = some r.aops) (_hnd : ∀ i j t, r.dstOf i = some t → r.dstOf j = some t → i = j)
    (I : Inv P G C self r ops w0 R0 ι0 h0 ex st' n todo done rest pend st af listed a w R ι) {md : Region.Mode} (hmd : ∀ (i : Nat) o, ops[i]? = some o → ∀ j ∈ preds (P.follows .mixedOrders) o, j ∈ predsOf md o) {p : Pend} (hp : p ∈ pend) (hready : p.i ∈ Region.ready md ops listed) {Q : Exit → Act → World → Prop} :
    wpOp P ops Q p.i (fun a' w' => ∃ af' R' ι', Inv P G C self r ops w0 R0 ι0 h0 ex st' n todo done rest (pend.filter fun q => q.i != p.i) st af' (listed.setIfInBounds p.i true) a' w' R' ι') a w := by
  obtain ⟨hi, hl, o, ho, hpre0⟩ := mem_ready hready
  have hpre : ∀ j ∈ preds (P.follows .mixedOrders) o, listed.getD j false = true := fun j hj => hpre0 j (hmd _ o ho j hj)
  obtain ⟨o', ho', hao, hdst, hchk, hg⟩ := stepOf_spec hops has (I.pstep p hp)
  rw [ho] at ho'; cases ho'
  obtain ⟨_, _, hdst', _, huse, hguse⟩ := stepOf_aop (I.pstep p hp)
  have hod : o.dst = r.dstOf p.i := by rw [← hdst, hdst']
  have hthere := uses_there hops hanc I ho hpre
  have hw : wanted af p.s.guard = wanted st.fr p.s.guard := wanted_same fun t b h => hthere t (hguse t b h)
  have hs : Same af st.fr p.s.op.uses := fun t ht => hthere t (huse t ht)
  have hr := I.post.rel
  unfold wpOp
  simp only [ho]
  rcases I.pok p hp with ⟨h1, h2, h3⟩ | ⟨h1, hk⟩
  · rw [wanted_ok I.fr hg (hw.trans h1)]
    simp only [Bool.false_eq_true, if_false]
    refine ⟨_, _, _, caught I hp ho hod hpre I.post (fun _ _ h => h) ⟨.tup [], .tup [] [] rfl (by simp), h2.symm⟩ fun q hq hne id hgq => ?_⟩
    rcases I.pok q hq with ⟨_, _, h⟩ | ⟨_, ⟨h, _⟩ | ⟨id', f, l', h, _, _, _, _, _, hι⟩⟩
    · rw [h] at hgq; cases hgq
    · rw [h] at hgq; cases hgq
    · rw [h] at hgq; cases hgq; exact hι
  · rw [wanted_ok I.fr hg (hw.trans h1), if_pos rfl]
    refine .inl ?_
    have hgn : ∀ q ∈ pend, ∀ id, q.g = some id → ι id = none ∧ id < st.h.next := fun q hq id hgq => by
      rcases I.pok q hq with ⟨_, _, h⟩ | ⟨_, ⟨h, _⟩ | ⟨id', f, l', h, _, _, _, _, hget, hι⟩⟩
      · rw [h] at hgq; cases hgq
      · rw [h] at hgq; cases hgq
      · rw [h] at hgq; cases hgq; exact ⟨hι, get_lt hget⟩
    rcases hk with ⟨hgnone, hk, hv⟩ | ⟨id, f, l, hgid, hk, hpv, hall, hn0, hget, hι⟩
    · have hv' : op1 af st.h p.s.op = some (p.v, st.h) := by rw [op1_same hs]; exact hv
      obtain ⟨w1, R1, ι1, hpost, hx⟩ := op1_ok hr I.glob I.fr hao hv'
      have hgh : ∀ q ∈ pend, q.i ≠ p.i → ∀ id, q.g = some id → ι1 id = none := fun q hq _ id hgq => by
        obtain ⟨h1, h2⟩ := hgn q hq id hgq
        rw [hpost.names id h2]; exact h1
      rcases hx with ⟨x, hx, hrep⟩ | ⟨hx, hu⟩
      · unfold Oper.wp
        rw [hx, Oper.upon_value]
        exact ⟨_, R1, ι1, caught I hp ho hod hpre (I.post.trans hpost) (fun v x h => hpost.val hr h) ⟨_, hrep, rfl⟩ hgh⟩
      · unfold Oper.wp
        rw [hx, Oper.upon_skip]
        exact ⟨_, R1, ι1, caught I hp ho hod hpre (I.post.trans hpost) (fun v x h => hpost.val hr h) ⟨_, .undef undef, hu.symm⟩ hgh⟩
    · have hv' : op1 af st.h p.s.op = some (f.at st.h.next, st.h.new l) := by rw [op1_same hs]; exact hall _
      have hlow := alloc_low hr I.glob I.fr hao hk hv'
      obtain ⟨w1, R1, ι1, hpost, hx⟩ := op1_ok hr I.glob I.fr hao hv'
      rcases hx with ⟨x, hx, hrep⟩ | ⟨hx, hu⟩
      · have hloc : ∃ loc, ι1 st.h.next = some loc := by
          cases f with
          | ptr => cases hrep with | mptr _ _ loc h => exact ⟨loc, h⟩
          | sl sz n => cases hrep with | msl _ _ _ _ _ loc _ h => exact ⟨loc, h⟩
          | mp => cases hrep with | mp _ loc h => exact ⟨loc, h⟩
        obtain ⟨loc, hloc⟩ := hloc
        obtain ⟨ι2, g1, g2, g3, g4⟩ := ghost_made I.post hget hι hn0 (fun fl hfl => by
          rw [I.post.floors] at hfl
          exact Nat.le_trans (hr0.floor fl hfl) hn0) hpost hlow hloc
        have hrep2 : Rep w1 R1 ι2 (f.at id) x := by
          cases f with
          | ptr => cases hrep with
            | mptr _ _ loc' h =>
              rw [hloc] at h; cases h
              exact .mptr id 0 loc g2
          | sl sz n => cases hrep with
            | msl _ _ _ _ _ loc' c h hlc hfull hcap =>
              rw [hloc] at h; cases h
              exact .msl id sz 0 n none loc c g2 hlc hfull hcap
          | mp => cases hrep with
            | mp _ loc' h =>
              rw [hloc] at h; cases h
              exact .mp id loc g2
        unfold Oper.wp
        rw [hx, Oper.upon_value]
        refine ⟨_, R1, ι2, caught I hp ho hod hpre g1 g4 ⟨_, hrep2, hpv.symm⟩ fun q hq hne id' hgq => ?_⟩
        obtain ⟨h1, h2⟩ := hgn q hq id' hgq
        have hne2 : id' ≠ id := fun h => by
          subst h
          exact I.gnd q hq p hp hne id' hgq hgid
        rw [g3 id' hne2 h2]; exact h1
      · cases f <;> cases hu
end
end Go.Ab

namespace Go.Ab
section
variable {P : Program} {G : Nat → Option V} {C : Ctx} {self : ACode → St → Option (Ex × St)} {r : RIn} {ops : Array Oper} {w0 w w' : World} {R0 R R' : Nat → Prop} {ι0 ι ι' : Nat → Option Loc} {h0 h h' : Heap} {ex : Ex} {st' : St}
  {n : Nat} {todo done : List Nat} {rest : List Step} {pend : List Pend} {st : St} {af fr : List V} {listed : Array Bool} {a : Act}

theorem chk_mem : ∀ {l : List Nat} {c : List (Nat × Option (Nat × Bool) × AOp)}, chkOf r l = some c → ∀ j ∈ l, ∃ t s, r.dstOf j = some t ∧ stepOf r [] j = some s ∧ (t, s.guard, s.op) ∈ c
  | [], c, e, j, hj => by cases hj
  | i :: l, c, e, j, hj => by
    unfold chkOf at e
    split at e
    · rename_i t s c' ht hs hc
      cases e
      rcases List.mem_cons.1 hj with rfl | hj
      · exact ⟨t, s, ht, hs, List.mem_cons_self⟩
      · obtain ⟨t', s', h1, h2, h4⟩ := chk_mem hc j hj
        exact ⟨t', s', h1, h2, List.mem_cons_of_mem _ h4⟩
    · cases e

theorem checks_mem : ∀ {c : List (Nat × Option (Nat × Bool) × AOp)}, checks fr h c = true → ∀ t g o, (t, g, o) ∈ c → wanted fr g = some true → ∃ v h2, op1 fr h o = some (v, h2) ∧ t < fr.length ∧ v = fr.getD t .undef
  | [], e, t, g, o, hm, _ => by cases hm
  | (d, g', o') :: c, e, t, g, o, hm, hw => by
    simp only [checks, Bool.and_eq_true] at e
    rcases List.mem_cons.1 hm with h1 | hm
    · cases h1
      have e1 := e.1
      simp only [hw] at e1
      split at e1
      · rename_i v h2 u hv hu
        have := beq_sound _ _ e1
        subst this
        have hlt := (List.getElem?_eq_some_iff.1 hu).1
        exact ⟨v, h2, hv, hlt, by simp [List.getD, hu]⟩
      · cases e1
    · exact checks_mem e.2 t g o hm hw

theorem stepOp_ex {d : Option Nat} {ao : AOp} {ex : Ex} {st1 : St} (e : stepOp C self d ao st = some (ex, st1)) : ex = .nrm ∨ ∃ v, ex = .pan v := by
  have out : ∀ {q : Option (Out × Heap)}, onOut d st q = some (ex, st1) → ex = .nrm ∨ ∃ v, ex = .pan v := by
    intro q hq
    cases q with
    | none => cases hq
    | some q =>
      obtain ⟨o, h2⟩ := q
      cases o with
      | ret v => cases hq; exact .inl rfl
      | pan v => cases hq; exact .inr ⟨_, rfl⟩
  have near : ao.far = false → ex = .nrm ∨ ∃ v, ex = .pan v := by
    intro hf
    rw [stepOp_near hf] at e
    obtain ⟨⟨v, h2⟩, hv, hh⟩ := map_some e
    cases hh; exact .inl rfl
  cases ao with
  | call f xs => exact out e
  | callv g xs =>
    simp only [stepOp] at e
    split at e
    · exact out e
    · cases e
  | panic x =>
    simp only [stepOp] at e
    split at e
    · cases e; exact .inr ⟨_, rfl⟩
    · cases e
  | defer g xs =>
    simp only [stepOp] at e
    split at e
    · cases e; exact .inl rfl
    · cases e
  | _ => exact near rfl

/-- a step from a frame that is alike where it is looked at -/
theorem step_same {s : Step} {fr' : List V} (h1 : Same st.fr fr' s.op.uses) (h2 : wanted st.fr s.guard = wanted fr' s.guard) {ex1 : Ex} {st1 : St} (e : step C self s st = some (ex1, st1)) :
    ∃ v, st1.fr = frOf ex1 st.fr s.dst v ∧ step C self s { st with fr := fr' } = some (ex1, { st1 with fr := frOf ex1 fr' s.dst v }) ∧ (ex1 = .nrm ∨ ∃ v, ex1 = .pan v) := by
  unfold step at e ⊢
  simp only [← h2]
  split at e
  · rename_i hw
    obtain ⟨v, g1, g2⟩ := stepOp_same (fr := st.fr) (fr' := fr') (h := st.h) (ds := st.ds) h1 e
    exact ⟨v, g1, g2, stepOp_ex e⟩
  · cases e; exact ⟨.tup [], rfl, rfl, .inl rfl⟩
  · cases e

theorem order_head (hnone : todo.find? (fun i => !r.eff i && (r.ancOf i).all fun j => done.contains j) = none) (ho : order r n todo done = some rest) (hne : todo ≠ []) :
    (∃ n' i chk s l, n = n' + 1 ∧ i ∈ todo ∧ (∀ j ∈ todo, j = i ∨ i ∈ r.ancOf j) ∧ (∀ j ∈ done, r.eff j = true ∨ j ∈ r.ancOf i ∨ around r i j = true) ∧ (∀ j ∈ r.ancOf i, j ∈ done) ∧
      chkOf r (done.filter fun j => !r.eff j && !(r.ancOf i).contains j && r.kind j == 1) = some chk ∧ stepOf r chk i = some s ∧ order r n' (todo.filter (· != i)) (i :: done) = some l ∧ rest = s :: l) ∨ ∃ n' a b ss l, n = n' + 1 ∧ a ∈ todo ∧ b ∈ todo ∧ (∀ j ∈ todo, j = a ∨ j = b ∨ (a ∈ r.ancOf j ∧ b ∈ r.ancOf j)) ∧ swapSteps r done a b = some ss ∧ order r n' ((todo.filter (· != a)).filter (· != b)) (b :: a :: done) = some l ∧ rest = ss ++ l := by
  cases todo with
  | nil => exact absurd rfl hne
  | cons x t =>
    cases n with
    | zero => simp [order] at ho
    | succ n =>
      simp only [order, hnone] at ho
      split at ho
      · rename_i i hi
        have hmem := List.mem_of_find?_eq_some hi
        have hprop := List.find?_some hi
        simp only [List.all_eq_true, List.contains_eq_mem, decide_eq_true_eq] at hprop
        split at ho
        · rename_i hc
          simp only [Bool.and_eq_true, List.all_eq_true, Bool.or_eq_true, beq_iff_eq, List.contains_eq_mem, decide_eq_true_eq] at hc
          split at ho
          · rename_i chk hchk
            split at ho
            · rename_i s l hs hl
              cases ho
              refine .inl ⟨n, i, chk, s, l, rfl, hmem, hc.1, fun j hj => by
                rcases hc.2 j hj with (h | h) | h
                · exact .inl h
                · exact .inr (.inl h)
                · exact .inr (.inr h), hprop, by simpa using hchk, hs, hl, rfl⟩
            · cases ho
          · cases ho
        · split at ho
          · rename_i b hb
            have hbm := List.mem_of_find?_eq_some hb
            split at ho
            · rename_i hc
              simp only [List.all_eq_true, Bool.or_eq_true, Bool.and_eq_true, beq_iff_eq, List.contains_eq_mem, decide_eq_true_eq] at hc
              split at ho
              · rename_i ss l hss hl
                cases ho
                refine .inr ⟨n, i, b, ss, l, rfl, hmem, hbm, fun j hj => ?_, hss, hl, rfl⟩
                rcases hc j hj with (h | h) | h
                · exact .inl h
                · exact .inr (.inl h)
                · exact .inr (.inr h)
              · cases ho
            · cases ho
          · cases ho
      · cases ho

theorem kind_of {i : Nat} {s : Step} {chk : List (Nat × Option (Nat × Bool) × AOp)} (e : stepOf r chk i = some s) : r.kind i = s.op.kind := by
  obtain ⟨h1, _⟩ := stepOf_aop e
  simp [RIn.kind, h1]

theorem filter_pend : ∀ {pend : List Pend}, (pend.map (·.i)).Nodup → ∀ {p : Pend}, p ∈ pend → (pend.filter fun q => q.i != p.i).length + 1 = pend.length
  | [], _, p, hp => by cases hp
  | q :: l, hn, p, hp => by
    simp only [List.map_cons, List.nodup_cons] at hn
    rcases List.mem_cons.1 hp with rfl | hp
    · have : l.filter (fun q => q.i != p.i) = l := by
        rw [List.filter_eq_self]
        intro q hq
        have : q.i ≠ p.i := fun h => hn.1 (List.mem_map.2 ⟨q, hq, h⟩)
        simpa using this
      simp [this]
    · have hne : q.i ≠ p.i := fun h => hn.1 (List.mem_map.2 ⟨p, hp, h.symm⟩)
      have hb : (q.i != p.i) = true := by simpa using hne
      simp only [List.filter_cons, hb, if_true, List.length_cons]
      have := filter_pend hn.2 hp
      omega

/-- as long as not all have come, one may come -/
theorem topo_ready {md : Region.Mode} (hs : listed.size = ops.size) : ∀ (L done : List Nat), topo md ops.toList L done = true → (∀ j ∈ done, listed.getD j false = true) → (∃ i, i < ops.size ∧ listed.getD i true = false) → ∃ i, i ∈ Region.ready md ops listed
  | [], done, h, hd, ⟨i, hi, hl⟩ => by
    exfalso
    simp only [topo, List.all_eq_true, List.mem_range, List.contains_eq_mem, decide_eq_true_eq, Array.length_toList] at h
    have := hd i (h i hi)
    simp [Array.getD, hs, hi] at this hl
    rw [this] at hl; cases hl
  | k :: l, done, h, hd, hex => by
    simp only [topo, Bool.and_eq_true] at h
    obtain ⟨h1, h2⟩ := h
    split at h1
    · rename_i o ho
      rw [Array.getElem?_toList] at ho
      have hk : k < ops.size := (Array.getElem?_eq_some_iff.1 ho).1
      simp only [List.all_eq_true, List.contains_eq_mem, decide_eq_true_eq] at h1
      cases hb : listed.getD k true with
      | false => exact ⟨k, ready_mem ho hb fun j hj => hd j (h1 j hj)⟩
      | true =>
        refine topo_ready hs l (k :: done) h2 (fun j hj => ?_) hex
        rcases List.mem_cons.1 hj with rfl | hj
        · simp [Array.getD, hs, hk] at hb ⊢
          exact hb
        · exact hd j hj
    · cases h1

theorem swap_spec {a b : Nat} {ss : List Step} (h : swapSteps r done a b = some ss) : ∃ na pa xa nb pb xb, r.aops[a]? = some (.store na pa xa) ∧ r.aops[b]? = some (.store nb pb xb) ∧ a ≠ b ∧ r.eff a = true ∧ r.eff b = true ∧ r.dstOf a = none ∧ r.dstOf b = none ∧
    (r.ops[a]?).bind (·.guard) = none ∧ (r.ops[b]?).bind (·.guard) = none ∧ (∀ j ∈ r.ancOf a, j ∈ done) ∧ (∀ j ∈ r.ancOf b, j ∈ done) ∧ (∀ j ∈ done, r.eff j = true ∨ ((j ∈ r.ancOf a ∨ r.kind j ≠ 1) ∧ (j ∈ r.ancOf b ∨ r.kind j ≠ 1))) ∧
    ss = [⟨none, .apart pa pb, none, []⟩, ⟨none, .store na pa xa, none, []⟩, ⟨none, .store nb pb xb, none, []⟩] := by
  unfold swapSteps at h
  split at h
  · rename_i na pa xa nb pb xb h1 h2
    split at h
    · rename_i hc
      cases h
      simp only [swapOk, Bool.and_eq_true, bne_iff_ne, ne_eq, Option.isNone_iff_eq_none, List.all_eq_true, List.contains_eq_mem, decide_eq_true_eq, Bool.or_eq_true] at hc
      obtain ⟨⟨⟨⟨⟨⟨⟨⟨⟨c1, c2⟩, c3⟩, c4⟩, c5⟩, c6⟩, c7⟩, c8⟩, c9⟩, c10⟩ := hc
      exact ⟨na, pa, xa, nb, pb, xb, h1, h2, c1, c2, c3, c4, c5, c6, c7, c8, c9, c10, rfl⟩
    · cases h
  · cases h

theorem swap_all {a b : Nat} {ss : List Step} (h : swapSteps r done a b = some ss) : ∀ i, i = a ∨ i = b → ∃ s ∈ ss, s.dst = r.dstOf i := by
  obtain ⟨na, pa, xa, nb, pb, xb, _, _, _, _, _, d1, d2, _, _, _, _, _, rfl⟩ := swap_spec h
  intro i hi
  rcases hi with rfl | rfl
  · exact ⟨⟨none, .store na pa xa, none, []⟩, by simp, d1.symm⟩
  · exact ⟨⟨none, .store nb pb xb, none, []⟩, by simp, d2.symm⟩

theorem order_done : ∀ (n : Nat) (todo d1 d2 : List Nat), (∀ j, j ∈ d1 ↔ j ∈ d2) → d1.filter (fun j => !r.eff j) = d2.filter (fun j => !r.eff j) → order r n todo d1 = order r n todo d2
  | _, [], _, _, _, _ => by simp [order]
  | 0, _ :: _, _, _, _, _ => by simp [order]
  | n + 1, x :: t, d1, d2, hm, hf => by
    have hc : ∀ j, d1.contains j = d2.contains j := fun j => by
      rw [Bool.eq_iff_iff]; simp only [List.contains_eq_mem, decide_eq_true_eq]; exact hm j
    have ha : ∀ P : Nat → Bool, d1.all P = d2.all P := fun P => by
      rw [Bool.eq_iff_iff]; simp only [List.all_eq_true]
      exact ⟨fun h j hj => h j ((hm j).2 hj), fun h j hj => h j ((hm j).1 hj)⟩
    have hg : ∀ i, d1.filter (fun j => !r.eff j && !(r.ancOf i).contains j && r.kind j == 1) = d2.filter fun j => !r.eff j && !(r.ancOf i).contains j && r.kind j == 1 := fun i => by
      have key : ∀ d : List Nat, d.filter (fun j => !r.eff j && !(r.ancOf i).contains j && r.kind j == 1) = (d.filter fun j => !r.eff j).filter fun j => !(r.ancOf i).contains j && r.kind j == 1 := fun d => by
        rw [List.filter_filter]
        congr 1
        funext j
        cases r.eff j <;> simp
      rw [key, key, hf]
    have hs : ∀ a b, swapSteps r d1 a b = swapSteps r d2 a b := fun a b => by
      unfold swapSteps swapOk
      simp only [hc, ha]
    have up : ∀ {e1 e2 : List Nat} (i : Nat), ((∀ j, j ∈ e1 ↔ j ∈ e2) ∧ e1.filter (fun j => !r.eff j) = e2.filter (fun j => !r.eff j)) → (∀ j, j ∈ i :: e1 ↔ j ∈ i :: e2) ∧ (i :: e1).filter (fun j => !r.eff j) = (i :: e2).filter (fun j => !r.eff j) := fun i h =>
      ⟨fun j => by simp only [List.mem_cons, h.1 j], by simp only [List.filter_cons, h.2]⟩
    have r1 : ∀ i l, order r n l (i :: d1) = order r n l (i :: d2) := fun i l => order_done n l _ _ (up i ⟨hm, hf⟩).1 (up i ⟨hm, hf⟩).2
    have r2 : ∀ i b l, order r n l (b :: i :: d1) = order r n l (b :: i :: d2) := fun i b l => order_done n l _ _ (up b (up i ⟨hm, hf⟩)).1 (up b (up i ⟨hm, hf⟩)).2
    simp only [order, hc, ha, hg, hs, r1, r2]

/-- stores into different blocks -/
theorem put_comm {h : Heap} {i j : Nat} (hi : i < h.next) (hj : j < h.next) (hij : i ≠ j) (a b : Option Blk) : (h.put i a).put j b = (h.put j b).put i a := by
  unfold Heap.put
  simp only [Heap.mk.injEq, true_and]
  exact List.set_comm _ _ (by omega)

theorem store_some {n : Nat} {p x : Opd} {v : V} {h2 : Heap} (e : op1 fr h (.store n p x) = some (v, h2)) : ∃ id off l, ev fr p = .mptr id off ∧ h.cellsOf id = some l ∧ id < h.next ∧ v = .undef ∧ h2 = h.put id (some (.cells (l.take off ++ (ev fr x).cells ++ l.drop (off + n)))) ∧
    ((ev fr x).cells.length = n && off + n ≤ l.length && h.mayPut id (ev fr x).cells) = true := by
  simp only [op1] at e
  split at e
  · rename_i id off hid
    split at e
    · rename_i l hl
      split at e
      · rename_i hc
        cases e
        exact ⟨id, off, l, hid, hl, get_lt (cellsOf_get hl), rfl, rfl, hc⟩
      · cases e
    · cases e
  · cases e

theorem cellsOf_put {h : Heap} {i j : Nat} (hij : i ≠ j) (hj : j < h.next) (b : Option Blk) : (h.put j b).cellsOf i = h.cellsOf i := by
  unfold Heap.cellsOf
  rw [get_put_ne b hij hj]

theorem store_step (n : Nat) (p x : Opd) (st : St) : step C self ⟨none, .store n p x, none, []⟩ st = (op1 st.fr st.h (.store n p x)).map fun q => (.nrm, { st with h := q.2 }) := rfl

theorem swap_run {na nb : Nat} {pa xa pb xb : Opd} {ex : Ex} {st' : St} {l0 : List Step} (ha : ∃ q, op1 st.fr st.h (.apart pa pb) = some q) (e : steps C self (⟨none, .store na pa xa, none, []⟩ :: ⟨none, .store nb pb xb, none, []⟩ :: l0) st = some (ex, st')) :
    steps C self (⟨none, .store nb pb xb, none, []⟩ :: ⟨none, .store na pa xa, none, []⟩ :: l0) st = some (ex, st') := by
  have hap : ∀ i o j o', ev st.fr pa = .mptr i o → ev st.fr pb = .mptr j o' → i ≠ j := by
    intro i o j o' h1 h2 hij
    obtain ⟨q, hq⟩ := ha
    simp only [op1, h1, h2, hij, if_true] at hq
    cases hq
  simp only [steps, store_step] at e ⊢
  cases h1 : op1 st.fr st.h (.store na pa xa) with
  | none => rw [h1] at e; cases e
  | some q =>
    obtain ⟨v1, hp1⟩ := q
    rw [h1] at e
    simp only [Option.map_some] at e
    cases h2 : op1 st.fr hp1 (.store nb pb xb) with
    | none => rw [h2] at e; cases e
    | some q =>
      obtain ⟨v2, hp2⟩ := q
      rw [h2] at e
      simp only [Option.map_some, checks, if_true] at e
      obtain ⟨i, o, l, a1, a2, a3, a4, a5, a6⟩ := store_some h1
      obtain ⟨j, o', l', b1, b2, b3, b4, b5, b6⟩ := store_some h2
      have hij := hap i o j o' a1 b1
      subst a5; subst b5
      have hj : j < st.h.next := b3
      have b2' : st.h.cellsOf j = some l' := by rw [← cellsOf_put (Ne.symm hij) a3]; exact b2
      have s1 : op1 st.fr st.h (.store nb pb xb) = some (.undef, st.h.put j (some (.cells (l'.take o' ++ (ev st.fr xb).cells ++ l'.drop (o' + nb))))) := by
        simp only [op1, b1, b2']
        exact if_pos b6
      have s2 : op1 st.fr (st.h.put j (some (.cells (l'.take o' ++ (ev st.fr xb).cells ++ l'.drop (o' + nb))))) (.store na pa xa) = some (.undef, (st.h.put j (some (.cells (l'.take o' ++ (ev st.fr xb).cells ++ l'.drop (o' + nb))))).put i (some (.cells (l.take o ++ (ev st.fr xa).cells ++ l.drop (o + na))))) := by
        simp only [op1, a1, cellsOf_put hij hj, a2]
        exact if_pos a6
      simp only [s1, s2, Option.map_some, checks, if_true]
      rw [put_comm a3 hj hij] at e
      exact e

/-- the second of two effects -/
theorem order_next {b n' : Nat} {nb : Nat} {pb xb : Opd} {dn todo : List Nat} {l : List Step} (h1 : r.aops[b]? = some (.store nb pb xb)) (hlt : b < r.ops.length) (h2 : r.eff b = true) (h3 : r.dstOf b = none) (h4 : (r.ops[b]?).bind (·.guard) = none) (h5 : ∀ j ∈ r.ancOf b, j ∈ dn)
    (h6 : ∀ j ∈ dn, r.eff j = true ∨ (j ∈ r.ancOf b ∨ r.kind j ≠ 1)) : stepOf r [] b = some ⟨none, .store nb pb xb, none, []⟩ ∧ chkOf r (dn.filter fun j => !r.eff j && !(r.ancOf b).contains j && r.kind j == 1) = some [] ∧
    (b ∈ todo → b ∉ dn → (∀ j ∈ todo, j = b ∨ b ∈ r.ancOf j) → order r n' (todo.filter (· != b)) (b :: dn) = some l → order r (n' + 1) todo dn = some (⟨none, .store nb pb xb, none, []⟩ :: l)) := by
  have ho : r.ops[b]? = some r.ops[b] := List.getElem?_eq_getElem hlt
  have hst : stepOf r [] b = some ⟨none, .store nb pb xb, none, []⟩ := by
    unfold stepOf
    rw [ho] at h4 ⊢
    simp only [Option.bind_some] at h4
    simp only [h1, h4]
    unfold RIn.dstOf at h3
    rw [ho] at h3
    simp only [Option.bind_some] at h3
    rw [h3]
  have hch : dn.filter (fun j => !r.eff j && !(r.ancOf b).contains j && r.kind j == 1) = [] := by
    rw [List.filter_eq_nil_iff]
    intro j hj
    rcases h6 j hj with h | h | h
    · simp [h]
    · simp [h]
    · simp [h]
  have hall : (r.ancOf b).all (fun j => dn.contains j) = true := by
    simp only [List.all_eq_true, List.contains_eq_mem, decide_eq_true_eq]; exact h5
  refine ⟨hst, by rw [hch]; rfl, fun hb hbd hdep hl => ?_⟩
  have hno : ∀ j ∈ todo, j ≠ b → ((r.ancOf j).all fun k => dn.contains k) = false := fun j hj hjb => by
    rw [← Bool.not_eq_true]
    intro hh
    simp only [List.all_eq_true, List.contains_eq_mem, decide_eq_true_eq] at hh
    rcases hdep j hj with h | h
    · exact hjb h
    · exact hbd (hh b h)
  have f1 : todo.find? (fun i => !r.eff i && (r.ancOf i).all fun j => dn.contains j) = none := by
    rw [List.find?_eq_none]
    intro j hj
    by_cases hjb : j = b
    · simp [hjb, h2]
    · show ¬((!r.eff j && (r.ancOf j).all fun k => dn.contains k) = true)
      rw [hno j hj hjb, Bool.and_false]; simp
  have f2 : todo.find? (fun i => (r.ancOf i).all fun j => dn.contains j) = some b := by
    cases hf : todo.find? (fun i => (r.ancOf i).all fun j => dn.contains j) with
    | none => exact absurd hall (List.find?_eq_none.1 hf b hb)
    | some k =>
      have hk := List.find?_some hf
      have hkm := List.mem_of_find?_eq_some hf
      by_cases hkb : k = b
      · rw [hkb]
      · rw [hno k hkm hkb] at hk; cases hk
  have c1 : (todo.all fun j => j == b || (r.ancOf j).contains b) = true := by
    simp only [List.all_eq_true, Bool.or_eq_true, beq_iff_eq, List.contains_eq_mem, decide_eq_true_eq]; exact hdep
  have c2 : (dn.all fun j => r.eff j || (r.ancOf b).contains j || around r b j) = true := by
    simp only [List.all_eq_true]
    intro j _
    unfold around
    rw [h3]; simp
  cases todo with
  | nil => cases hb
  | cons x t => simp only [order, f1, f2, c1, c2, Bool.and_self, if_true, hch, chkOf, hst, hl]

theorem order_all : ∀ (n : Nat) (todo done : List Nat) (ss : List Step), order r n todo done = some ss → ∀ i ∈ todo, ∃ s ∈ ss, s.dst = r.dstOf i
  | _, [], _, ss, _, i, hi => by cases hi
  | 0, _ :: _, _, ss, e, _, _ => by simp [order] at e
  | n + 1, x :: t, done, ss, e, i, hi => by
    have next : ∀ {k : Nat} {chk : List (Nat × Option (Nat × Bool) × AOp)}, (match stepOf r chk k, order r n ((x :: t).filter (· != k)) (k :: done) with
        | some s, some l => some (s :: l)
        | _, _ => none) = some ss → ∃ s ∈ ss, s.dst = r.dstOf i := by
      intro k chk e
      split at e
      · rename_i s l hs hl
        cases e
        by_cases hik : i = k
        · subst hik
          exact ⟨s, List.mem_cons_self, (stepOf_aop hs).2.2.1⟩
        · obtain ⟨s', h1, h2⟩ := order_all n _ _ l hl i (List.mem_filter.2 ⟨hi, by simpa using hik⟩)
          exact ⟨s', List.mem_cons_of_mem _ h1, h2⟩
      · cases e
    simp only [order] at e
    split at e
    · exact next e
    · split at e
      · split at e
        · split at e
          · exact next e
          · cases e
        · split at e
          · rename_i k _ _ _ b _
            split at e
            · split at e
              · rename_i ss l hss hl
                cases e
                by_cases hia : i = k
                · obtain ⟨s, h1, h2⟩ := swap_all hss i (.inl hia)
                  exact ⟨s, List.mem_append_left _ h1, h2⟩
                · by_cases hib : i = b
                  · obtain ⟨s, h1, h2⟩ := swap_all hss i (.inr hib)
                    exact ⟨s, List.mem_append_left _ h1, h2⟩
                  · obtain ⟨s', h1, h2⟩ := order_all n _ _ l hl i (List.mem_filter.2 ⟨List.mem_filter.2 ⟨hi, by simpa using hia⟩, by simpa using hib⟩)
                    exact ⟨s', List.mem_append_right _ h1, h2⟩
              · cases e
            · cases e
          · cases e
      · cases e

/-- the whole -/
theorem draw_any (hC : CallsOk P G (callF C self)) (hr0 : HRel w0 R0 ι0 h0) (hops : r.ops = ops.toList) (hanc : r.anc = ancs (P.follows .mixedOrders) r.ops []) (has : aops P G r.ops = some r.aops) (hnd : ∀ i j t, r.dstOf i = some t → r.dstOf j = some t → i = j)
    {md : Region.Mode} (hmd : ∀ (i : Nat) o, ops[i]? = some o → ∀ j ∈ preds (P.follows .mixedOrders) o, j ∈ predsOf md o) (htopo : ∃ L, topo md ops.toList L [] = true) {W : List Step} (hW : ∀ i t, r.dstOf i = some t → ∃ s ∈ W, s.dst = some t) : ∀ (fuel : Nat) (n : Nat) (todo done : List Nat) (rest : List Step) (pend : List Pend) (st : St) (af : List V) (listed : Array Bool) (a : Act) (w : World) (R : Nat → Prop) (ι : Nat → Option Loc),
    Inv P G C self r ops w0 R0 ι0 h0 ex st' n todo done rest pend st af listed a w R ι → pend.length + todo.length = fuel → wpAny P md ops (QOf G w0 R0 ι0 h0 ex (wipeSt W ex st')) fuel listed a w := by
  intro fuel
  induction fuel with
  | zero =>
    intro n todo done rest pend st af listed a w R ι I hlen
    have hp : pend = [] := List.eq_nil_of_length_eq_zero (by omega)
    have ht : todo = [] := List.eq_nil_of_length_eq_zero (by omega)
    subst hp; subst ht
    have hrest : rest = [] := by
      have := I.ord
      cases n <;> simp [order] at this <;> exact this
    subst hrest
    have hrun := I.run
    simp only [steps, Option.some.injEq, Prod.mk.injEq] at hrun
    obtain ⟨rfl, rfl⟩ := hrun
    refine ⟨?_, R, ι, I.post, I.glob, I.ds, rfl, ?_⟩
    · cases hrd : Region.ready md ops listed with
      | nil => rfl
      | cons i l =>
        obtain ⟨hi, hl, _⟩ := mem_ready (md := md) (ops := ops) (listed := listed) (i := i) (by rw [hrd]; exact List.mem_cons_self)
        have := (I.lst i hi).2 ⟨(I.all i hi).resolve_left (by simp), by simp⟩
        rw [this] at hl; cases hl
    · have : af = st.fr := by
        apply List.ext_getElem I.len
        intro i h1 h2
        have := I.agree i (by simp)
        simpa [List.getD, h1, h2] using this
      simp only [wipeSt]
      rw [← this]; exact I.fr
  | succ fuel ih =>
    intro n todo done rest pend st af listed a w R ι I hlen
    -- first, on to the next effect
    obtain ⟨n, todo, done, rest, pend, st, I, hlen2, hnone⟩ := absorb hops has hnd n todo done rest pend st I
    rw [hlen] at hlen2
    refine ⟨fun hrd => ?_, fun i hi => ?_⟩
    · -- something may come
      exfalso
      have hex : ∃ i, i < ops.size ∧ listed.getD i true = false := by
        cases pend with
        | nil =>
          cases todo with
          | nil => simp at hlen2
          | cons i t =>
            have hi := I.rngT i (by simp)
            refine ⟨i, hi, ?_⟩
            cases hb : listed.getD i true with
            | false => rfl
            | true => exact absurd ((I.lst i hi).1 hb).1 (I.disj i (by simp))
        | cons p l =>
          have hi := I.rngD p.i (I.pdone p (by simp)).1
          refine ⟨p.i, hi, ?_⟩
          cases hb : listed.getD p.i true with
          | false => rfl
          | true => exact absurd rfl (((I.lst p.i hi).1 hb).2 p (by simp))
      obtain ⟨i, hi, hl⟩ := hex
      obtain ⟨L, hL⟩ := htopo
      obtain ⟨k, hk⟩ := topo_ready I.lsize L [] hL (by simp) ⟨i, hi, hl⟩
      rw [hrd] at hk; cases hk
    · obtain ⟨hisz, hlist, o, ho, hpre0⟩ := mem_ready hi
      have hpre : ∀ j ∈ preds (P.follows .mixedOrders) o, listed.getD j false = true := fun j hj => hpre0 j (hmd _ o ho j hj)
      have hancl := anc_listed hops hanc I i o ho hpre
      rcases I.all i hisz with hit | hid
      · -- an effect, in its place
        have hne : todo ≠ [] := by intro h; rw [h] at hit; cases hit
        have main : ∀ (n' : Nat) (chk : List (Nat × Option (Nat × Bool) × AOp)) (s : Step) (l : List Step), (∀ j ∈ done, r.eff j = true ∨ j ∈ r.ancOf i ∨ around r i j = true) → (∀ j ∈ r.ancOf i, j ∈ done) →
            chkOf r (done.filter fun j => !r.eff j && !(r.ancOf i).contains j && r.kind j == 1) = some chk → stepOf r chk i = some s → order r n' (todo.filter (· != i)) (i :: done) = some l → steps C self (s :: l) st = some (ex, st') →
            wpOp P ops (QOf G w0 R0 ι0 h0 ex (wipeSt W ex st')) i (fun a w => wpAny P md ops (QOf G w0 R0 ι0 h0 ex (wipeSt W ex st')) fuel (listed.setIfInBounds i true) a w) a w := by
          intro n' chk s l haround hancd hchk hs hl hrun0
          obtain ⟨ex1, st1, hstep, hcase⟩ := steps_cons hrun0
          obtain ⟨hao, hilt, hdst, hschk, huse, hguse⟩ := stepOf_aop hs
          have hthere := uses_there hops hanc I ho hpre
          have hsm : Same st.fr af s.op.uses := fun t ht => (hthere t (huse t ht)).symm
          have hwm : wanted st.fr s.guard = wanted af s.guard := wanted_same fun t b h => (hthere t (hguse t b h)).symm
          obtain ⟨v, hfr1, hstep', hexc⟩ := step_same hsm hwm hstep
          have hS : SRel G { st with fr := af } a w R ι := ⟨I.post.rel, I.glob, I.fr, I.ds⟩
          have hop := wpOp_ok hC hops has hs hS hstep'
          refine wpOp_mono2 (fun a1 w1 hk => ?_) (fun en a1 w1 hk => ?_) hop
          · obtain ⟨rfl, R1, ι1, hp1, hS1⟩ := hk
            rcases hcase with ⟨_, hck, hrest⟩ | ⟨hne', _⟩
            rotate_left
            · exact absurd rfl hne'
            simp only [frOf] at hfr1 hp1 hS1
            -- the pending ones stay as they are
            have hpe : ∀ p ∈ pend, p.i ≠ i := fun p hp h => I.disj i hit (h ▸ (I.pdone p hp).1)
            have hpanc : ∀ p ∈ pend, p.i ∉ r.ancOf i := fun p hp h => (listed_true I (hancl _ h)).2.2 p hp rfl
            have hpar : ∀ p ∈ pend, ∀ t, r.dstOf i = some t → t ∉ r.uses p.i := fun p hp t ht hu => by
              obtain ⟨h1, h2⟩ := I.pdone p hp
              rcases haround p.i h1 with h | h | h
              · rw [h2] at h; cases h
              · exact hpanc p hp h
              · unfold around at h
                rw [ht] at h
                simp only [Bool.not_eq_true', List.contains_eq_mem, decide_eq_false_iff_not] at h
                exact h hu
            have hdp : ∀ p ∈ pend, ∀ t, r.dstOf p.i = some t → s.dst ≠ some t := fun p hp t ht h => hpe p hp (hnd _ _ t ht (by rw [← hdst]; exact h))
            refine ih n' (todo.filter (· != i)) (i :: done) l pend st1 (put af s.dst v) (listed.setIfInBounds i true) a1 w1 R1 ι1 ?_ ?_
            · refine { ord := hl, run := hrest, post := I.post.trans hp1, glob := hS1.glob, ds := hS1.ds, fr := hS1.fr, len := ?_, agree := ?_, pok := ?_, pval := ?_, pstep := I.pstep, pdone := ?_, pnd := I.pnd, gnd := I.gnd, tnd := I.tnd.filter _, disj := ?_, all := ?_, rngT := ?_, rngD := ?_, danc := ?_, lsize := (by simp [I.lsize]), lst := ?_, down := ?_ }
              · rw [hfr1, put_length, put_length]; exact I.len
              · intro t ht
                rw [hfr1]
                exact put_agree I.len fun _ => I.agree t ht
              · intro p hp
                obtain ⟨_, _, pdst, _, puse, pguse⟩ := stepOf_aop (I.pstep p hp)
                have hsp : Same st1.fr st.fr p.s.op.uses := fun t ht => by
                  rw [hfr1]; exact put_getD fun hd => hpar p hp t (by rw [← hdst]; exact hd) (puse t ht)
                have hwp : wanted st1.fr p.s.guard = wanted st.fr p.s.guard := wanted_same fun t b hg => by
                  rw [hfr1]; exact put_getD fun hd => hpar p hp t (by rw [← hdst]; exact hd) (pguse t b hg)
                have hok := I.pok p hp
                unfold PendOk at hok ⊢
                rw [hwp]
                rcases hok with hok | ⟨hw, ⟨hgn, hk, hv⟩ | ⟨id, f, l', hgi, hk, hv, hall2, hn0, hget, hι⟩⟩
                · exact .inl hok
                · refine .inr ⟨hw, .inl ⟨hgn, hk, ?_⟩⟩
                  rw [op1_same hsp]
                  rcases hk with hk | hk
                  · exact (op1_pure hk hv).2 _
                  · have hmem : p.i ∈ done.filter fun j => !r.eff j && !(r.ancOf i).contains j && r.kind j == 1 := by
                      rw [List.mem_filter]
                      obtain ⟨h1, h2⟩ := I.pdone p hp
                      refine ⟨h1, ?_⟩
                      have hk' : r.kind p.i = 1 := by rw [kind_of (I.pstep p hp)]; exact hk
                      simp [h2, hk', hpanc p hp]
                    obtain ⟨t, s2, ht, hs2, hin⟩ := chk_mem hchk p.i hmem
                    rw [I.pstep p hp] at hs2; cases hs2
                    rw [← hschk] at hin
                    obtain ⟨u, h2, hu, hlt, rfl⟩ := checks_mem hck t p.s.guard p.s.op hin (hwp.trans hw)
                    rw [op1_same hsp] at hu
                    have hv2 : st1.fr.getD t .undef = p.v := by
                      rw [hfr1] at hlt ⊢
                      rw [put_length] at hlt
                      rw [put_getD (hdp p hp t ht)]
                      exact I.pval p hp t ht hlt
                    rw [hv2] at hu
                    obtain ⟨rfl, _⟩ := op1_read hk hu
                    exact hu
                · have hlt := get_lt hget
                  refine .inr ⟨hw, .inr ⟨id, f, l', hgi, hk, hv, fun h3 => by rw [op1_same hsp]; exact hall2 h3, hn0, ?_, ?_⟩⟩
                  · rw [hp1.ghost id hlt hι]; exact hget
                  · rw [hp1.names id hlt]; exact hι
              · intro p hp t ht hlt
                rw [hfr1] at hlt ⊢
                rw [put_length] at hlt
                rw [put_getD (hdp p hp t ht)]
                exact I.pval p hp t ht hlt
              · intro p hp; exact ⟨List.mem_cons_of_mem _ (I.pdone p hp).1, (I.pdone p hp).2⟩
              · intro j hj
                obtain ⟨h1, h2'⟩ := List.mem_filter.1 hj
                have : j ≠ i := by simpa using h2'
                intro hm
                rcases List.mem_cons.1 hm with h | h
                · exact this h
                · exact I.disj j h1 h
              · intro j hj
                by_cases hji : j = i
                · exact .inr (by simp [hji])
                · rcases I.all j hj with h | h
                  · exact .inl (List.mem_filter.2 ⟨h, by simpa using hji⟩)
                  · exact .inr (List.mem_cons_of_mem _ h)
              · intro j hj; exact I.rngT j (List.mem_filter.1 hj).1
              · intro j hj
                rcases List.mem_cons.1 hj with rfl | h
                · exact hisz
                · exact I.rngD j h
              · intro j hj k hk
                rcases List.mem_cons.1 hj with rfl | h
                · exact List.mem_cons_of_mem _ (hancd k hk)
                · exact List.mem_cons_of_mem _ (I.danc j h k hk)
              · intro j hj
                rw [listed_set I.lsize hisz]
                by_cases hji : j = i
                · subst hji
                  simp only [if_true, true_iff]
                  exact ⟨List.mem_cons_self, hpe⟩
                · rw [if_neg hji, I.lst j hj]
                  constructor
                  · rintro ⟨h1, h2⟩; exact ⟨List.mem_cons_of_mem _ h1, h2⟩
                  · rintro ⟨h1, h2⟩
                    rcases List.mem_cons.1 h1 with h | h
                    · exact absurd h hji
                    · exact ⟨h, h2⟩
              · intro j o' ho' hlj k hk
                rw [listed_set I.lsize hisz] at hlj ⊢
                by_cases hki : k = i
                · rw [if_pos hki]
                · rw [if_neg hki]
                  by_cases hji : j = i
                  · subst hji
                    rw [ho] at ho'; cases ho'
                    exact hpre k hk
                  · rw [if_neg hji] at hlj
                    exact I.down j o' ho' hlj k hk
            · have hlen3 : (todo.filter (· != i)).length + 1 = todo.length := by
                have := I.tnd.erase_eq_filter i
                rw [← this, List.length_erase_of_mem hit]
                have : 0 < todo.length := List.length_pos_of_mem hit
                omega
              omega
          · obtain ⟨u, rfl, R1, ι1, hp1, hg1, hd1, x, hen, hx⟩ := hk
            rcases hcase with ⟨h, _⟩ | ⟨_, rfl, rfl⟩
            · cases h
            · refine ⟨R1, ι1, I.post.trans hp1, hg1, hd1, x, hen, hx.1, ?_⟩
              have hE : ERel w1 R1 ι1 af a1 := hx.2
              obtain ⟨hl, hw⟩ := wipe_spec W st.fr
              simp only [frOf] at hfr1
              simp only [wipeSt, hfr1]
              refine hE.weaken (by rw [hl]; exact I.len.symm) fun t => ?_
              rcases hw t with h | ⟨h, h'⟩
              · exact .inl h
              · right
                rw [h']
                refine (I.agree t fun p hp hd => ?_).symm
                obtain ⟨s, hs, hsd⟩ := hW p.i t hd
                exact h s hs hsd
        rcases order_head hnone I.ord hne with ⟨n', e, chk, s, l, rfl, hemem, hall, haround, hancd, hchk, hs, hl, rfl⟩ | hsw
        · have hie : i = e := by
            rcases hall i hit with h | h
            · exact h
            · have := (listed_true I (hancl e h)).2.1
              exact absurd this (I.disj e hemem)
          subst hie
          exact main n' chk s l haround hancd hchk hs hl I.run
        · obtain ⟨n', x, y, ss, l, rfl, hxm, hym, hall, hsw, hl, rfl⟩ := hsw
          obtain ⟨nx, px, xx, ny, py, xy, x1, y1, hxy, ex1, ey1, dx, dy, gx, gy, ax, ay, hk, rfl⟩ := swap_spec hsw
          have hrun := I.run
          have hlx : x < r.ops.length := by rw [hops, Array.length_toList]; exact I.rngT x hxm
          have hly : y < r.ops.length := by rw [hops, Array.length_toList]; exact I.rngT y hym
          obtain ⟨exa, sta, hsta, hcase⟩ := steps_cons hrun
          have hap : ∃ q, op1 st.fr st.h (.apart px py) = some q ∧ sta = { st with h := q.2 } ∧ exa = .nrm ∧ q.2 = st.h := by
            have e2 : (op1 st.fr st.h (.apart px py)).map (fun q => (Ex.nrm, ({ st with h := q.2 } : St))) = some (exa, sta) := hsta
            obtain ⟨q, hq, hh⟩ := map_some e2
            cases hh
            refine ⟨q, hq, rfl, rfl, ?_⟩
            simp only [op1] at hq
            split at hq
            · split at hq
              · cases hq
              · cases hq; rfl
            · cases hq
          obtain ⟨q, hq, rfl, rfl, hqh⟩ := hap
          rcases hcase with ⟨_, _, hrest⟩ | ⟨hne', _⟩
          rotate_left
          · exact absurd rfl hne'
          rw [hqh] at hrest
          have hrest' : steps C self (⟨none, .store nx px xx, none, []⟩ :: ⟨none, .store ny py xy, none, []⟩ :: l) st = some (ex, st') := hrest
          have hrest2 := swap_run ⟨q, hq⟩ hrest'
          have hin : i = x ∨ i = y := by
            rcases hall i hit with h | h | h
            · exact .inl h
            · exact .inr h
            · exact absurd (listed_true I (hancl x h.1)).2.1 (I.disj x hxm)
          have hf2 : (todo.filter (· != x)).filter (· != y) = (todo.filter (· != y)).filter (· != x) := by
            rw [List.filter_filter, List.filter_filter]
            congr 1
            funext j
            exact Bool.and_comm _ _
          rcases hin with rfl | rfl
          · obtain ⟨o1, o2, _⟩ := order_next (n' := 0) (l := []) (todo := []) x1 hlx ex1 dx gx ax (fun j hj => (hk j hj).imp id (fun h => h.1))
            obtain ⟨_, _, p3⟩ := order_next (n' := n') (l := l) (todo := todo.filter (· != i)) (dn := i :: done) y1 hly ey1 dy gy (fun j hj => List.mem_cons_of_mem _ (ay j hj)) (fun j hj => by
              rcases List.mem_cons.1 hj with rfl | hj
              · exact .inl ex1
              · exact (hk j hj).imp id (fun h => h.2))
            refine main (n' + 1) [] _ _ (fun j hj => .inr (.inr (by unfold around; rw [dx]))) ax o2 o1 (p3 (List.mem_filter.2 ⟨hym, by simpa using Ne.symm hxy⟩) ?_ (fun j hj => ?_) hl) hrest'
            · intro hm
              rcases List.mem_cons.1 hm with h | h
              · exact hxy h.symm
              · exact I.disj y hym h
            · obtain ⟨g1, g2⟩ := List.mem_filter.1 hj
              rcases hall j g1 with h | h | h
              · rw [h] at g2; simp at g2
              · exact .inl h
              · exact .inr h.2
          · obtain ⟨o1, o2, _⟩ := order_next (n' := 0) (l := []) (todo := []) y1 hly ey1 dy gy ay (fun j hj => (hk j hj).imp id (fun h => h.2))
            obtain ⟨_, _, p3⟩ := order_next (n' := n') (l := l) (todo := todo.filter (· != i)) (dn := i :: done) x1 hlx ex1 dx gx (fun j hj => List.mem_cons_of_mem _ (ax j hj)) (fun j hj => by
              rcases List.mem_cons.1 hj with rfl | hj
              · exact .inl ey1
              · exact (hk j hj).imp id (fun h => h.1))
            have hl2 : order r n' ((todo.filter (· != i)).filter (· != x)) (x :: i :: done) = some l := by
              rw [← hf2, ← hl]
              refine order_done n' _ _ _ (fun j => ?_) ?_
              · simp only [List.mem_cons]
                constructor <;> (rintro (h | h | h) <;> simp [h])
              · simp only [List.filter_cons, ex1, ey1, Bool.not_true, Bool.false_eq_true, if_false]
            refine main (n' + 1) [] _ _ (fun j hj => .inr (.inr (by unfold around; rw [dy]))) ay o2 o1 (p3 (List.mem_filter.2 ⟨hxm, by simpa using hxy⟩) ?_ (fun j hj => ?_) hl2) hrest2
            · intro hm
              rcases List.mem_cons.1 hm with h | h
              · exact hxy h
              · exact I.disj x hxm h
            · obtain ⟨g1, g2⟩ := List.mem_filter.1 hj
              rcases hall j g1 with h | h | h
              · exact .inl h
              · rw [h] at g2; simp at g2
              · exact .inr h.1
      · -- one whose place was earlier
        have hex : ∃ p ∈ pend, p.i = i := by
          refine Classical.byContradiction fun hno => ?_
          have := (I.lst i hisz).2 ⟨hid, fun p hp h => hno ⟨p, hp, h⟩⟩
          rw [this] at hlist; cases hlist
        obtain ⟨p, hp, rfl⟩ := hex
        refine wpOp_mono (fun a1 w1 hk => ?_) (pend_ok hr0 hops hanc has hnd I hmd hp hi)
        obtain ⟨af', R1, ι1, I2⟩ := hk
        refine ih n todo done rest _ st af' _ a1 w1 R1 ι1 I2 ?_
        have hlen3 := filter_pend I.pnd hp
        omega

theorem draw_ok (hC : CallsOk P G (callF C self)) {id : Nat} {ss : List Step} (hr : region P G ops.toList true = some ss) (e : steps C self ss st = some (ex, st')) (hS : SRel G st a w R ι) :
    (Code.region id ops true).wp P (QOf G w R ι st.h ex (wipeSt ss ex st')) a w := by
  unfold region at hr
  split at hr
  · cases hr
  · rename_i as has
    have e1 : ops.toList.toArray = ops := by simp
    simp only [if_true, e1] at hr
    have hcond : ∃ hm : (if (P.follows .mixedOrders || !Region.departs ops) = true then modeOk (P.follows .mixedOrders) ops.toList .any else modeOk (P.follows .mixedOrders) ops.toList .text && modeOk (P.follows .mixedOrders) ops.toList .gc) = true,
        (ops.toList.filterMap (·.dst)).Nodup ∧ order { ops := ops.toList, aops := as, anc := ancs (P.follows .mixedOrders) ops.toList [] } ops.toList.length (List.range ops.toList.length) [] = some ss := by
      generalize (if (P.follows .mixedOrders || !Region.departs ops) = true then modeOk (P.follows .mixedOrders) ops.toList .any else modeOk (P.follows .mixedOrders) ops.toList .text && modeOk (P.follows .mixedOrders) ops.toList .gc) = bb at hr
      split at hr
      · rename_i hc
        simp only [Bool.and_eq_true, decide_eq_true_eq] at hc
        exact ⟨hc.1, hc.2, hr⟩
      · cases hr
    obtain ⟨hm, hnd, hr⟩ := hcond
    have hlen : ops.toList.length = ops.size := Array.length_toList
    have hW : ∀ i t, RIn.dstOf { ops := ops.toList, aops := as, anc := ancs (P.follows .mixedOrders) ops.toList [] } i = some t → ∃ s ∈ ss, s.dst = some t := by
      intro i t ht
      have hi : i < ops.toList.length := by
        rcases Nat.lt_or_ge i ops.toList.length with h | h
        · exact h
        · unfold RIn.dstOf at ht
          rw [List.getElem?_eq_none h] at ht
          cases ht
      obtain ⟨s, h1, h2⟩ := order_all _ _ _ ss hr i (List.mem_range.2 hi)
      exact ⟨s, h1, h2.trans ht⟩
    have key : ∀ (md : Region.Mode) (t : Nat), modeOk (P.follows .mixedOrders) ops.toList md = true → wpOps P ops (QOf G w R ι st.h ex (wipeSt ss ex st')) (Region.linearise md ops t) a { w with drawn := w.drawn + 1 } := by
      intro md t hok
      unfold modeOk at hok
      simp only [Bool.and_eq_true, List.all_eq_true, List.contains_eq_mem, decide_eq_true_eq] at hok
      refine wpAny_sound ops.size t _ a _ ?_
      have hr1 : HRel { w with drawn := w.drawn + 1 } R ι st.h := hS.heap.same rfl
      have hp1 : Post w R ι st.h { w with drawn := w.drawn + 1 } R ι st.h := Post.same hS.heap rfl rfl rfl rfl
      refine draw_any (n := ops.toList.length) (todo := List.range ops.toList.length) (done := []) (rest := ss) (pend := []) (st := st) (af := st.fr) (R := R) (ι := ι) (r := { ops := ops.toList, aops := as, anc := ancs (P.follows .mixedOrders) ops.toList [] }) hC hS.heap rfl rfl has
        (fun i j t h1 h2 => dst_inj ops.toList hnd i j t h1 h2) (md := md) (fun i o ho j hj => hok.2 o (Array.mem_toList_iff.2 (Array.mem_of_getElem? ho)) j hj) ⟨_, hok.1⟩ hW ops.size _ _ _ ?_ (by simp)
      refine { ord := hr, run := e, post := hp1, glob := hS.glob.keep hS.heap hp1, ds := hS.ds.keep hS.heap hp1, fr := hS.fr.keep hS.heap hp1, len := rfl, agree := fun _ _ => rfl, pok := (by simp), pval := (by simp), pstep := (by simp), pdone := (by simp), pnd := (by simp), gnd := (by simp), tnd := List.nodup_range, disj := (by simp), all := (fun i hi => .inl (by simpa using hi)), rngT := (by simp), rngD := (by simp), danc := (by simp), lsize := (by simp), lst := (fun i hi => by simp [Array.getD, hi]), down := (fun i o ho hl => ?_) }
      have hi : i < ops.size := (Array.getElem?_eq_some_iff.1 ho).1
      simp [Array.getD, hi] at hl
    refine wp_region_draw fun t => ?_
    unfold Region.schedule
    split at hm
    · rename_i hmx
      rw [if_pos hmx]
      exact key .any t hm
    · rename_i hmx
      rw [if_neg hmx]
      simp only [Bool.and_eq_true] at hm
      split
      · exact key .text _ hm.1
      · exact key .gc _ hm.2

theorem draws_ok : DrawOk P G C := fun _ hC _ _ _ hr _ _ _ _ _ _ _ e hS => by
  obtain ⟨st1, e1, rfl⟩ := wiped_some e
  exact draw_ok hC hr e1 hS
end
end Go.Ab
