/- The abstract machine, part 5. Reasoning about runs: more fuel does no harm; the codes' rules. Runs of codes whose frames are known in part: rules for codes, operations, calls and loops. What single operations answer, told with whole numbers, texts and blocks that are not known in full. Heaps that a call has made blocks in: which blocks, counted from the first; calls that let memory be. Calls whose answers are known, with their arguments: closed calls, evaluated once; functions that were walked. Calls that look at memory; slices that are being made; bytes; jumps back; more operations. Parameters that are slices of bytes. Functions whose code leaves a choice open: every order is run, and all come to the same. Parameters of any type that is made of whole numbers, bools, strings, structs and slices. Calls on frozen copies: a function whose answer is known for arguments without memory answers the same for arguments in memory that read like them. Layers: the walked functions of one layer answer calls of the next, from arguments in memory as from frozen ones. Rules for calls: with checks behind them, of function values, one layer down. Tables of facts, one layer over the other. Arguments of any types, read again behind a call that lets them be; parameters that are lists of whole numbers. Codes evaluated where a frame is known in part: from one known frame to the next. Steps that hang on a condition and are looked at again: rules with checks that hang on conditions too. An evaluator that goes on where numbers are not known: what must be equal is told apart, in two lists; the kernel compares the lists at the end. The evaluator where numbers are not known, with answers that are given for some functions; pieces of a walk that are evaluated so. -/
import Derived.Test.YtfbikhkmamdjmaaGreatDoorAb4
import Derived.KernelRfl
import Derived.ChangeSlices
import Derived.RowKit
import Derived.Carry
import GoSem.ClaimJoined
import Derived.ReadAgain
import Derived.ChangeOld
namespace Go.Ab

def Le (s s' : ACode → StT → Option (Ex × StT)) : Prop := ∀ c st r, s c st = some r → s' c st = some r

section
variable {D : OCtx} {s s' : ACode → StT → Option (Ex × StT)}

theorem execDT_le (hS : Le s s') : ∀ (a : ACode) (m : Md) (st : StT) (r : Ex × Md × StT), execDT s a m st = some r → execDT s' a m st = some r := by
  intro a
  induction a with
  | seq x y ihx ihy =>
    intro m st r e
    simp only [execDT] at e ⊢
    cases h : execDT s x m st with
    | none => rw [h] at e; cases e
    | some q =>
      obtain ⟨ex, m1, st1⟩ := q
      rw [h] at e
      rw [ihx _ _ _ h]
      cases ex with
      | nrm => exact ihy _ _ _ e
      | _ => exact e
  | cond c x y ihx ihy =>
    intro m st r e
    simp only [execDT] at e ⊢
    split at e
    · exact ihx _ _ _ e
    · exact ihy _ _ _ e
    · cases e
  | rregion l => intro m st r e; exact e
  | _ =>
    intro m st r e
    rw [execDT_other rfl] at e ⊢
    obtain ⟨q, h, rfl⟩ := map_some e
    rw [hS _ _ _ h]
    rfl

theorem callDT_le (hS : Le s s') {f : Nat} {args : List V} {m : Md} {h : Heap} {r : Out × Md × Heap} (e : callDT D s f args m h = some r) : callDT D s' f args m h = some r := by
  unfold callDT at e ⊢
  cases hc : D.code f with
  | none => rw [hc] at e; cases e
  | some o =>
    rw [hc] at e
    simp only at e ⊢
    split at e
    · rename_i hb
      cases hx : execDT s o.body m (.mk (frameA o.dep args) [] h) with
      | none => rw [hx] at e; cases e
      | some q =>
        rw [hx] at e
        rw [execDT_le hS _ _ _ _ hx]
        exact e
    · cases e

theorem leaveT_le (hS : Le s s') : ∀ {ds : List (V × List V)} {m : Md} {h : Heap} {r : Md × Heap}, leaveT D s ds m h = some r → leaveT D s' ds m h = some r
  | [], m, h, r, e => e
  | d :: ds, m, h, r, e => by
    simp only [leaveT] at e ⊢
    split at e
    · rename_i f pre caps hd
      cases hx : callDT D s f (pre ++ d.2 ++ caps) m h with
      | none => rw [hx] at e; cases e
      | some q =>
        obtain ⟨out, m1, h1⟩ := q
        rw [hx] at e
        rw [callDT_le hS hx]
        cases out with
        | ret v => exact leaveT_le hS e
        | pan v =>
          cases m1 with
          | ret => exact leaveT_le hS e
          | pan u => cases e
          | caught u => cases e
    · cases e

theorem endedT_le {rs : List RVar} {fr : Fr} {q q' : Option (Md × Heap)} (hq : ∀ r, q = some r → q' = some r) {r : Out × Heap} (e : endedT rs fr q = some r) : endedT rs fr q' = some r := by
  cases q with
  | none => cases e
  | some x => rw [hq x rfl]; exact e

theorem bodyT_le (hS : Le s s') {o : OFunc} {args : List V} {h : Heap} {r : Out × Heap} (e : bodyT D s o args h = some r) : bodyT D s' o args h = some r := by
  obtain ⟨np, dep, rs, bd⟩ := o
  simp only [bodyT] at e ⊢
  split at e
  · rename_i hb
    cases hx : s bd (.mk (frameA dep args) [] h) with
    | none => rw [hx] at e; cases e
    | some q =>
      obtain ⟨ex, st⟩ := q
      rw [hx] at e
      rw [hS _ _ _ hx]
      cases ex with
      | nrm => exact endedT_le (fun r hr => leaveT_le hS hr) e
      | ret => exact endedT_le (fun r hr => leaveT_le hS hr) e
      | pan v => exact endedT_le (fun r hr => leaveT_le hS hr) e
      | exit i => cases e
      | goto l => cases e
  · cases e

theorem callT_le (hS : Le s s') {f : Nat} {args : List V} {h : Heap} {r : Out × Heap} (e : callT D s f args h = some r) : callT D s' f args h = some r := by
  unfold callT at e ⊢
  cases ho : D.orc f with
  | some g => rw [ho] at e; exact e
  | none =>
    rw [ho] at e
    simp only at e ⊢
    cases hc : D.code f with
    | none => rw [hc] at e; cases e
    | some o =>
      rw [hc] at e
      simp only at e ⊢
      cases ht : D.tidy f with
      | false =>
        rw [ht] at e
        simp only at e ⊢
        exact bodyT_le hS e
      | true =>
        rw [ht] at e
        simp only at e ⊢
        cases hb : bodyT D s o args { h with floors := h.next :: h.floors } with
        | none => rw [hb] at e; cases e
        | some q =>
          rw [hb] at e
          rw [bodyT_le hS hb]
          exact e

theorem outT_le {dst : Option Nat} {st : StT} {k k' : StT → Option (Ex × StT)} (hk : ∀ st r, k st = some r → k' st = some r) {q : Option (Out × Heap)} {r : Ex × StT} (e : outT dst st k q = some r) : outT dst st k' q = some r := by
  cases q with
  | none => cases e
  | some q =>
    obtain ⟨o, h'⟩ := q
    cases o with
    | ret v =>
      have e' : force v (fun v => k (.mk (putT st.fr dst v) st.ds h')) = some r := e
      show force v (fun v => k' (.mk (putT st.fr dst v) st.ds h')) = some r
      rw [force_eq] at e' ⊢
      exact hk _ _ e'
    | pan v => exact e

theorem doT_le (hS : Le s s') {o : AOp} {dst : Option Nat} {st : StT} {k k' : StT → Option (Ex × StT)} (hk : ∀ st r, k st = some r → k' st = some r) {r : Ex × StT} (e : doT D s o dst st k = some r) : doT D s' o dst st k' = some r := by
  have callS : ∀ {f : Nat} {args : List V}, outT dst st k (callT D s f args st.h) = some r → outT dst st k' (callT D s' f args st.h) = some r := by
    intro f args e
    cases hc : callT D s f args st.h with
    | none => rw [hc] at e; cases e
    | some q =>
      rw [hc] at e
      rw [callT_le hS hc]
      exact outT_le hk e
  by_cases hn : o.far = false ∧ o.isRecover = false
  · rw [doT_near D s hn.1 hn.2] at e
    rw [doT_near D s' hn.1 hn.2]
    obtain ⟨fr, ds, h⟩ := st
    simp only [nearT, force_eq] at e ⊢
    cases ho : opF o (evT fr) h with
    | none => rw [ho] at e; cases e
    | some q => rw [ho] at e; exact hk _ _ e
  · cases o with
    | call f args =>
      have e' : mapK (evT st.fr) args (fun l => outT dst st k (callT D s f l st.h)) = some r := e
      show mapK (evT st.fr) args (fun l => outT dst st k' (callT D s' f l st.h)) = some r
      rw [mapK_eq] at e' ⊢
      exact callS e'
    | callv g args =>
      have e' : t_callv D s g args dst st k = some r := e
      show t_callv D s' g args dst st k' = some r
      unfold t_callv at e' ⊢
      simp only [mapK_eq] at e' ⊢
      split at e'
      · exact callS e'
      · cases e'
    | panic x => exact e
    | defer g args =>
      have e' : t_defer g args dst st k = some r := e
      show t_defer g args dst st k' = some r
      unfold t_defer at e' ⊢
      split at e'
      · exact hk _ _ e'
      · cases e'
    | recover => cases e
    | _ => exact absurd ⟨rfl, rfl⟩ hn

theorem chkT_le {l : List (Nat × Option (Nat × Bool) × AOp)} {k k' : StT → Option (Ex × StT)} (hk : ∀ st r, k st = some r → k' st = some r) {st : StT} {r : Ex × StT} (e : chkT l k st = some r) : chkT l k' st = some r := by
  cases l with
  | nil => exact hk _ _ e
  | cons x l =>
    have e' : Bool.rec (motive := fun _ => Option (Ex × StT)) none (k st) (checksT (getT st.fr) (evT st.fr) st.h (x :: l)) = some r := e
    show Bool.rec (motive := fun _ => Option (Ex × StT)) none (k' st) (checksT (getT st.fr) (evT st.fr) st.h (x :: l)) = some r
    cases hc : checksT (getT st.fr) (evT st.fr) st.h (x :: l) with
    | true => rw [hc] at e'; exact hk _ _ e'
    | false => rw [hc] at e'; cases e'

theorem guardT_le {g : Option (Nat × Bool)} {st : StT} {y y' n n' : Option (Ex × StT)} (hy : ∀ r, y = some r → y' = some r) (hn : ∀ r, n = some r → n' = some r) {r : Ex × StT} (e : guardT g st y n = some r) : guardT g st y' n' = some r := by
  cases g with
  | none => exact hy _ e
  | some q =>
    simp only [guardT] at e ⊢
    split at e
    · split at e
      · exact hy _ e
      · exact hn _ e
    · cases e
    · exact hn _ e

theorem stepsT_le (hS : Le s s') : ∀ (l : List Step) (st : StT) (r : Ex × StT), stepsT D s l st = some r → stepsT D s' l st = some r
  | [], st, r, e => e
  | s0 :: l, st, r, e => by
    have ih := stepsT_le hS l
    obtain ⟨dst, op, guard, chk⟩ := s0
    have hk : ∀ st r, chkT chk (stepsT D s l) st = some r → chkT chk (stepsT D s' l) st = some r := fun st r h => chkT_le ih h
    have e' : guardT guard st (doT D s op dst st (chkT chk (stepsT D s l))) (chkT chk (stepsT D s l) (.mk (putT st.fr dst (.tup [])) st.ds st.h)) = some r := by cases guard <;> exact e
    have g : guardT guard st (doT D s' op dst st (chkT chk (stepsT D s' l))) (chkT chk (stepsT D s' l) (.mk (putT st.fr dst (.tup [])) st.ds st.h)) = some r :=
      guardT_le (fun r h => doT_le hS hk h) (fun r h => hk _ _ h) e'
    cases guard <;> exact g

theorem wipedT_le {l : List Step} {q q' : Option (Ex × StT)} (hq : ∀ r, q = some r → q' = some r) {r : Ex × StT} (e : wipedT l q = some r) : wipedT l q' = some r := by
  cases q with
  | none => cases e
  | some x => rw [hq x rfl]; exact e
end

theorem execT_succ (D : OCtx) : ∀ n, Le (execT D n) (execT D (n + 1))
  | 0 => fun _ _ _ e => by cases e
  | n + 1 => by
    have ih := execT_succ D n
    intro a st r e
    have two : ∀ {x : ACode} {k k' : Option (Ex × StT) → Option (Ex × StT)}, (∀ q r, k (some q) = some r → k' (some q) = some r) → k none = none → k (execT D n x st) = some r → k' (execT D (n + 1) x st) = some r := by
      intro x k k' hk h0 e
      cases hx : execT D n x st with
      | none => rw [hx, h0] at e; cases e
      | some q => rw [hx] at e; rw [ih _ _ _ hx]; exact hk q r e
    cases a with
    | region l =>
      have e' : wipedT l (stepsT D (execT D n) l st) = some r := e
      exact wipedT_le (fun r h => stepsT_le ih _ _ _ h) e'
    | seq x y =>
      exact two (x := x) (k := fun q => match q with
        | some (.nrm, st') => execT D n y st'
        | e => e) (k' := fun q => match q with
        | some (.nrm, st') => execT D (n + 1) y st'
        | e => e) (fun q r h => by
          obtain ⟨ex, st1⟩ := q
          cases ex with
          | nrm => exact ih _ _ _ h
          | _ => exact h) rfl e
    | cond c x y =>
      have e' : (match evT st.fr c with
        | .bool t => execT D n (Bool.rec y x t) st
        | _ => none) = some r := e
      show (match evT st.fr c with
        | .bool t => execT D (n + 1) (Bool.rec y x t) st
        | _ => none) = some r
      split at e'
      · rename_i t ht; exact ih _ _ _ e'
      · cases e'
    | block id x =>
      exact two (x := x) (k := fun q => match q with
        | some (.exit i, st') => some (Bool.rec (.exit i) .nrm (Nat.beq i id), st')
        | e => e) (k' := fun q => match q with
        | some (.exit i, st') => some (Bool.rec (.exit i) .nrm (Nat.beq i id), st')
        | e => e) (fun q r h => h) rfl e
    | loop x =>
      exact two (x := x) (k := fun q => match q with
        | some (.nrm, st') => execT D n (.loop x) st'
        | e => e) (k' := fun q => match q with
        | some (.nrm, st') => execT D (n + 1) (.loop x) st'
        | e => e) (fun q r h => by
          obtain ⟨ex, st1⟩ := q
          cases ex with
          | nrm => exact ih _ _ _ h
          | _ => exact h) rfl e
    | scope x => exact ih _ _ _ e
    | inscope x y =>
      exact two (x := x) (k := fun q => match q with
        | some (.goto l, st') => match findLabel y l with
          | some rest => execT D n (.inscope rest y) st'
          | none => some (.goto l, st')
        | e => e) (k' := fun q => match q with
        | some (.goto l, st') => match findLabel y l with
          | some rest => execT D (n + 1) (.inscope rest y) st'
          | none => some (.goto l, st')
        | e => e) (fun q r h => by
          obtain ⟨ex, st1⟩ := q
          cases ex with
          | goto l =>
            simp only at h ⊢
            cases hf : findLabel y l with
            | none => rw [hf] at h; exact h
            | some rest => rw [hf] at h; exact ih _ _ _ h
          | _ => exact h) rfl e
    | rregion l => cases e
    | _ => exact e

theorem execT_le (D : OCtx) {n m : Nat} (h : n ≤ m) : Le (execT D n) (execT D m) := by
  induction h with
  | refl => exact fun _ _ _ e => e
  | step _ ih => exact fun c st r e => execT_succ D _ c st r (ih c st r e)

/-! ### runs -/

def Runs (D : OCtx) (c : ACode) (st : StT) (ex : Ex) (st' : StT) : Prop := ∃ n, execT D n c st = some (ex, st')
def StepsR (D : OCtx) (l : List Step) (st : StT) (ex : Ex) (st' : StT) : Prop := ∃ n, stepsT D (execT D n) l st = some (ex, st')
def CallR (D : OCtx) (f : Nat) (args : List V) (h : Heap) (out : Out) (h' : Heap) : Prop := ∃ n, callFast D n f args h = some (out, h')

section
variable {D : OCtx} {a b c : ACode} {st st1 st2 : StT} {ex : Ex}

theorem Runs.seq (h1 : Runs D a st .nrm st1) (h2 : Runs D b st1 ex st2) : Runs D (.seq a b) st ex st2 := by
  obtain ⟨n, h1⟩ := h1
  obtain ⟨m, h2⟩ := h2
  refine ⟨max n m + 1, ?_⟩
  show (match execT D (max n m) a st with
    | some (.nrm, st') => execT D (max n m) b st'
    | e => e) = _
  rw [execT_le D (Nat.le_max_left n m) _ _ _ h1]
  exact execT_le D (Nat.le_max_right n m) _ _ _ h2
theorem Runs.seq_stop (h1 : Runs D a st ex st1) (hx : ex ≠ .nrm) : Runs D (.seq a b) st ex st1 := by
  obtain ⟨n, h1⟩ := h1
  refine ⟨n + 1, ?_⟩
  show (match execT D n a st with
    | some (.nrm, st') => execT D n b st'
    | e => e) = _
  rw [h1]
  cases ex <;> first | rfl | exact absurd rfl hx
theorem Runs.yes {x : Opd} (hc : evT st.fr x = .bool true) (h1 : Runs D a st ex st1) : Runs D (.cond x a b) st ex st1 := by
  obtain ⟨n, h1⟩ := h1
  refine ⟨n + 1, ?_⟩
  show (match evT st.fr x with
    | .bool t => execT D n (Bool.rec b a t) st
    | _ => none) = _
  rw [hc]; exact h1
theorem Runs.no {x : Opd} (hc : evT st.fr x = .bool false) (h1 : Runs D b st ex st1) : Runs D (.cond x a b) st ex st1 := by
  obtain ⟨n, h1⟩ := h1
  refine ⟨n + 1, ?_⟩
  show (match evT st.fr x with
    | .bool t => execT D n (Bool.rec b a t) st
    | _ => none) = _
  rw [hc]; exact h1
theorem Runs.skip : Runs D .skip st .nrm st := ⟨1, rfl⟩
theorem Runs.label {l : Nat} : Runs D (.label l) st .nrm st := ⟨1, rfl⟩
theorem Runs.exit {i : Nat} : Runs D (.exit i) st (.exit i) st := ⟨1, rfl⟩
theorem Runs.goto {l : Nat} : Runs D (.goto l) st (.goto l) st := ⟨1, rfl⟩
theorem Runs.ret : Runs D .ret st .ret st := ⟨1, rfl⟩
theorem Runs.block {i : Nat} (h1 : Runs D a st ex st1) (hx : ∀ j, ex ≠ .exit j) : Runs D (.block i a) st ex st1 := by
  obtain ⟨n, h1⟩ := h1
  refine ⟨n + 1, ?_⟩
  show (match execT D n a st with
    | some (.exit i', st') => some (Bool.rec (motive := fun _ => Ex) (.exit i') .nrm (Nat.beq i' i), st')
    | e => e) = _
  rw [h1]
  cases ex <;> first | rfl | exact absurd rfl (hx _)
theorem Runs.block_exit {i : Nat} (h1 : Runs D a st (.exit i) st1) : Runs D (.block i a) st .nrm st1 := by
  obtain ⟨n, h1⟩ := h1
  refine ⟨n + 1, ?_⟩
  show (match execT D n a st with
    | some (.exit i', st') => some (Bool.rec (motive := fun _ => Ex) (.exit i') .nrm (Nat.beq i' i), st')
    | e => e) = _
  rw [h1]
  simp
theorem Runs.block_pass {i j : Nat} (h1 : Runs D a st (.exit j) st1) (hij : Nat.beq j i = false) : Runs D (.block i a) st (.exit j) st1 := by
  obtain ⟨n, h1⟩ := h1
  refine ⟨n + 1, ?_⟩
  show (match execT D n a st with
    | some (.exit i', st') => some (Bool.rec (motive := fun _ => Ex) (.exit i') .nrm (Nat.beq i' i), st')
    | e => e) = _
  rw [h1]
  simp only [hij]
theorem Runs.loop (h1 : Runs D a st .nrm st1) (h2 : Runs D (.loop a) st1 ex st2) : Runs D (.loop a) st ex st2 := by
  obtain ⟨n, h1⟩ := h1
  obtain ⟨m, h2⟩ := h2
  refine ⟨max n m + 1, ?_⟩
  show (match execT D (max n m) a st with
    | some (.nrm, st') => execT D (max n m) (.loop a) st'
    | e => e) = _
  rw [execT_le D (Nat.le_max_left n m) _ _ _ h1]
  exact execT_le D (Nat.le_max_right n m) _ _ _ h2
theorem Runs.loop_stop (h1 : Runs D a st ex st1) (hx : ex ≠ .nrm) : Runs D (.loop a) st ex st1 := by
  obtain ⟨n, h1⟩ := h1
  refine ⟨n + 1, ?_⟩
  show (match execT D n a st with
    | some (.nrm, st') => execT D n (.loop a) st'
    | e => e) = _
  rw [h1]
  cases ex <;> first | rfl | exact absurd rfl hx
theorem Runs.scope (h1 : Runs D (.inscope a a) st ex st1) : Runs D (.scope a) st ex st1 := by
  obtain ⟨n, h1⟩ := h1
  exact ⟨n + 1, h1⟩
theorem Runs.inscope (h1 : Runs D a st ex st1) (hx : ∀ l, ex ≠ .goto l) : Runs D (.inscope a c) st ex st1 := by
  obtain ⟨n, h1⟩ := h1
  refine ⟨n + 1, ?_⟩
  show (match execT D n a st with
    | some (.goto l, st') => match findLabel c l with
      | some rest => execT D n (.inscope rest c) st'
      | none => some (.goto l, st')
    | e => e) = _
  rw [h1]
  cases ex <;> first | rfl | exact absurd rfl (hx _)
theorem Runs.inscope_goto {l : Nat} (h1 : Runs D a st (.goto l) st1) (hf : findLabel c l = some b) (h2 : Runs D (.inscope b c) st1 ex st2) : Runs D (.inscope a c) st ex st2 := by
  obtain ⟨n, h1⟩ := h1
  obtain ⟨m, h2⟩ := h2
  refine ⟨max n m + 1, ?_⟩
  show (match execT D (max n m) a st with
    | some (.goto l, st') => match findLabel c l with
      | some rest => execT D (max n m) (.inscope rest c) st'
      | none => some (.goto l, st')
    | e => e) = _
  rw [execT_le D (Nat.le_max_left n m) _ _ _ h1]
  simp only [hf]
  exact execT_le D (Nat.le_max_right n m) _ _ _ h2
theorem Runs.region {l : List Step} (h1 : StepsR D l st ex st1) (hx : ∀ v, ex ≠ .pan v) : Runs D (.region l) st ex st1 := by
  obtain ⟨n, h1⟩ := h1
  refine ⟨n + 1, ?_⟩
  show wipedT l (stepsT D (execT D n) l st) = _
  rw [h1]
  cases ex <;> first | rfl | exact absurd rfl (hx _)

theorem StepsR.nil : StepsR D [] st .nrm st := ⟨0, rfl⟩
theorem StepsR.near {op : AOp} {d : Option Nat} {l : List Step} {fr : Fr} {ds : List (V × List V)} {h h' : Heap} {v : V} (hf : op.far = false) (hr : op.isRecover = false) (he : opF op (evT fr) h = some (v, h')) (h2 : StepsR D l ⟨putT fr d v, ds, h'⟩ ex st2) : StepsR D (⟨d, op, none, []⟩ :: l) ⟨fr, ds, h⟩ ex st2 := by
  obtain ⟨n, h2⟩ := h2
  refine ⟨n, ?_⟩
  show doT D (execT D n) op d ⟨fr, ds, h⟩ (stepsT D (execT D n) l) = _
  rw [doT_near _ _ hf hr]
  simp only [nearT, he, force_eq]
  exact h2
theorem StepsR.call {f : Nat} {xs : List Opd} {d : Option Nat} {l : List Step} {h' : Heap} {v : V} (he : CallR D f (xs.map (evT st.fr)) st.h (.ret v) h') (h2 : StepsR D l ⟨putT st.fr d v, st.ds, h'⟩ ex st2) : StepsR D (⟨d, .call f xs, none, []⟩ :: l) st ex st2 := by
  obtain ⟨n, he⟩ := he
  obtain ⟨m, h2⟩ := h2
  refine ⟨max n m, ?_⟩
  show mapK (evT st.fr) xs (fun a => outT d st (stepsT D (execT D (max n m)) l) (callT D (execT D (max n m)) f a st.h)) = _
  rw [mapK_eq, callT_le (execT_le D (Nat.le_max_left n m)) he]
  show force v (fun v => stepsT D (execT D (max n m)) l (.mk (putT st.fr d v) st.ds h')) = _
  rw [force_eq]
  exact stepsT_le (execT_le D (Nat.le_max_right n m)) _ _ _ h2
theorem StepsR.guarded {t : Nat} {b : Bool} {op : AOp} {d : Option Nat} {l : List Step} (hg : getT st.fr t = .bool b) (h2 : StepsR D (⟨d, op, none, []⟩ :: l) st ex st2) : StepsR D (⟨d, op, some (t, b), []⟩ :: l) st ex st2 := by
  obtain ⟨n, h2⟩ := h2
  refine ⟨n, ?_⟩
  show guardT (some (t, b)) st (doT D (execT D n) op d st (stepsT D (execT D n) l)) _ = _
  simp only [guardT, hg, beq_self_eq_true]
  exact h2
theorem StepsR.passed {t : Nat} {b : Bool} {op : AOp} {d : Option Nat} {l : List Step} (hg : getT st.fr t = .bool (!b)) (h2 : StepsR D l ⟨putT st.fr d (.tup []), st.ds, st.h⟩ ex st2) : StepsR D (⟨d, op, some (t, b), []⟩ :: l) st ex st2 := by
  obtain ⟨n, h2⟩ := h2
  refine ⟨n, ?_⟩
  show guardT (some (t, b)) st _ (stepsT D (execT D n) l ⟨putT st.fr d (.tup []), st.ds, st.h⟩) = _
  have : ((!b) == b) = false := by cases b <;> rfl
  simp only [guardT, hg, this]
  exact h2

/-- a call of a function whose blocks are let be -/
theorem CallR.body {f : Nat} {o : OFunc} {args : List V} {h : Heap} {v : V} (ho : D.orc f = none) (hc : D.code f = some o) (ht : D.tidy f = false) (hn : Nat.beq (lenL args) o.np = true) (hx : ex = .nrm ∨ ex = .ret)
    (h1 : Runs D o.body ⟨frameA o.dep args, [], h⟩ ex st1) (hd : st1.ds = []) (hv : (resultsT st1.h (getT st1.fr) o.results).map oneOr = some v) : CallR D f args h (.ret v) st1.h := by
  obtain ⟨n, h1⟩ := h1
  obtain ⟨vs, hvs, rfl⟩ := map_some hv
  refine ⟨n, ?_⟩
  unfold callFast callT
  simp only [ho, hc, ht]
  obtain ⟨np, dep, rs, bd⟩ := o
  simp only [bodyT, hn]
  rw [h1]
  obtain ⟨fr1, ds1, hp1⟩ := st1
  simp only at hd
  subst hd
  rcases hx with rfl | rfl <;> (simp only [leaveT, endedT]; simp only at hvs; rw [hvs]; rfl)
end

/-! ### what holds behind a run -/

def WP (D : OCtx) (c : ACode) (st : StT) (Q : Ex → StT → Prop) : Prop := ∃ ex st', Runs D c st ex st' ∧ Q ex st'
def WPs (D : OCtx) (l : List Step) (st : StT) (Q : StT → Prop) : Prop := ∃ st', StepsR D l st .nrm st' ∧ Q st'
def CallW (D : OCtx) (f : Nat) (args : List V) (h : Heap) (Q : V → Heap → Prop) : Prop := ∃ v h', CallR D f args h (.ret v) h' ∧ Q v h'

section
variable {D : OCtx} {a b c : ACode} {st : StT} {Q : Ex → StT → Prop} {K : StT → Prop}

theorem WP.mono {Q' : Ex → StT → Prop} (h : WP D a st Q) (hq : ∀ ex st, Q ex st → Q' ex st) : WP D a st Q' := by
  obtain ⟨ex, st', h1, h2⟩ := h; exact ⟨ex, st', h1, hq _ _ h2⟩
/-- behind the first of two -/
def onward (D : OCtx) (b : ACode) (Q : Ex → StT → Prop) : Ex → StT → Prop
  | .nrm, st => WP D b st Q
  | ex, st => Q ex st
theorem WP.seq (h : WP D a st (onward D b Q)) : WP D (.seq a b) st Q := by
  obtain ⟨ex, st1, h1, h2⟩ := h
  cases ex with
  | nrm => obtain ⟨ex, st2, h3, h4⟩ := h2; exact ⟨ex, st2, h1.seq h3, h4⟩
  | _ => exact ⟨_, st1, h1.seq_stop (by simp), h2⟩
theorem WP.yes {x : Opd} (hc : evT st.fr x = .bool true) (h : WP D a st Q) : WP D (.cond x a b) st Q := by
  obtain ⟨ex, st', h1, h2⟩ := h; exact ⟨ex, st', h1.yes hc, h2⟩
theorem WP.no {x : Opd} (hc : evT st.fr x = .bool false) (h : WP D b st Q) : WP D (.cond x a b) st Q := by
  obtain ⟨ex, st', h1, h2⟩ := h; exact ⟨ex, st', h1.no hc, h2⟩
theorem WP.skip (h : Q .nrm st) : WP D .skip st Q := ⟨_, _, Runs.skip, h⟩
theorem WP.label {l : Nat} (h : Q .nrm st) : WP D (.label l) st Q := ⟨_, _, Runs.label, h⟩
theorem WP.exit {i : Nat} (h : Q (.exit i) st) : WP D (.exit i) st Q := ⟨_, _, Runs.exit, h⟩
theorem WP.goto {l : Nat} (h : Q (.goto l) st) : WP D (.goto l) st Q := ⟨_, _, Runs.goto, h⟩
theorem WP.ret (h : Q .ret st) : WP D .ret st Q := ⟨_, _, Runs.ret, h⟩
def within (i : Nat) (Q : Ex → StT → Prop) : Ex → StT → Prop
  | .exit j, st => if Nat.beq j i then Q .nrm st else Q (.exit j) st
  | ex, st => Q ex st
theorem WP.block {i : Nat} (h : WP D a st (within i Q)) : WP D (.block i a) st Q := by
  obtain ⟨ex, st1, h1, h2⟩ := h
  cases ex with
  | exit j =>
    simp only [within] at h2
    cases hb : Nat.beq j i with
    | true =>
      rw [hb] at h2
      have := Nat.eq_of_beq_eq_true hb
      subst this
      exact ⟨_, st1, h1.block_exit, h2⟩
    | false =>
      rw [hb] at h2
      exact ⟨_, st1, h1.block_pass hb, h2⟩
  | _ => exact ⟨_, st1, h1.block (by simp), h2⟩
/-- a round of a loop -/
theorem WP.loop (h : WP D a st (onward D (.loop a) Q)) : WP D (.loop a) st Q := by
  obtain ⟨ex, st1, h1, h2⟩ := h
  cases ex with
  | nrm => obtain ⟨ex, st2, h3, h4⟩ := h2; exact ⟨ex, st2, h1.loop h3, h4⟩
  | _ => exact ⟨_, st1, h1.loop_stop (by simp), h2⟩
/-- in a scope -/
def inside (D : OCtx) (c : ACode) (Q : Ex → StT → Prop) : Ex → StT → Prop
  | .goto l, st => match findLabel c l with
    | some rest => WP D (.inscope rest c) st Q
    | none => False
  | ex, st => Q ex st
theorem WP.inscope (h : WP D a st (inside D c Q)) : WP D (.inscope a c) st Q := by
  obtain ⟨ex, st1, h1, h2⟩ := h
  cases ex with
  | goto l =>
    simp only [inside] at h2
    split at h2
    · rename_i rest hr
      obtain ⟨ex, st2, h3, h4⟩ := h2
      exact ⟨ex, st2, h1.inscope_goto hr h3, h4⟩
    · exact h2.elim
  | _ => exact ⟨_, st1, h1.inscope (by simp), h2⟩
theorem WP.scope (h : WP D (.inscope a a) st Q) : WP D (.scope a) st Q := by
  obtain ⟨ex, st', h1, h2⟩ := h; exact ⟨ex, st', h1.scope, h2⟩
theorem WP.region {l : List Step} (h : WPs D l st (Q .nrm)) : WP D (.region l) st Q := by
  obtain ⟨st', h1, h2⟩ := h; exact ⟨.nrm, st', Runs.region h1 (by simp), h2⟩

theorem WPs.nil (h : K st) : WPs D [] st K := ⟨st, StepsR.nil, h⟩
theorem WPs.near {op : AOp} {d : Option Nat} {l : List Step} {h' : Heap} {v : V} (he : opF op (evT st.fr) st.h = some (v, h')) (hf : op.far = false) (hr : op.isRecover = false) (h2 : WPs D l ⟨putT st.fr d v, st.ds, h'⟩ K) : WPs D (⟨d, op, none, []⟩ :: l) st K := by
  obtain ⟨st', h1, h3⟩ := h2
  exact ⟨st', StepsR.near hf hr he h1, h3⟩
theorem WPs.call {f : Nat} {xs : List Opd} {d : Option Nat} {l : List Step} {C : V → Heap → Prop} (he : CallW D f (xs.map (evT st.fr)) st.h C) (h2 : ∀ v h', C v h' → WPs D l ⟨putT st.fr d v, st.ds, h'⟩ K) : WPs D (⟨d, .call f xs, none, []⟩ :: l) st K := by
  obtain ⟨v, h', hc, hq⟩ := he
  obtain ⟨st', h1, h3⟩ := h2 v h' hq
  exact ⟨st', StepsR.call hc h1, h3⟩
theorem WPs.guarded {t : Nat} {b : Bool} {op : AOp} {d : Option Nat} {l : List Step} (hg : getT st.fr t = .bool b) (h2 : WPs D (⟨d, op, none, []⟩ :: l) st K) : WPs D (⟨d, op, some (t, b), []⟩ :: l) st K := by
  obtain ⟨st', h1, h3⟩ := h2
  exact ⟨st', StepsR.guarded hg h1, h3⟩
theorem WPs.passed {t : Nat} {b : Bool} {op : AOp} {d : Option Nat} {l : List Step} (hg : getT st.fr t = .bool (!b)) (h2 : WPs D l ⟨putT st.fr d (.tup []), st.ds, st.h⟩ K) : WPs D (⟨d, op, some (t, b), []⟩ :: l) st K := by
  obtain ⟨st', h1, h3⟩ := h2
  exact ⟨st', StepsR.passed hg h1, h3⟩

/-- a call of a function whose blocks are let be -/
theorem CallW.body {f : Nat} {o : OFunc} {args : List V} {h : Heap} {C : V → Heap → Prop} (ho : D.orc f = none) (hc : D.code f = some o) (ht : D.tidy f = false) (hn : Nat.beq (lenL args) o.np = true)
    (h1 : WP D o.body ⟨frameA o.dep args, [], h⟩ fun ex st1 => (ex = .nrm ∨ ex = .ret) ∧ st1.ds = [] ∧ ∃ v, (resultsT st1.h (getT st1.fr) o.results).map oneOr = some v ∧ C v st1.h) : CallW D f args h C := by
  obtain ⟨ex, st1, hr, hx, hd, v, hv, hq⟩ := h1
  exact ⟨v, st1.h, CallR.body ho hc ht hn hx hr hd hv, hq⟩
theorem CallW.of {f : Nat} {args : List V} {h h' : Heap} {v : V} (e : CallR D f args h (.ret v) h') : CallW D f args h fun u g => u = v ∧ g = h' := ⟨v, h', e, rfl, rfl⟩
end
end Go.Ab

namespace Go.Ab

/-- what is known of a frame -/
abbrev Kn := List (Nat × V)
def Kn.get : Kn → Nat → Option V
  | [], _ => none
  | (i, v) :: r, n => bif Nat.beq i n then some v else Kn.get r n
def kput (m : Kn) (d : Option Nat) (v : V) : Kn :=
  match d with
  | some i => (i, v) :: m
  | none => m
def kop (m : Kn) : Opd → Option Opd
  | .t n => (m.get n).map .v
  | .v x => some (.v x)
def vev : Opd → V
  | .t _ => .undef
  | .v x => x

/-- what an operation answers -/
structure Does (o : AOp) (h : Heap) (v : V) (h' : Heap) : Prop where
  eq : opF o vev h = some (v, h')

structure Has (fr : Fr) (cap : Nat) (m : Kn) : Prop where
  size : fr.cap = cap
  kn : ∀ i v, m.get i = some v → i < cap ∧ getT fr i = v

def Sup (m : Kn) : Kn → Prop
  | [] => True
  | (i, v) :: r => m.get i = some v ∧ Sup m r

theorem get_cons (i : Nat) (v : V) (r : Kn) (n : Nat) : Kn.get ((i, v) :: r) n = if i = n then some v else Kn.get r n := by
  simp only [Kn.get, beq_dec]
  by_cases h : i = n <;> simp [h]
def dOk (cap : Nat) : Option Nat → Bool
  | none => true
  | some i => Nat.blt i cap

theorem Has.put {fr : Fr} {cap : Nat} {m : Kn} (h : Has fr cap m) {d : Option Nat} (hd : dOk cap d = true) (v : V) : Has (putT fr d v) cap (kput m d v) := by
  refine ⟨(putT_cap ..).trans h.size, fun i u e => ?_⟩
  cases d with
  | none => exact h.kn i u e
  | some j =>
    have hj : j < cap := by simpa [dOk, Nat.blt_eq] using hd
    simp only [kput, get_cons] at e
    by_cases hij : j = i
    · subst hij
      simp only [if_true] at e
      cases e
      exact ⟨hj, getT_same ..⟩
    · simp only [hij, if_false] at e
      obtain ⟨h1, h2⟩ := h.kn i u e
      exact ⟨h1, (getT_ne fr (by rw [h.size]; exact hj) (by rw [h.size]; exact h1) (Ne.symm hij) v).trans h2⟩

theorem Has.opd {fr : Fr} {cap : Nat} {m : Kn} (h : Has fr cap m) {o o' : Opd} (e : kop m o = some o') : vev o' = evT fr o := by
  cases o with
  | t n =>
    simp only [kop] at e
    obtain ⟨v, h1, rfl⟩ := map_some e
    exact (h.kn n v h1).2.symm
  | v x => cases e; rfl

theorem Has.op {fr : Fr} {cap : Nat} {m : Kn} (h : Has fr cap m) (hp : Heap) {o o' : AOp} (e : mapO (kop m) o = some o') : opF o' vev hp = opF o (evT fr) hp :=
  opF_map (g := kop m) (e := evT fr) (e' := vev) (fun _ _ hx => h.opd hx) hp e

theorem Has.sup {fr : Fr} {cap : Nat} {m m' : Kn} (h : Has fr cap m) (hs : Sup m m') : Has fr cap m' := by
  refine ⟨h.size, fun i v e => ?_⟩
  suffices hq : m.get i = some v from h.kn i v hq
  clear h
  induction m' with
  | nil => cases e
  | cons p r ih =>
    obtain ⟨j, u⟩ := p
    rw [get_cons] at e
    by_cases hj : j = i
    · subst hj
      simp only [if_true] at e
      cases e
      exact hs.1
    · simp only [hj, if_false] at e
      exact ih hs.2 e

theorem Has.args {fr : Fr} {cap : Nat} {m : Kn} (h : Has fr cap m) {xs xs' : List Opd} (e : gL (kop m) xs = some xs') : xs.map (evT fr) = xs'.map vev :=
  (gL_map (g := kop m) (e := evT fr) (e' := vev) (fun _ _ hx => h.opd hx) e).symm

section
variable (D : OCtx) (cap : Nat)

def W (c : ACode) (m : Kn) (h : Heap) (Q : Ex → Kn → Heap → Prop) : Prop :=
  ∀ fr, Has fr cap m → WP D c ⟨fr, [], h⟩ fun ex st => st.ds = [] ∧ ∃ m', Has st.fr cap m' ∧ Q ex m' st.h
def WS (l : List Step) (m : Kn) (h : Heap) (K : Kn → Heap → Prop) : Prop :=
  ∀ fr, Has fr cap m → WPs D l ⟨fr, [], h⟩ fun st => st.ds = [] ∧ ∃ m', Has st.fr cap m' ∧ K m' st.h

def thenW (b : ACode) (Q : Ex → Kn → Heap → Prop) : Ex → Kn → Heap → Prop
  | .nrm, m, h => W D cap b m h Q
  | ex, m, h => Q ex m h
def blockW (i : Nat) (Q : Ex → Kn → Heap → Prop) : Ex → Kn → Heap → Prop
  | .exit j, m, h => bif Nat.beq j i then Q .nrm m h else Q (.exit j) m h
  | ex, m, h => Q ex m h
def insideW (c : ACode) (Q : Ex → Kn → Heap → Prop) : Ex → Kn → Heap → Prop
  | .goto l, m, h => match findLabel c l with
    | some rest => W D cap (.inscope rest c) m h Q
    | none => False
  | ex, m, h => Q ex m h
end
/-- behind a round of a loop -/
def again {α : Type} (E : α → Kn) (H : α → Heap) (P : α → Prop) (μ : α → Nat) (a : α) (Q : Ex → Kn → Heap → Prop) : Ex → Kn → Heap → Prop
  | .nrm, m, h => ∃ b, P b ∧ μ b < μ a ∧ Sup m (E b) ∧ h = H b
  | ex, m, h => Q ex m h

section
variable {D : OCtx} {cap : Nat} {a b c : ACode} {m m' : Kn} {h : Heap} {Q : Ex → Kn → Heap → Prop} {K : Kn → Heap → Prop}

theorem W.mono {Q' : Ex → Kn → Heap → Prop} (w : W D cap c m h Q) (hq : ∀ ex m h, Q ex m h → Q' ex m h) : W D cap c m h Q' := fun fr hf =>
  (w fr hf).mono fun _ _ ⟨h1, m', h2, h3⟩ => ⟨h1, m', h2, hq _ _ _ h3⟩
theorem W.sup (w : W D cap c m' h Q) (hs : Sup m m') : W D cap c m h Q := fun fr hf => w fr (hf.sup hs)
theorem WS.sup {l : List Step} (w : WS D cap l m' h K) (hs : Sup m m') : WS D cap l m h K := fun fr hf => w fr (hf.sup hs)

theorem W.seq (w : W D cap a m h (thenW D cap b Q)) : W D cap (.seq a b) m h Q := fun fr hf =>
  WP.seq ((w fr hf).mono fun ex st ⟨h1, m', h2, h3⟩ => by
    obtain ⟨fr', ds', h'⟩ := st
    simp only at h1
    subst h1
    cases ex with
    | nrm => exact h3 fr' h2
    | _ => exact ⟨rfl, m', h2, h3⟩)
theorem W.region {l : List Step} (w : WS D cap l m h (Q .nrm)) : W D cap (.region l) m h Q := fun fr hf => WP.region (w fr hf)
theorem W.yes {x x' : Opd} (e : kop m x = some x') (hv : vev x' = .bool true) (w : W D cap a m h Q) : W D cap (.cond x a b) m h Q := fun fr hf =>
  WP.yes (by show evT fr x = _; rw [← hf.opd e, hv]) (w fr hf)
theorem W.no {x x' : Opd} (e : kop m x = some x') (hv : vev x' = .bool false) (w : W D cap b m h Q) : W D cap (.cond x a b) m h Q := fun fr hf =>
  WP.no (by show evT fr x = _; rw [← hf.opd e, hv]) (w fr hf)
/-- a branch on a known condition -/
theorem W.fork {p : Prop} [Decidable p] {t : Nat} (e : m.get t = some (.bool (decide p))) (ht : p → W D cap a ((t, .bool true) :: m) h Q) (hf : ¬ p → W D cap b ((t, .bool false) :: m) h Q) : W D cap (.cond (.t t) a b) m h Q := fun fr hF => by
  have hg := hF.kn t _ e
  have key : ∀ u, getT fr t = u → Has fr cap ((t, u) :: m) := fun u hu => ⟨hF.size, fun i v hi => by
    rw [get_cons] at hi
    by_cases hj : t = i
    · subst hj; simp only [if_true] at hi; cases hi; exact ⟨hg.1, hu⟩
    · simp only [hj, if_false] at hi; exact hF.kn i v hi⟩
  by_cases hp : p
  · have hv : getT fr t = .bool true := hg.2.trans (by simp [hp])
    exact WP.yes hv (ht hp fr (key _ hv))
  · have hv : getT fr t = .bool false := hg.2.trans (by simp [hp])
    exact WP.no hv (hf hp fr (key _ hv))
theorem W.skip (q : Q .nrm m h) : W D cap .skip m h Q := fun _ hf => WP.skip ⟨rfl, m, hf, q⟩
theorem W.label {l : Nat} (q : Q .nrm m h) : W D cap (.label l) m h Q := fun _ hf => WP.label ⟨rfl, m, hf, q⟩
theorem W.exit {i : Nat} (q : Q (.exit i) m h) : W D cap (.exit i) m h Q := fun _ hf => WP.exit ⟨rfl, m, hf, q⟩
theorem W.goto {i : Nat} (q : Q (.goto i) m h) : W D cap (.goto i) m h Q := fun _ hf => WP.goto ⟨rfl, m, hf, q⟩
theorem W.ret (q : Q .ret m h) : W D cap .ret m h Q := fun _ hf => WP.ret ⟨rfl, m, hf, q⟩
theorem W.block {i : Nat} (w : W D cap a m h (blockW i Q)) : W D cap (.block i a) m h Q := fun fr hf =>
  WP.block ((w fr hf).mono fun ex st ⟨h1, m', h2, h3⟩ => by
    cases ex with
    | exit j =>
      simp only [within, blockW] at h3 ⊢
      cases hb : Nat.beq j i <;> (rw [hb] at h3; exact ⟨h1, m', h2, h3⟩)
    | _ => exact ⟨h1, m', h2, h3⟩)
theorem W.loop {α : Type} (E : α → Kn) (H : α → Heap) (P : α → Prop) (μ : α → Nat) (a0 : α) (hp : P a0) (hs : Sup m (E a0)) (hh : h = H a0)
    (w : ∀ a, P a → W D cap c (E a) (H a) (again E H P μ a Q)) : W D cap (.loop c) m h Q := by
  subst hh
  refine W.sup ?_ hs
  clear hs
  have key : ∀ n a, μ a = n → P a → W D cap (.loop c) (E a) (H a) Q := by
    intro n
    induction n using Nat.strongRecOn with
    | _ n ih =>
      intro a ha hp fr hf
      refine WP.loop ((w a hp fr hf).mono fun ex st ⟨h1, m', h2, h3⟩ => ?_)
      obtain ⟨fr', ds', h'⟩ := st
      simp only at h1
      subst h1
      cases ex with
      | nrm =>
        obtain ⟨b, hb, hlt, hsup, rfl⟩ := h3
        exact ih (μ b) (ha ▸ hlt) b rfl hb fr' (h2.sup hsup)
      | _ => exact ⟨rfl, m', h2, h3⟩
  exact key _ a0 rfl hp
theorem W.inscope (w : W D cap a m h (insideW D cap c Q)) : W D cap (.inscope a c) m h Q := fun fr hf =>
  WP.inscope ((w fr hf).mono fun ex st ⟨h1, m', h2, h3⟩ => by
    obtain ⟨fr', ds', h'⟩ := st
    simp only at h1
    subst h1
    cases ex with
    | goto l =>
      simp only [inside, insideW] at h3 ⊢
      cases hf : findLabel c l with
      | some rest => rw [hf] at h3; exact h3 fr' h2
      | none => rw [hf] at h3; exact h3
    | _ => exact ⟨rfl, m', h2, h3⟩)
theorem W.scope (w : W D cap (.inscope a a) m h Q) : W D cap (.scope a) m h Q := fun fr hf => WP.scope (w fr hf)
/-- a loop by jumps back to a label -/
theorem W.jumps {α : Type} (E : α → Kn) (H : α → Heap) (P : α → Prop) (μ : α → Nat) {rest : ACode} (a0 : α) (hp : P a0) (hs : Sup m (E a0)) (hh : h = H a0)
    (w : ∀ a, P a → (∀ b m' , P b → μ b < μ a → Sup m' (E b) → W D cap (.inscope rest c) m' (H b) Q) → W D cap (.inscope rest c) (E a) (H a) Q) : W D cap (.inscope rest c) m h Q := by
  subst hh
  refine W.sup ?_ hs
  clear hs
  have key : ∀ n a, μ a = n → P a → W D cap (.inscope rest c) (E a) (H a) Q := by
    intro n
    induction n using Nat.strongRecOn with
    | _ n ih => intro a ha hp; exact w a hp fun b m' hb hlt hsup => (ih (μ b) (ha ▸ hlt) b rfl hb).sup hsup
  exact key _ a0 rfl hp

theorem WS.nil (q : K m h) : WS D cap [] m h K := fun _ hf => WPs.nil ⟨rfl, m, hf, q⟩
theorem WS.near {op op' : AOp} {d : Option Nat} {l : List Step} {h' : Heap} {v : V} (e : mapO (kop m) op = some op') (he : Does op' h v h') (hx : (op.far || op.isRecover || !dOk cap d) = false) (w : WS D cap l (kput m d v) h' K) : WS D cap (⟨d, op, none, []⟩ :: l) m h K := fun fr hf => by
  simp only [Bool.or_eq_false_iff, Bool.not_eq_false'] at hx
  exact WPs.near (st := ⟨fr, [], h⟩) (by show opF op (evT fr) h = _; rw [← hf.op h e, he.eq]) hx.1.1 hx.1.2 (w _ (hf.put hx.2 v))
/-- a plain operation whose value is told apart -/
theorem WS.near' {op op' : AOp} {d : Option Nat} {l : List Step} {h' : Heap} {v u : V} (e : mapO (kop m) op = some op') (he : Does op' h v h') (hx : (op.far || op.isRecover || !dOk cap d) = false) (hu : v = u) (w : WS D cap l (kput m d u) h' K) : WS D cap (⟨d, op, none, []⟩ :: l) m h K :=
  WS.near e he hx (hu ▸ w)
theorem WS.call {f : Nat} {xs xs' : List Opd} {d : Option Nat} {l : List Step} {C : V → Heap → Prop} (e : gL (kop m) xs = some xs') (hx : dOk cap d = true) (he : CallW D f (xs'.map vev) h C) (w : ∀ v h', C v h' → WS D cap l (kput m d v) h' K) : WS D cap (⟨d, .call f xs, none, []⟩ :: l) m h K := fun fr hf =>
  WPs.call (C := C) (by show CallW D f (xs.map (evT fr)) h C; rw [hf.args e]; exact he) fun v h' hc => w v h' hc _ (hf.put hx v)

/-- a call with a plain answer: memory is as before -/
def Pu (D : OCtx) (f : Nat) (args : List V) (u : V) : Prop := ∀ h, CallW D f args h fun v h' => v = u ∧ h' = h
theorem WS.pu {f : Nat} {xs xs' : List Opd} {d : Option Nat} {l : List Step} {u : V} (e : gL (kop m) xs = some xs') (hx : dOk cap d = true) (he : Pu D f (xs'.map vev) u) (w : WS D cap l (kput m d u) h K) : WS D cap (⟨d, .call f xs, none, []⟩ :: l) m h K :=
  WS.call e hx (he h) fun v h' hc => by obtain ⟨rfl, rfl⟩ := hc; exact w

theorem WS.guardT {t : Nat} {b : Bool} {op : AOp} {d : Option Nat} {l : List Step} (e : m.get t = some (.bool b)) (w : WS D cap (⟨d, op, none, []⟩ :: l) m h K) : WS D cap (⟨d, op, some (t, b), []⟩ :: l) m h K := fun fr hf =>
  WPs.guarded (hf.kn t _ e).2 (w fr hf)
theorem WS.guardF {t : Nat} {b b' : Bool} {op : AOp} {d : Option Nat} {l : List Step} (e : m.get t = some (.bool b')) (hb : b' = !b) (hx : dOk cap d = true) (w : WS D cap l (kput m d (.tup [])) h K) : WS D cap (⟨d, op, some (t, b), []⟩ :: l) m h K := fun fr hf =>
  WPs.passed (by show getT fr t = _; rw [(hf.kn t _ e).2, hb]) (w _ (hf.put hx _))
theorem StepsR.missed {st st2 : StT} {ex : Ex} {t : Nat} {b : Bool} {vs : List V} {op : AOp} {d : Option Nat} {l : List Step} (hg : getT st.fr t = .tup vs) (h2 : StepsR D l ⟨putT st.fr d (.tup []), st.ds, st.h⟩ ex st2) : StepsR D (⟨d, op, some (t, b), []⟩ :: l) st ex st2 := by
  obtain ⟨n, h2⟩ := h2
  refine ⟨n, ?_⟩
  show Ab.guardT (some (t, b)) st _ (stepsT D (execT D n) l ⟨putT st.fr d (.tup []), st.ds, st.h⟩) = _
  simp only [Ab.guardT, hg]
  exact h2
theorem WS.guardV {t : Nat} {b : Bool} {vs : List V} {op : AOp} {d : Option Nat} {l : List Step} (e : m.get t = some (.tup vs)) (hx : dOk cap d = true) (w : WS D cap l (kput m d (.tup [])) h K) : WS D cap (⟨d, op, some (t, b), []⟩ :: l) m h K := fun fr hf => by
  obtain ⟨st', h1, h3⟩ := w _ (hf.put hx _)
  exact ⟨st', StepsR.missed (st := ⟨fr, [], h⟩) (hf.kn t _ e).2 h1, h3⟩
/-- a guard that may hold or not -/
theorem WS.guardK {p : Prop} [Decidable p] {t : Nat} {b : Bool} {op : AOp} {d : Option Nat} {l : List Step} (e : m.get t = some (.bool (decide p))) (ht : p → WS D cap (⟨d, op, some (t, b), []⟩ :: l) ((t, .bool true) :: m) h K)
    (hf : ¬ p → WS D cap (⟨d, op, some (t, b), []⟩ :: l) ((t, .bool false) :: m) h K) : WS D cap (⟨d, op, some (t, b), []⟩ :: l) m h K := fun fr hF => by
  have hg := hF.kn t _ e
  have key : ∀ u, getT fr t = u → Has fr cap ((t, u) :: m) := fun u hu => ⟨hF.size, fun i v hi => by
    rw [get_cons] at hi
    by_cases hj : t = i
    · subst hj; simp only [if_true] at hi; cases hi; exact ⟨hg.1, hu⟩
    · simp only [hj, if_false] at hi; exact hF.kn i v hi⟩
  by_cases hp : p
  · exact ht hp fr (key _ (hg.2.trans (by simp [hp])))
  · exact hf hp fr (key _ (hg.2.trans (by simp [hp])))
/-- what a condition tells is written down -/
theorem WS.know {p : Prop} [Decidable p] {t : Nat} {l : List Step} (e : m.get t = some (.bool (decide p))) (ht : p → WS D cap l ((t, .bool true) :: m) h K) (hf : ¬ p → WS D cap l ((t, .bool false) :: m) h K) : WS D cap l m h K := fun fr hF => by
  have hg := hF.kn t _ e
  have key : ∀ u, getT fr t = u → Has fr cap ((t, u) :: m) := fun u hu => ⟨hF.size, fun i v hi => by
    rw [get_cons] at hi
    by_cases hj : t = i
    · subst hj; simp only [if_true] at hi; cases hi; exact ⟨hg.1, hu⟩
    · simp only [hj, if_false] at hi; exact hF.kn i v hi⟩
  by_cases hp : p
  · exact ht hp fr (key _ (hg.2.trans (by simp [hp])))
  · exact hf hp fr (key _ (hg.2.trans (by simp [hp])))
theorem WS.rep {t : Nat} {u v : V} {l : List Step} (e : m.get t = some u) (hu : u = v) (w : WS D cap l ((t, v) :: m) h K) : WS D cap l m h K := fun fr hF => by
  subst hu
  have hg := hF.kn t _ e
  exact w fr ⟨hF.size, fun i v hi => by
    rw [get_cons] at hi
    by_cases hj : t = i
    · subst hj; simp only [if_true] at hi; cases hi; exact hg
    · simp only [hj, if_false] at hi; exact hF.kn i v hi⟩

/-! ### calls -/

def resK (m : Kn) (h : Heap) : List RVar → Option (List V)
  | [] => some []
  | .t n :: r => (m.get n).bind fun v => (resK m h r).map (v :: ·)
  | .cell a n isAgg :: r => (m.get a).bind fun p => ((h.at p).bind (part isAgg n)).bind fun v => (resK m h r).map (v :: ·)
theorem Has.res {fr : Fr} (hf : Has fr cap m) : ∀ {rs : List RVar} {vs : List V}, resK m h rs = some vs → resultsT h (getT fr) rs = some vs
  | [], vs, e => e
  | .t n :: r, vs, e => by
    simp only [resK] at e
    obtain ⟨v, h1, e⟩ := bind_some e
    obtain ⟨l, h2, rfl⟩ := map_some e
    simp only [resultsT, hf.res h2, (hf.kn n v h1).2, Option.map_some]
  | .cell a n g :: r, vs, e => by
    simp only [resK] at e
    obtain ⟨p, h1, e⟩ := bind_some e
    obtain ⟨v, h3, e⟩ := bind_some e
    obtain ⟨l, h2, rfl⟩ := map_some e
    simp only [resultsT, hf.res h2, (hf.kn a p h1).2, h3, Option.bind_some, Option.map_some]

/-- a function's end -/
def doneW (rs : List RVar) (C : V → Heap → Prop) : Ex → Kn → Heap → Prop
  | .nrm, m, h | .ret, m, h => ∃ vs, resK m h rs = some vs ∧ C (oneOr vs) h
  | _, _, _ => False

def argsK : Nat → List V → Kn
  | _, [] => []
  | i, v :: r => (i, v) :: argsK (i + 1) r

theorem argsK_get : ∀ (l : List V) (i j : Nat) (v : V), (argsK i l).get j = some v → ∃ k, j = i + k ∧ l[k]? = some v
  | [], _, _, _, e => by cases e
  | u :: r, i, j, v, e => by
    simp only [argsK, get_cons] at e
    by_cases h : i = j
    · simp only [h, if_true] at e; cases e; exact ⟨0, by omega, rfl⟩
    · simp only [h, if_false] at e
      obtain ⟨k, h1, h2⟩ := argsK_get r (i + 1) j v e
      exact ⟨k + 1, by omega, by simpa using h2⟩

theorem frame_has {dep : Nat} {args : List V} (hn : args.length ≤ 8) : Has (frameA dep args) (capOfD dep) (argsK 0 args) := by
  refine ⟨frameA_cap .., fun i v e => ?_⟩
  obtain ⟨k, h1, h2⟩ := argsK_get args 0 i v e
  have hk : k < args.length := by
    by_cases h : k < args.length
    · exact h
    · rw [List.getElem?_eq_none (by omega)] at h2; cases h2
  have hi : i = k := by omega
  subst hi
  have hc : 8 ≤ capOfD dep := by match dep with
    | 0 | 1 | _ + 2 => simp [capOfD]
  have hic : i < capOfD dep := by omega
  refine ⟨hic, ?_⟩
  rw [frameA_get hn hic]
  simp [List.getD, h2]

/-- a call of a function whose blocks are let be -/
theorem CallW.open {f : Nat} {o : OFunc} {args : List V} {C : V → Heap → Prop} (ho : D.orc f = none) (hc : D.code f = some o) (ht : D.tidy f = false) (hn : Nat.beq (lenL args) o.np = true) (hl : Nat.ble (lenL args) 8 = true)
    (w : W D (capOfD o.dep) o.body (argsK 0 args) h (doneW o.results C)) : CallW D f args h C :=
  CallW.body ho hc ht hn ((w _ (frame_has (by rw [lenL_eq] at hl; exact Nat.le_of_ble_eq_true hl))).mono fun ex st ⟨h1, m', h2, h3⟩ => by
    cases ex with
    | nrm => obtain ⟨vs, h4, h5⟩ := h3; exact ⟨.inl rfl, h1, _, by rw [h2.res h4]; rfl, h5⟩
    | ret => obtain ⟨vs, h4, h5⟩ := h3; exact ⟨.inr rfl, h1, _, by rw [h2.res h4]; rfl, h5⟩
    | _ => exact h3.elim)

/-- a call of a function whose blocks end with it -/
theorem CallW.shut {f : Nat} {o : OFunc} {args : List V} {C : V → Heap → Prop} (ho : D.orc f = none) (hc : D.code f = some o) (ht : D.tidy f = true) (hn : Nat.beq (lenL args) o.np = true) (hl : Nat.ble (lenL args) 8 = true)
    (w : W D (capOfD o.dep) o.body (argsK 0 args) { h with floors := h.next :: h.floors } (doneW o.results fun v h' => ∃ u, freeze h' h.next fuelF v = some u ∧ C u (h'.tidied h))) : CallW D f args h C := by
  obtain ⟨ex, st1, ⟨n, hr⟩, h1, m', h2, h3⟩ := w _ (frame_has (by rw [lenL_eq] at hl; exact Nat.le_of_ble_eq_true hl))
  obtain ⟨fr1, ds1, hp1⟩ := st1
  simp only at h1 h2 h3
  subst h1
  obtain ⟨np, dep, rs, bd⟩ := o
  have fin : ∀ vs u, resK m' hp1 rs = some vs → freeze hp1 h.next fuelF (oneOr vs) = some u → (ex = .nrm ∨ ex = .ret) → callFast D n f args h = some (.ret u, hp1.tidied h) := by
    intro vs u hv hu hx
    unfold callFast callT
    simp only [ho, hc, ht]
    simp only [bodyT, hn]
    simp only at hr
    rw [hr]
    rcases hx with rfl | rfl <;> (simp only [leaveT, endedT]; rw [h2.res hv]; simp only [Option.map_some, hu])
  cases ex with
  | nrm => obtain ⟨vs, h4, u, h5, h6⟩ := h3; exact ⟨u, _, ⟨n, fin vs u h4 h5 (.inl rfl)⟩, h6⟩
  | ret => obtain ⟨vs, h4, u, h5, h6⟩ := h3; exact ⟨u, _, ⟨n, fin vs u h4 h5 (.inr rfl)⟩, h6⟩
  | _ => exact h3.elim
theorem CallW.orc {f : Nat} {g : List V → Heap → Option (Out × Heap)} {args : List V} {h' : Heap} {v : V} {C : V → Heap → Prop} (ho : D.orc f = some g) (e : g args h = some (.ret v, h')) (q : C v h') : CallW D f args h C :=
  ⟨v, h', ⟨0, by unfold callFast callT; simp only [ho]; exact e⟩, q⟩
theorem CallW.mono {f : Nat} {args : List V} {C C' : V → Heap → Prop} (w : CallW D f args h C) (hq : ∀ v h', C v h' → C' v h') : CallW D f args h C' := by
  obtain ⟨v, h', h1, h2⟩ := w; exact ⟨v, h', h1, hq _ _ h2⟩
end
end Go.Ab

namespace Go.Ab

theorem vev_eq : vev = ev [] := funext fun o => by cases o <;> rfl
theorem op1v (o : AOp) (h : Heap) : opF o vev h = op1 [] h o := by rw [vev_eq]; exact opF_ev [] h o

theorem wrap_i64 {n : Int} (h1 : -9223372036854775808 ≤ n) (h2 : n < 9223372036854775808) : IntKind.wrap .i64 n = n := by
  have e1 : (2 : Int) ^ IntKind.bits .i64 = 18446744073709551616 := by decide
  have e2 : (2 : Int) ^ (IntKind.bits .i64 - 1) = 9223372036854775808 := by decide
  have e3 : IntKind.signed .i64 = true := rfl
  simp only [IntKind.wrap, e1, e2, e3, Bool.true_and, decide_eq_true_eq]
  split <;> omega
theorem wrap_u8 {n : Int} (h1 : 0 ≤ n) (h2 : n < 256) : IntKind.wrap .u8 n = n := by
  have e1 : (2 : Int) ^ IntKind.bits .u8 = 256 := by decide
  have e3 : IntKind.signed .u8 = false := rfl
  simp only [IntKind.wrap, e1, e3, Bool.false_and, Bool.false_eq_true, if_false]
  omega

section
variable {k : IntKind} {a b : Int} {s t : List Nat} {h : Heap}

theorem o_mov {x : V} : Does (.mov (.v x)) h x h := ⟨rfl⟩
theorem o_pickT {x y : V} : Does (.pick (.v (.bool true)) (.v x) (.v y)) h x h := ⟨rfl⟩
theorem o_pickF {x y : V} : Does (.pick (.v (.bool false)) (.v x) (.v y)) h y h := ⟨rfl⟩
theorem o_notT : Does (.un .not (.v (.bool true))) h (.bool false) h := ⟨rfl⟩
theorem o_notF : Does (.un .not (.v (.bool false))) h (.bool true) h := ⟨rfl⟩
theorem o_faddr {id off o : Nat} : Does (.faddr off (.v (.mptr id o))) h (.mptr id (o + off)) h := ⟨rfl⟩
theorem o_faddrF {cs : List V} {off : Nat} (hl : off ≤ cs.length) : Does (.faddr off (.v (.fptr cs))) h (.fptr (cs.drop off)) h := by refine ⟨?_⟩; rw [op1v]; simp [op1, ev, hl]
theorem o_s2b : Does (.s2b (.v (.str s))) h (.fsl (s.map fun (b : Nat) => V.int .u8 (b : Int)) none) h := ⟨rfl⟩
theorem o_lss : Does (.bin .lss (.v (.int k a)) (.v (.int k b))) h (.bool (decide (a < b))) h := by refine ⟨?_⟩; rw [op1v]; simp [op1, ev, bin, intBin]
theorem o_leq : Does (.bin .leq (.v (.int k a)) (.v (.int k b))) h (.bool (decide (a ≤ b))) h := by refine ⟨?_⟩; rw [op1v]; simp [op1, ev, bin, intBin]
theorem o_gtr : Does (.bin .gtr (.v (.int k a)) (.v (.int k b))) h (.bool (decide (b < a))) h := by refine ⟨?_⟩; rw [op1v]; simp [op1, ev, bin, intBin]
theorem o_geq : Does (.bin .geq (.v (.int k a)) (.v (.int k b))) h (.bool (decide (b ≤ a))) h := by refine ⟨?_⟩; rw [op1v]; simp [op1, ev, bin, intBin]
theorem o_eql : Does (.bin .eql (.v (.int k a)) (.v (.int k b))) h (.bool (decide (a = b))) h := by refine ⟨?_⟩; rw [op1v]; simp [op1, ev, bin, intBin]
theorem o_neq : Does (.bin .neq (.v (.int k a)) (.v (.int k b))) h (.bool (decide (a ≠ b))) h := by refine ⟨?_⟩; rw [op1v]; simp [op1, ev, bin, intBin]
theorem o_seql : Does (.bin .eql (.v (.str s)) (.v (.str t))) h (.bool (decide (s = t))) h := by refine ⟨?_⟩; rw [op1v]; simp [op1, ev, bin]
theorem o_seql0 : Does (.bin .eql (.v (.str s)) (.v (.str []))) h (.bool (decide (s.length = 0))) h := by
  refine ⟨?_⟩; rw [op1v]
  have : decide (s = []) = decide (s.length = 0) := decide_eq_decide.2 List.length_eq_zero_iff.symm
  simp only [op1, ev, bin, Option.map_some, this]
theorem o_sneq0 : Does (.bin .neq (.v (.str s)) (.v (.str []))) h (.bool (decide (s.length ≠ 0))) h := by
  refine ⟨?_⟩; rw [op1v]
  have : (!decide (s = [])) = decide (s.length ≠ 0) := by rw [← decide_not]; exact decide_eq_decide.2 (not_congr List.length_eq_zero_iff.symm)
  simp only [op1, ev, bin, Option.map_some, this]
theorem o_sneq : Does (.bin .neq (.v (.str s)) (.v (.str t))) h (.bool (decide (s ≠ t))) h := by refine ⟨?_⟩; rw [op1v]; simp [op1, ev, bin]
theorem o_not {p : Prop} [Decidable p] : Does (.un .not (.v (.bool (decide p)))) h (.bool (decide (¬ p))) h := by refine ⟨?_⟩; rw [op1v]; simp [op1, ev, un]
theorem o_add (h1 : -9223372036854775808 ≤ a + b) (h2 : a + b < 9223372036854775808) : Does (.bin .add (.v (.int .i64 a)) (.v (.int .i64 b))) h (.int .i64 (a + b)) h := by refine ⟨?_⟩; rw [op1v]; simp [op1, ev, bin, intBin, wrap_i64 h1 h2]
theorem o_sub (h1 : -9223372036854775808 ≤ a - b) (h2 : a - b < 9223372036854775808) : Does (.bin .sub (.v (.int .i64 a)) (.v (.int .i64 b))) h (.int .i64 (a - b)) h := by refine ⟨?_⟩; rw [op1v]; simp [op1, ev, bin, intBin, wrap_i64 h1 h2]
theorem o_mul (h1 : -9223372036854775808 ≤ a * b) (h2 : a * b < 9223372036854775808) : Does (.bin .mul (.v (.int .i64 a)) (.v (.int .i64 b))) h (.int .i64 (a * b)) h := by refine ⟨?_⟩; rw [op1v]; simp [op1, ev, bin, intBin, wrap_i64 h1 h2]
theorem o_sub8 (h1 : 0 ≤ a - b) (h2 : a - b < 256) : Does (.bin .sub (.v (.int .u8 a)) (.v (.int .u8 b))) h (.int .u8 (a - b)) h := by refine ⟨?_⟩; rw [op1v]; simp [op1, ev, bin, intBin, wrap_u8 h1 h2]
theorem o_conv (h1 : -9223372036854775808 ≤ a) (h2 : a < 9223372036854775808) : Does (.conv .i64 (.v (.int k a))) h (.int .i64 a) h := by refine ⟨?_⟩; rw [op1v]; simp [op1, ev, wrap_i64 h1 h2]
theorem o_sadd (h1 : s.length + t.length < 2 ^ 62) : Does (.bin .add (.v (.str s)) (.v (.str t))) h (.str (s ++ t)) h := by refine ⟨?_⟩; rw [op1v]; simp only [op1, ev, bin, h1, if_true]; rfl

theorem idx_ok (h1 : 0 ≤ a) : idx (.int k a) = some a.toNat := by simp [idx, h1]
theorem idx_nat {n : Nat} : idx (.int k (n : Int)) = some n := by simp [idx]

def at' (s : List Nat) (n : Nat) : Nat := s.getD n 0
theorem at_get {n : Nat} (hn : n < s.length) : s[n]? = some (at' s n) := by simp [at', List.getD, hn]

theorem o_index (n : Nat) (ha : a = n) (hn : n < s.length) : Does (.index (.v (.str s)) (.v (.int k a))) h (.int .u8 (at' s n : Nat)) h := by
  refine ⟨?_⟩
  subst ha; rw [op1v]; simp only [op1, ev, idx_nat, at_get hn, Option.map_some]
theorem o_lenS : Does (.len 0 (.v (.str s))) h (.int .i64 (s.length : Nat)) h := by refine ⟨?_⟩; rw [op1v]; rfl
theorem o_sliceS (n m : Nat) {k' : IntKind} (ha : a = n) (hb : b = m) (hn : n ≤ m) (hm : m ≤ s.length) : Does (.sliceS (.v (.str s)) (some (.v (.int k a))) (some (.v (.int k' b)))) h (.str ((s.take m).drop n)) h := by
  refine ⟨?_⟩
  subst ha hb; rw [op1v]; simp [op1, ev, optIdx, idx_nat, hn, hm]
theorem o_sliceF (n : Nat) (ha : a = n) (hn : n ≤ s.length) : Does (.sliceS (.v (.str s)) (some (.v (.int k a))) none) h (.str (s.drop n)) h := by
  refine ⟨?_⟩
  subst ha; rw [op1v]; simp [op1, ev, optIdx, idx_nat, hn]
theorem o_sliceT (n : Nat) (ha : a = n) (hn : n ≤ s.length) : Does (.sliceS (.v (.str s)) none (some (.v (.int k a)))) h (.str (s.take n)) h := by
  refine ⟨?_⟩
  subst ha; rw [op1v]; simp [op1, ev, optIdx, idx_nat, hn]
end

/-! ### blocks -/

/-- a heap in order -/
structure Heap.Fine (h : Heap) : Prop where
  len : h.bl.length = h.next
  fl : ∀ f ∈ h.floors, f ≤ h.next

/-- grown out of h0: what is below is let be -/
structure Grown (h0 h : Heap) : Prop where
  le : h0.next ≤ h.next
  drop : h.bl.drop (h.next - h0.next) = h0.bl
  floors : h.floors = h0.floors
  len : h.bl.length = h.next

theorem Heap.Fine.shut {h : Heap} (hf : h.Fine) : Heap.Fine { h with floors := h.next :: h.floors } :=
  ⟨hf.len, fun f m => by
    simp only [List.mem_cons] at m
    rcases m with rfl | m
    · exact Nat.le_refl _
    · exact hf.fl f m⟩
theorem Grown.refl {h : Heap} (hf : h.Fine) : Grown h h := ⟨Nat.le_refl _, by simp, rfl, hf.len⟩
theorem Grown.fine {h0 h : Heap} (g : Grown h0 h) (h0f : h0.Fine) : h.Fine := ⟨g.len, fun f m => by rw [g.floors] at m; exact Nat.le_trans (h0f.fl f m) g.le⟩
theorem Grown.new {h0 h : Heap} (g : Grown h0 h) (b : Blk) : Grown h0 (h.new b) := by
  refine ⟨Nat.le_trans g.le (Nat.le_succ _), ?_, g.floors, by simp [Heap.new, g.len]⟩
  have : h.next + 1 - h0.next = (h.next - h0.next) + 1 := by have := g.le; omega
  simp only [Heap.new, this, List.drop_succ_cons, g.drop]
theorem Grown.put {h0 h : Heap} (g : Grown h0 h) {id : Nat} (hi : h0.next ≤ id) (hid : id < h.next) (b : Option Blk) : Grown h0 (h.put id b) := by
  refine ⟨g.le, ?_, g.floors, by simp [Heap.put, g.len]⟩
  simp only [Heap.put]
  rw [List.drop_set_of_lt (by omega), g.drop]
theorem Grown.trans {h0 h1 h2 : Heap} (g : Grown h0 h1) (g' : Grown h1 h2) : Grown h0 h2 := by
  refine ⟨Nat.le_trans g.le g'.le, ?_, g'.floors.trans g.floors, g'.len⟩
  have : h2.next - h0.next = (h2.next - h1.next) + (h1.next - h0.next) := by have := g.le; have := g'.le; omega
  rw [this, ← List.drop_drop, g'.drop, g.drop]
theorem Grown.tidied {h0 h : Heap} (g : Grown { h0 with floors := h0.next :: h0.floors } h) : h.tidied h0 = h0 := by
  have := g.drop
  simp only at this
  simp only [Heap.tidied, this]
theorem Grown.mine {h0 h : Heap} (g : Grown h0 h) (h0f : h0.Fine) {id : Nat} (hi : h0.next ≤ id) : h.mine id = true := by
  simp only [Heap.mine, List.all_eq_true, decide_eq_true_eq, g.floors]
  exact fun f m => Nat.le_trans (h0f.fl f m) hi
theorem Grown.may {h0 h : Heap} (g : Grown h0 h) (h0f : h0.Fine) {id : Nat} (hi : h0.next ≤ id) (vs : List V) : h.mayPut id vs = true := by
  simp only [Heap.mayPut, List.all_eq_true, Bool.or_eq_true, decide_eq_true_eq, g.floors]
  exact fun f m => .inl (Nat.le_trans (h0f.fl f m) hi)

theorem cells_lt {h : Heap} {id : Nat} {l : List V} (e : h.cellsOf id = some l) : id < h.next := by
  simp only [Heap.cellsOf, Heap.get] at e
  by_cases hi : id < h.next
  · exact hi
  · simp [hi] at e
theorem cells_new {h : Heap} (l : List V) : (h.new (.cells l)).cellsOf h.next = some l := by simp [Heap.cellsOf, Heap.get, Heap.new]
theorem cells_old {h : Heap} (b : Blk) {id : Nat} (hi : id < h.next) : (h.new b).cellsOf id = h.cellsOf id := by
  have h1 : id < h.next + 1 := by omega
  have h2 : h.next + 1 - 1 - id = (h.next - 1 - id) + 1 := by omega
  simp only [Heap.cellsOf, Heap.get, Heap.new, h1, hi, if_true, h2, List.getElem?_cons_succ]
theorem cells_put {h : Heap} {id : Nat} (l : List V) (hi : id < h.next) (hl : h.bl.length = h.next) : (h.put id (some (.cells l))).cellsOf id = some l := by
  have : h.next - 1 - id < h.bl.length := by omega
  simp [Heap.cellsOf, Heap.get, Heap.put, hi, this]
theorem cells_far {h : Heap} {id j : Nat} (b : Option Blk) (hj : j ≠ id) (hi : id < h.next) : (h.put id b).cellsOf j = h.cellsOf j := by
  by_cases hjn : j < h.next
  · have : h.next - 1 - id ≠ h.next - 1 - j := by omega
    simp only [Heap.cellsOf, Heap.get, Heap.put, hjn, if_true, List.getElem?_set_ne this]
  · simp only [Heap.cellsOf, Heap.get, Heap.put, hjn, if_false]
theorem put_next (h : Heap) (id : Nat) (b : Option Blk) : (h.put id b).next = h.next := rfl
theorem new_next (h : Heap) (b : Blk) : (h.new b).next = h.next + 1 := rfl

section
variable {h : Heap} {id off n : Nat} {l : List V}

theorem o_alloc (z : List V) : Does (.alloc z) h (.mptr h.next 0) (h.new (.cells z)) := ⟨rfl⟩
theorem o_load1 {v : V} {r : List V} (e : h.cellsOf id = some l) (hd : l.drop off = v :: r) : Does (.load 1 false (.v (.mptr id off))) h v h := by
  refine ⟨?_⟩
  rw [op1v]; simp [op1, ev, Heap.at, e, hd, part]
theorem o_loadN (e : h.cellsOf id = some l) (hn : off + n ≤ l.length) : Does (.load n true (.v (.mptr id off))) h (.agg ((l.drop off).take n)) h := by
  refine ⟨?_⟩
  rw [op1v]
  have : ¬ l.length - off < n := by omega
  simp [op1, ev, Heap.at, e, part, this]
theorem o_store {x : V} (e : h.cellsOf id = some l) (hx : x.cells.length = n) (hn : off + n ≤ l.length) (hm : h.mayPut id x.cells = true) :
    Does (.store n (.v (.mptr id off)) (.v x)) h .undef (h.put id (some (.cells (l.take off ++ x.cells ++ l.drop (off + n))))) := by
  refine ⟨?_⟩
  rw [op1v]; simp [op1, ev, e, hx, hn, hm]
/-- an element of a frozen slice -/
theorem o_iaddrF {es : List V} {cap : Option Nat} {k : IntKind} {a : Int} {sz : Nat} {v : V} (ha : a = n) (hv : es[n]? = some v) (hz : v.cells.length = sz) : Does (.iaddr sz (.v (.fsl es cap)) (.v (.int k a))) h (.fptr v.cells) h := by
  refine ⟨?_⟩
  subst ha; rw [op1v]; simp [op1, ev, idx_nat, hv, hz]
theorem o_iaddrM {cap : Option Nat} {k : IntKind} {a : Int} {sz len : Nat} (ha : a = n) (hn : n < len) : Does (.iaddr sz (.v (.msl id sz off len cap)) (.v (.int k a))) h (.mptr id ((off + n) * sz)) h := by
  refine ⟨?_⟩
  subst ha; rw [op1v]; simp [op1, ev, idx_nat, hn]
theorem o_lenF {es : List V} {cap : Option Nat} : Does (.len 1 (.v (.fsl es cap))) h (.int .i64 (es.length : Nat)) h := by refine ⟨?_⟩; rw [op1v]; rfl
theorem o_lenB {s : List Nat} {cap : Option Nat} : Does (.len 1 (.v (.fsl (s.map fun (b : Nat) => V.int .u8 (b : Int)) cap))) h (.int .i64 (s.length : Nat)) h := by refine ⟨?_⟩; rw [op1v]; simp [op1, ev, lenOf]
theorem o_iaddrB {s : List Nat} {cap : Option Nat} {k : IntKind} {a : Int} (n : Nat) (ha : a = n) (hn : n < s.length) : Does (.iaddr 1 (.v (.fsl (s.map fun (b : Nat) => V.int .u8 (b : Int)) cap)) (.v (.int k a))) h (.fptr [.int .u8 (at' s n : Nat)]) h :=
  o_iaddrF (v := .int .u8 (at' s n : Nat)) ha (by rw [List.getElem?_map, at_get hn]; rfl) rfl
theorem o_loadF {v : V} {r : List V} : Does (.load 1 false (.v (.fptr (v :: r)))) h v h := by refine ⟨?_⟩; rw [op1v]; simp [op1, ev, Heap.at, part]
end

end Go.Ab

namespace Go.Ab

/-- a heap with new blocks, the oldest first; none: given up -/
def hp (h0 : Heap) (bs : List (Option (List V))) : Heap := { next := h0.next + bs.length, floors := h0.floors, bl := (bs.map fun c => c.map Blk.cells).reverse ++ h0.bl }
def bget : List (Option (List V)) → Nat → Option (List V)
  | [], _ => none
  | b :: _, 0 => b
  | _ :: r, k + 1 => bget r k
def splice (l : List V) (off n : Nat) (cs : List V) : List V := l.take off ++ cs ++ l.drop (off + n)
def bset : List (Option (List V)) → Nat → Option (List V) → List (Option (List V))
  | [], _, _ => []
  | _ :: r, 0, c => c :: r
  | b :: r, k + 1, c => b :: bset r k c
def bput (bs : List (Option (List V))) (k off n : Nat) (cs : List V) : List (Option (List V)) := bset bs k ((bget bs k).map fun l => splice l off n cs)
def badd : List (Option (List V)) → List V → List (Option (List V))
  | [], c => [some c]
  | b :: r, c => b :: badd r c
def hload (bs : List (Option (List V))) (k off : Nat) : Option V := (bget bs k).bind fun l => (l.drop off).head?

theorem bget_eq : ∀ (bs : List (Option (List V))) (k : Nat), bget bs k = bs[k]?.join
  | [], _ => rfl
  | _ :: _, 0 => rfl
  | _ :: r, k + 1 => by simp only [bget, bget_eq r k, List.getElem?_cons_succ]
theorem badd_eq : ∀ (bs : List (Option (List V))) (c : List V), badd bs c = bs ++ [some c]
  | [], _ => rfl
  | b :: r, c => by simp only [badd, badd_eq r c, List.cons_append]
theorem bset_eq : ∀ (bs : List (Option (List V))) (k : Nat) (c : Option (List V)), bset bs k c = bs.set k c
  | [], _, _ => rfl
  | _ :: _, 0, _ => rfl
  | b :: r, k + 1, c => by simp only [bset, bset_eq r k c, List.set_cons_succ]
theorem bput_eq {bs : List (Option (List V))} {k off n : Nat} {cs l : List V} (e : bget bs k = some l) : bput bs k off n cs = bs.set k (some (splice l off n cs)) := by
  simp only [bput, bset_eq, e, Option.map_some]
theorem bget_lt {bs : List (Option (List V))} {k : Nat} {l : List V} (e : bget bs k = some l) : k < bs.length := by
  rcases Nat.lt_or_ge k bs.length with h | h
  · exact h
  · rw [bget_eq, List.getElem?_eq_none h] at e; cases e

theorem hp_nil {h0 : Heap} : hp h0 [] = h0 := by simp [hp]
theorem hp_new (h0 : Heap) (bs : List (Option (List V))) (c : List V) : (hp h0 bs).new (.cells c) = hp h0 (badd bs c) := by
  simp [hp, Heap.new, badd_eq, Nat.add_assoc]
theorem hp_cells (h0 : Heap) (bs : List (Option (List V))) (k : Nat) : (hp h0 bs).cellsOf (h0.next + k) = bget bs k := by
  rw [bget_eq]
  simp only [Heap.cellsOf, Heap.get, hp]
  by_cases hk : k < bs.length
  · have h1 : h0.next + k < h0.next + bs.length := by omega
    have h2 : h0.next + bs.length - 1 - (h0.next + k) = bs.length - 1 - k := by omega
    have h3 : bs.length - 1 - k < (List.map (fun c => Option.map Blk.cells c) bs).reverse.length := by simp; omega
    simp only [h1, if_true]
    rw [h2, List.getElem?_append_left h3, List.getElem?_reverse (by simp; omega)]
    have h4 : (List.map (fun c => Option.map Blk.cells c) bs).length - 1 - (bs.length - 1 - k) = k := by simp; omega
    rw [h4, List.getElem?_map]
    cases hb : bs[k]? with
    | none => rfl
    | some o => cases o <;> rfl
  · have h1 : ¬ h0.next + k < h0.next + bs.length := by omega
    simp only [h1, if_false]
    rw [List.getElem?_eq_none (by omega)]
    rfl
theorem hp_set (h0 : Heap) {bs : List (Option (List V))} {k : Nat} (hk : k < bs.length) (c : Option (List V)) : (hp h0 bs).put (h0.next + k) (c.map .cells) = hp h0 (bset bs k c) := by
  rw [bset_eq]
  simp only [hp, Heap.put, List.length_set, Heap.mk.injEq, true_and]
  have h2 : h0.next + bs.length - 1 - (h0.next + k) = bs.length - 1 - k := by omega
  rw [h2, List.set_append_left _ _ (by simp; omega), List.map_set]
  congr 1
  have key : ∀ (L : List (Option Blk)) (j : Nat) (x : Option Blk), j < L.length → L.reverse.set (L.length - 1 - j) x = (L.set j x).reverse := fun L j x hj => by
    apply List.ext_getElem?
    intro i
    rw [List.getElem?_set]
    by_cases hi : i < L.length
    · have e1 : (L.set j x).reverse[i]? = (L.set j x)[L.length - 1 - i]? := by rw [List.getElem?_reverse (by simpa using hi), List.length_set]
      rw [e1, List.getElem?_set, List.getElem?_reverse hi]
      by_cases h3 : L.length - 1 - j = i
      · have h4 : j = L.length - 1 - i := by omega
        have h6 : L.length - 1 - j < L.reverse.length := by simp; omega
        rw [if_pos h3, if_pos h6, if_pos h4, if_pos hj]
      · have h4 : ¬ j = L.length - 1 - i := by omega
        simp only [h3, if_false, h4]
    · have h5 : ¬ L.length - 1 - j = i := by omega
      simp only [h5, if_false]
      rw [List.getElem?_eq_none (by simpa using hi), List.getElem?_eq_none (by simpa using hi)]
  have := key (bs.map fun c => c.map Blk.cells) k (c.map .cells) (by simpa using hk)
  simpa using this
theorem hp_put {h0 : Heap} {bs : List (Option (List V))} {k off n : Nat} {l cs : List V} (e : bget bs k = some l) : (hp h0 bs).put (h0.next + k) (some (.cells (splice l off n cs))) = hp h0 (bput bs k off n cs) := by
  rw [bput_eq e, ← bset_eq, ← hp_set h0 (bget_lt e)]
  rfl
theorem hp_fine {h0 : Heap} (hf : h0.Fine) {bs : List (Option (List V))} : (hp h0 bs).Fine :=
  ⟨by simp [hp, hf.len]; omega, fun f m => Nat.le_trans (hf.fl f m) (Nat.le_add_right _ _)⟩
theorem hp_may {h0 : Heap} (hf : h0.Fine) {bs : List (Option (List V))} (k : Nat) (vs : List V) : (hp h0 bs).mayPut (h0.next + k) vs = true := by
  simp only [Heap.mayPut, List.all_eq_true, Bool.or_eq_true, decide_eq_true_eq]
  exact fun f m => .inl (Nat.le_trans (hf.fl f m) (Nat.le_add_right _ _))
theorem hp_tidied (h : Heap) (bs : List (Option (List V))) : (hp { h with floors := h.next :: h.floors } bs).tidied h = h := by
  simp [Heap.tidied, hp]

theorem o_seqlR {s : List Nat} {h : Heap} : Does (.bin .eql (.v (.str s)) (.v (.str s))) h (.bool true) h := by refine ⟨?_⟩; rw [op1v]; simp [op1, ev, bin]
theorem ceq0 : bin .eql (.cpx .f64 0 0) (.cpx .f64 0 0) = some (.bool true) := by kernel_rfl
theorem o_ceq0 {h : Heap} : Does (.bin .eql (.v (.cpx .f64 0 0)) (.v (.cpx .f64 0 0))) h (.bool true) h := by refine ⟨?_⟩; rw [op1v]; simp only [op1, ev, ceq0, Option.map_some]

theorem o_binB {neg a b : Bool} {h : Heap} : Does (.binB neg (.v (.bool a)) (.v (.bool b))) h (.bool ((a == b) != neg)) h := ⟨rfl⟩
theorem o_build {z cs : List V} {ps : List (Nat × Nat × Opd)} {h : Heap} (e : fill z (ps.map fun p => (p.1, p.2.1, vev p.2.2)) = some cs) : Does (.build z ps) h (.agg cs) h :=
  ⟨by show (fill z (ps.map fun p => (p.1, p.2.1, vev p.2.2))).map (fun cs => (V.agg cs, h)) = _; rw [e]; rfl⟩

section
variable {h0 : Heap} {bs : List (Option (List V))} {off n : Nat} {l : List V}

theorem o_allocH (k : Nat) (hk : Nat.beq (lenL bs) k = true) {z : List V} : Does (.alloc z) (hp h0 bs) (.mptr (h0.next + k) 0) (hp h0 (badd bs z)) := by
  have := Nat.eq_of_beq_eq_true hk
  rw [lenL_eq] at this
  subst this
  exact ⟨by rw [← hp_new]; rfl⟩
theorem o_boxH (k : Nat) (hk : Nat.beq (lenL bs) k = true) {x : V} : Does (.box (.v x)) (hp h0 bs) (.mptr (h0.next + k) 0) (hp h0 (badd bs x.cells)) := by
  have := Nat.eq_of_beq_eq_true hk
  rw [lenL_eq] at this
  subst this
  exact ⟨by rw [← hp_new]; rfl⟩
theorem o_loadH {k : Nat} {v : V} (e : hload bs k off = some v) : Does (.load 1 false (.v (.mptr (h0.next + k) off))) (hp h0 bs) v (hp h0 bs) := by
  obtain ⟨l, h1, h2⟩ := bind_some e
  cases hd : l.drop off with
  | nil => rw [hd] at h2; cases h2
  | cons a r =>
    rw [hd] at h2
    cases h2
    exact o_load1 ((hp_cells ..).trans h1) hd
theorem o_loadHN {k : Nat} (e : bget bs k = some l) (hn : Nat.ble (off + n) (lenL l) = true) : Does (.load n true (.v (.mptr (h0.next + k) off))) (hp h0 bs) (.agg ((l.drop off).take n)) (hp h0 bs) :=
  o_loadN ((hp_cells ..).trans e) (by rw [lenL_eq] at hn; exact Nat.le_of_ble_eq_true hn)
theorem o_storeH {k : Nat} {x : V} (hf : h0.Fine) (e : bget bs k = some l) (hx : (Nat.beq (lenL x.cells) n && Nat.ble (off + n) (lenL l)) = true) :
    Does (.store n (.v (.mptr (h0.next + k) off)) (.v x)) (hp h0 bs) .undef (hp h0 (bput bs k off n x.cells)) := by
  simp only [lenL_eq, Bool.and_eq_true] at hx
  rw [← hp_put e]
  exact o_store ((hp_cells ..).trans e) (Nat.eq_of_beq_eq_true hx.1) (Nat.le_of_ble_eq_true hx.2) (hp_may hf k _)
end

/-- a call with a plain answer: memory is as before -/
def PuF (D : OCtx) (f : Nat) (args : List V) (u : V) : Prop := ∀ h : Heap, h.Fine → CallW D f args h fun v h' => v = u ∧ h' = h

section
variable {D : OCtx} {cap : Nat} {m : Kn} {K : Kn → Heap → Prop} {h0 : Heap} {bs : List (Option (List V))}
theorem WS.puF (hf : h0.Fine) {f : Nat} {xs xs' : List Opd} {d : Option Nat} {l : List Step} {u : V} (e : gL (kop m) xs = some xs') (hx : dOk cap d = true) (he : PuF D f (xs'.map vev) u) (w : WS D cap l (kput m d u) (hp h0 bs) K) : WS D cap (⟨d, .call f xs, none, []⟩ :: l) m (hp h0 bs) K :=
  WS.call e hx (he _ (hp_fine hf)) fun v h' hc => by obtain ⟨rfl, rfl⟩ := hc; exact w

/-- ways that meet again -/
theorem W.meet {α : Type} (E : α → Kn) (H : α → Heap) (P : α → Prop) {a b : ACode} {h : Heap} {Q : Ex → Kn → Heap → Prop} (w1 : W D cap a m h fun ex m' h' => ex = .nrm ∧ ∃ x, P x ∧ Sup m' (E x) ∧ h' = H x) (w2 : ∀ x, P x → W D cap b (E x) (H x) Q) : W D cap (.seq a b) m h Q :=
  W.seq (w1.mono fun ex m' h' ⟨e, x, hp, hs, e2⟩ => by
    subst e; subst e2
    exact (w2 x hp).sup hs)
/-- the end of a call whose blocks end with it -/
def fin (h1 : Heap) (u : V) (v : V) (h' : Heap) : Prop := ∃ bs, h' = hp h1 bs ∧ freeze h' h1.next fuelF v = some u
theorem PuF.tidy {f : Nat} {o : OFunc} {args : List V} {u : V} (ho : D.orc f = none) (hc : D.code f = some o) (ht : D.tidy f = true) (hn : Nat.beq (lenL args) o.np = true) (hl : Nat.ble (lenL args) 8 = true)
    (w : ∀ h1 : Heap, h1.Fine → W D (capOfD o.dep) o.body (argsK 0 args) (hp h1 []) (doneW o.results (fin h1 u))) : PuF D f args u := fun h hF => by
  refine CallW.shut ho hc ht hn hl ?_
  have w1 := w _ hF.shut
  rw [hp_nil] at w1
  refine w1.mono fun ex m' h' q => ?_
  cases ex with
  | nrm => obtain ⟨vs, h4, bs, rfl, h5⟩ := q; exact ⟨vs, h4, u, h5, rfl, hp_tidied ..⟩
  | ret => obtain ⟨vs, h4, bs, rfl, h5⟩ := q; exact ⟨vs, h4, u, h5, rfl, hp_tidied ..⟩
  | _ => exact q
theorem PuF.orc {f : Nat} {g : List V → Heap → Option (Out × Heap)} {args : List V} {u : V} (ho : D.orc f = some g) (e : ∀ h, g args h = some (.ret u, h)) : PuF D f args u := fun h _ => CallW.orc ho (e h) ⟨rfl, rfl⟩
/-- a plain answer -/
theorem fin_bool {h1 : Heap} {bs : List (Option (List V))} {b c : Bool} (e : b = c) : fin h1 (.bool c) (.bool b) (hp h1 bs) := ⟨bs, rfl, by rw [e]; rfl⟩
theorem fin_int {h1 : Heap} {bs : List (Option (List V))} {k : IntKind} {a b : Int} (e : a = b) : fin h1 (.int k b) (.int k a) (hp h1 bs) := ⟨bs, rfl, by rw [e]; rfl⟩
theorem fin_str {h1 : Heap} {bs : List (Option (List V))} {a b : List Nat} (e : a = b) : fin h1 (.str b) (.str a) (hp h1 bs) := ⟨bs, rfl, by rw [e]; rfl⟩
end
end Go.Ab

namespace Go.Ab

/-- the functions in dom answer as the table says -/
def factsOrc (dom : Nat → Bool) (tbl : Nat → List V → Option V) (f : Nat) : Option (List V → Heap → Option (Out × Heap)) :=
  match dom f with
  | true => some fun a h => match tbl f a with
    | some u => some (.ret u, h)
    | none => none
  | false => none

/-- what the table says is so -/
def FactsOk (C : Ctx) (tbl : Nat → List V → Option V) : Prop := ∀ f a u, tbl f a = some u → V.lows 0 a = true ∧ V.low 0 u = true ∧ ∃ n h1, call C n f a Heap.empty = some (.ret u, h1)

theorem facts_ok {P : Program} {G : Nat → Option V} {C : Ctx} (hK : CodeOk P G C) (hG0 : ∀ g v, G g = some v → V.low 0 v = true) {dom : Nat → Bool} {tbl : Nat → List V → Option V} (ht : FactsOk C tbl) :
    ∀ f g, factsOrc dom tbl f = some g → CallsOk P G (fun f' args h => if f' = f then g args h else none) := by
  intro f g hg f' args h out h' e
  unfold factsOrc at hg
  split at hg
  · cases hg
    simp only at e
    by_cases hff : f' = f
    · rw [if_pos hff] at e
      subst hff
      split at e
      · rename_i u hu
        cases e
        obtain ⟨hla, hlu, n, h1, e0⟩ := ht f' args u hu
        obtain ⟨hfn, hc⟩ := call_calls hK draws_ok n f' args Heap.empty _ _ e0
        refine ⟨hfn, fun w R ι xs hr hG hx => ?_⟩
        have hι0 : ∀ id, id < 0 → (fun _ : Nat => (none : Option Loc)) id = ι id := fun id hid => absurd hid (Nat.not_lt_zero _)
        refine Calls.mono (hc w R (fun _ => none) xs (start_rel' hr.lt) (fun g v hv => (hG g v hv).forget (n := 0) hι0 (hG0 g v hv))
          ⟨hx.1, fun i v x ev ex => (hx.2 i v x ev ex).forget (n := 0) hι0 (low_at hla ev)⟩) fun en w' hen => ?_
        obtain ⟨R', ι', hp, ho⟩ := hen
        have hnone : ∀ id, (Heap.empty).get id = none := fun id => by simp [Heap.get, Heap.empty]
        have hkeep : ∀ b, b < w.heap.size → w'.heap[b]? = w.heap[b]? := fun b hb => hp.keep b hb fun id blk loc e' e2 => by cases e2
        have hnew : ∀ b, R' b → R b ∨ w.heap.size ≤ b := fun b hb => by
          rcases hp.news b hb with h | h | ⟨id, blk, loc, e1, e2, _⟩
          · exact .inl h
          · exact .inr h
          · cases e2
        have hmono : ∀ {v x}, Rep w R ι v x → Rep w' R' ι v x := fun hv => hv.mono hp.sub (fun b hb => hkeep b (hr.lt b hb)) (fun _ _ h => h)
        refine ⟨R', ι, ⟨⟨hr.len, hr.none, hp.rel.lt, fun id l loc e e' => ?_, fun id es loc e e' => (hr.maps id es loc e e').move (hkeep _ (hr.blk_lt e e')) hmono, hr.inj, fun id blk loc e e' hR => ?_, hr.low, hr.floor, hr.lowM⟩, hp.sub, fun _ _ => rfl, hp.size, hp.os, hp.tape, hp.output, fun b hb _ => hkeep b hb,
          fun id blk loc e e' => .inr ⟨id, blk, loc, e, e', rfl⟩, fun _ _ _ => rfl, Nat.le_refl _, rfl, fun b hb => (hnew b hb).elim .inl fun h => .inr (.inl h)⟩, ?_⟩
        · obtain ⟨cur, t, g1, g2, g3, g4, g5⟩ := hr.cells id l loc e e'
          refine ⟨cur, t, ?_, g2, g3, g4, fun i v ev => ?_⟩
          · rw [hkeep _ (Array.getElem?_eq_some_iff.1 g1).1]; exact g1
          · obtain ⟨x, h1, h2⟩ := g5 i v ev
            exact ⟨x, h1, hmono h2⟩
        · rcases hnew _ hR with h | h
          · exact hr.apart id blk loc e e' h
          · have := hr.blk_lt e e'
            omega
        · cases en with
          | returned v => exact (show Rep w' R' ι' u v from ho).forget (n := 0) (fun id hid => absurd hid (Nat.not_lt_zero _)) hlu
          | panicked ch => exact ho.elim
          | outgrown => exact ho.elim
      · cases e
    · rw [if_neg hff] at e; cases e
  · cases hg
end Go.Ab

namespace Go.Ab

/-! ### calls that look at memory -/

/-- a call with a plain answer, where memory is as wanted -/
def PuC (D : OCtx) (f : Nat) (args : List V) (u : V) (Pre : Heap → Prop) : Prop := ∀ h : Heap, h.Fine → Pre h → CallW D f args h fun v h' => v = u ∧ h' = h

section
variable {D : OCtx} {cap : Nat} {m : Kn} {K : Kn → Heap → Prop} {h0 : Heap} {bs : List (Option (List V))} {a b c : ACode} {Q : Ex → Kn → Heap → Prop}
theorem WS.puC (hf : h0.Fine) {Pre : Heap → Prop} (hp' : Pre (hp h0 bs)) {f : Nat} {xs xs' : List Opd} {d : Option Nat} {l : List Step} {u : V} (e : gL (kop m) xs = some xs') (hx : dOk cap d = true) (he : PuC D f (xs'.map vev) u Pre) (w : WS D cap l (kput m d u) (hp h0 bs) K) :
    WS D cap (⟨d, .call f xs, none, []⟩ :: l) m (hp h0 bs) K :=
  WS.call e hx (he _ (hp_fine hf) hp') fun v h' hc => by obtain ⟨rfl, rfl⟩ := hc; exact w
theorem PuC.tidy {f : Nat} {o : OFunc} {args : List V} {u : V} {Pre : Heap → Prop} (hpre : ∀ h : Heap, Pre h → Pre { h with floors := h.next :: h.floors }) (ho : D.orc f = none) (hc : D.code f = some o) (ht : D.tidy f = true) (hn : Nat.beq (lenL args) o.np = true) (hl : Nat.ble (lenL args) 8 = true)
    (w : ∀ h1 : Heap, h1.Fine → Pre h1 → W D (capOfD o.dep) o.body (argsK 0 args) (hp h1 []) (doneW o.results (fin h1 u))) : PuC D f args u Pre := fun h hF hP => by
  refine CallW.shut ho hc ht hn hl ?_
  have w1 := w _ hF.shut (hpre h hP)
  rw [hp_nil] at w1
  refine w1.mono fun ex m' h' q => ?_
  cases ex with
  | nrm => obtain ⟨vs, h4, bs, rfl, h5⟩ := q; exact ⟨vs, h4, u, h5, rfl, hp_tidied ..⟩
  | ret => obtain ⟨vs, h4, bs, rfl, h5⟩ := q; exact ⟨vs, h4, u, h5, rfl, hp_tidied ..⟩
  | _ => exact q
theorem PuF.puC {f : Nat} {args : List V} {u : V} {Pre : Heap → Prop} (h : PuF D f args u) : PuC D f args u Pre := fun g hg _ => h g hg

theorem resK_cell {a n k off : Nat} {isAgg : Bool} {l vs : List V} {v : V} {r : List RVar} (e1 : m.get a = some (.mptr (h0.next + k) off)) (e2 : bget bs k = some l) (e3 : part isAgg n (l.drop off) = some v) (e4 : resK m (hp h0 bs) r = some vs) :
    resK m (hp h0 bs) (.cell a n isAgg :: r) = some (v :: vs) := by
  simp only [resK, e1, Option.bind_some, Heap.at, hp_cells, e2, Option.map_some, e3, e4]

/-! ### steps that look again -/

mutual
theorem beq_refl : ∀ v : V, V.beq v v = true
  | .undef | .nilsl | .esl | .nilptr | .nilfn | .nilifc | .nilmp => rfl
  | .bool b => by simp [V.beq]
  | .int _ _ | .str _ | .flt _ _ | .cpx _ _ _ | .msl _ _ _ _ _ | .mptr _ _ | .mp _ => by simp [V.beq]
  | .fsl l _ => by simp [V.beq, beqs_refl l]
  | .fptr l | .agg l | .tup l => by simp [V.beq, beqs_refl l]
  | .fn _ l r => by simp [V.beq, beqs_refl l, beqs_refl r]
  | .ifc _ v => by simp [V.beq, beq_refl v]
theorem beqs_refl : ∀ l : List V, V.beqs l l = true
  | [] => rfl
  | v :: r => by simp [V.beqs, beq_refl v, beqs_refl r]
end

/-- what was looked at is still so -/
def CkOk (m : Kn) (h : Heap) : List (Nat × Option (Nat × Bool) × AOp) → Prop
  | [] => True
  | (t, none, o) :: r => (∃ o' v h2, mapO (kop m) o = some o' ∧ Does o' h v h2 ∧ m.get t = some v) ∧ CkOk m h r
  | _ => False
theorem CkOk.checks {fr : Fr} (hf : Has fr cap m) {h : Heap} : ∀ {l : List (Nat × Option (Nat × Bool) × AOp)}, CkOk m h l → checksT (getT fr) (evT fr) h l = true
  | [], _ => rfl
  | (t, none, o) :: r, ⟨⟨o', v, h2, e1, e2, e3⟩, hr⟩ => by
    have h3 : opF o (evT fr) h = some (v, h2) := by rw [← hf.op h e1, e2.eq]
    simp only [checksT, wantedE, h3, (hf.kn t v e3).2, beq_refl, Bool.true_and]
    exact CkOk.checks hf hr
  | (_, some _, _) :: _, hr => hr.elim
theorem WS.nearC {op op' : AOp} {d : Option Nat} {l : List Step} {h h' : Heap} {v : V} {ck : Nat × Option (Nat × Bool) × AOp} {chk : List (Nat × Option (Nat × Bool) × AOp)} (e : mapO (kop m) op = some op') (he : Does op' h v h') (hx : (op.far || op.isRecover || !dOk cap d) = false)
    (hc : CkOk (kput m d v) h' (ck :: chk)) (w : WS D cap l (kput m d v) h' K) : WS D cap (⟨d, op, none, ck :: chk⟩ :: l) m h K := fun fr hf => by
  simp only [Bool.or_eq_false_iff, Bool.not_eq_false'] at hx
  have hput := hf.put hx.2 v
  obtain ⟨st', ⟨n, hn⟩, hk⟩ := w _ hput
  refine ⟨st', ⟨n, ?_⟩, hk⟩
  show doT D (execT D n) op d ⟨fr, [], h⟩ (chkT (ck :: chk) (stepsT D (execT D n) l)) = _
  rw [doT_near _ _ hx.1.1 hx.1.2]
  have h3 : opF op (evT fr) h = some (v, h') := by rw [← hf.op h e, he.eq]
  simp only [nearT, h3, force_eq]
  show Bool.rec (motive := fun _ => Option (Ex × StT)) none (stepsT D (execT D n) l ⟨putT fr d v, [], h'⟩) (checksT (getT (putT fr d v)) (evT (putT fr d v)) h' (ck :: chk)) = _
  rw [hc.checks hput]
  exact hn

/-- a loop that lets memory be -/
theorem W.loopC {α : Type} (E : α → Kn) (P : α → Prop) (μ : α → Nat) (a0 : α) {h : Heap} (hp' : P a0) (hs : Sup m (E a0)) (w : ∀ a, P a → W D cap c (E a) h (again E (fun _ => h) P μ a Q)) : W D cap (.loop c) m h Q :=
  W.loop E (fun _ => h) P μ a0 hp' hs rfl w

/-! ### jumps back -/

theorem inscope_swap {st st1 st' : StT} {ex : Ex} (hab : ∀ n r, execT D n a st1 = some r → ∃ k, execT D k b st = some r) (h : Runs D (.inscope a c) st1 ex st') : Runs D (.inscope b c) st ex st' := by
  obtain ⟨n, h⟩ := h
  cases n with
  | zero => cases h
  | succ n =>
    have h' : (match execT D n a st1 with
      | some (.goto l, st') => match findLabel c l with
        | some rest => execT D n (.inscope rest c) st'
        | none => some (.goto l, st')
      | e => e) = some (ex, st') := h
    cases hr : execT D n a st1 with
    | none => rw [hr] at h'; cases h'
    | some r =>
      rw [hr] at h'
      obtain ⟨k, hk⟩ := hab n r hr
      refine ⟨max n k + 1, ?_⟩
      show (match execT D (max n k) b st with
        | some (.goto l, st') => match findLabel c l with
          | some rest => execT D (max n k) (.inscope rest c) st'
          | none => some (.goto l, st')
        | e => e) = some (ex, st')
      rw [execT_le D (Nat.le_max_right n k) _ _ _ hk]
      obtain ⟨ex1, st1'⟩ := r
      cases ex1 with
      | goto l =>
        simp only at h' ⊢
        cases hf : findLabel c l with
        | none => rw [hf] at h'; exact h'
        | some rest => rw [hf] at h'; exact execT_le D (Nat.le_max_left n k) _ _ _ h'
      | _ => exact h'
/-- to the label for the first time -/
theorem W.first {r : List Step} {l : Nat} {h : Heap} (w : WS D cap r m h fun m' h' => W D cap (.inscope (.seq .skip b) c) m' h' Q) : W D cap (.inscope (.seq (.region r) (.seq (.label l) b)) c) m h Q := fun fr hf => by
  obtain ⟨st1, hr, hd, m', hm, hw⟩ := w fr hf
  obtain ⟨fr1, ds1, h1⟩ := st1
  simp only at hd hm hw
  subst hd
  obtain ⟨ex, st2, hrun, hq⟩ := hw fr1 hm
  refine ⟨ex, st2, inscope_swap (a := .seq .skip b) (st1 := ⟨fr1, [], h1⟩) (fun n q hq => ?_) hrun, hq⟩
  cases n with
  | zero => cases hq
  | succ n =>
    have hq' : (match execT D n .skip ⟨fr1, [], h1⟩ with
      | some (.nrm, st') => execT D n b st'
      | e => e) = some q := hq
    cases n with
    | zero => cases hq'
    | succ n =>
      have hb : execT D (n + 1) b ⟨fr1, [], h1⟩ = some q := hq'
      obtain ⟨e1, s1⟩ := q
      have hR : Runs D (.region r) ⟨fr, [], h⟩ .nrm ⟨fr1, [], h1⟩ := Runs.region hr (by simp)
      obtain ⟨k, hk⟩ := hR.seq (Runs.seq (Runs.label (l := l)) ⟨n + 1, hb⟩)
      exact ⟨k, hk⟩
/-- at a label that is come back to -/
theorem W.marked {α : Type} (E : α → Kn) (H : α → Heap) (P : α → Prop) (μ : α → Nat) (a0 : α) {l : Nat} {rest : ACode} {h : Heap} (hl : findLabel c l = some (.seq .skip rest)) (hp' : P a0) (hs : Sup m (E a0)) (hh : h = H a0)
    (w : ∀ a, P a → (∀ b m' h', P b → μ b < μ a → Sup m' (E b) → h' = H b → insideW D cap c Q (.goto l) m' h') → W D cap rest (E a) (H a) (insideW D cap c Q)) : W D cap (.label l) m h (thenW D cap rest (insideW D cap c Q)) := by
  subst hh
  have key : ∀ n a, μ a = n → P a → W D cap rest (E a) (H a) (insideW D cap c Q) := by
    intro n
    induction n using Nat.strongRecOn with
    | _ n ih =>
      intro a ha hpa
      refine w a hpa fun b m' h' hb hlt hsup hh' => ?_
      subst hh'
      simp only [insideW, hl]
      exact W.inscope (W.seq (W.skip ((ih (μ b) (ha ▸ hlt) b rfl hb).sup hsup)))
  exact W.label ((key _ a0 rfl hp').sup hs)
end

/-! ### more operations -/

section
variable {h0 h : Heap} {bs : List (Option (List V))} {s : List Nat}
theorem hp_old (bs : List (Option (List V))) {id : Nat} (hi : id < h0.next) (_ : h0.Fine) : (hp h0 bs).cellsOf id = h0.cellsOf id := by
  have h1 : id < h0.next + bs.length := by omega
  have h2 : h0.next + bs.length - 1 - id = (bs.map fun c => c.map Blk.cells).reverse.length + (h0.next - 1 - id) := by simp; omega
  simp only [Heap.cellsOf, Heap.get, hp, h1, hi, if_true]
  rw [h2, List.getElem?_append_right (by omega)]
  simp
theorem o_loadOld (hf : h0.Fine) {id off : Nat} {l r : List V} {v : V} (e : h0.cellsOf id = some l) (hd : l.drop off = v :: r) : Does (.load 1 false (.v (.mptr id off))) (hp h0 bs) v (hp h0 bs) :=
  o_load1 ((hp_old bs (cells_lt e) hf).trans e) hd
theorem o_nilchk {id off : Nat} : Does (.nilchk (.v (.mptr id off))) h (.mptr id off) h := ⟨rfl⟩
theorem o_iaddrA {id o sz len n : Nat} {k : IntKind} {a : Int} (ha : a = n) (hn : n < len) : Does (.iaddrA sz len (.v (.mptr id o)) (.v (.int k a))) h (.mptr id (o + n * sz)) h := by
  subst ha; refine ⟨?_⟩; rw [op1v]; simp [op1, ev, idx_nat, hn]
theorem o_quo {a b : Int} (h0 : 0 ≤ a) (h1 : 0 < b) (h2 : a < 9223372036854775808) : Does (.bin .quo (.v (.int .i64 a)) (.v (.int .i64 b))) h (.int .i64 (a / b)) h := by
  refine ⟨?_⟩; rw [op1v]
  have hb : ¬ b = 0 := by omega
  have hq : a.tdiv b = a / b := Int.tdiv_eq_ediv_of_nonneg h0
  have q1 : 0 ≤ a / b := Int.ediv_nonneg h0 (by omega)
  have q2 : a / b ≤ a := Int.ediv_le_self b h0
  simp only [op1, ev, bin, intBin, hb, if_false, if_true, hq, Option.map_some]
  rw [wrap_i64 (by omega) (by omega)]
theorem o_rem {a b : Int} (h0 : 0 ≤ a) (h1 : 0 < b) : Does (.bin .rem (.v (.int .i64 a)) (.v (.int .i64 b))) h (.int .i64 (a % b)) h := by
  refine ⟨?_⟩; rw [op1v]
  have hb : ¬ b = 0 := by omega
  have hq : a.tmod b = a % b := Int.tmod_eq_emod_of_nonneg h0
  simp only [op1, ev, bin, intBin, hb, if_false, if_true, hq, Option.map_some]
theorem o_extract {vs : List V} {v : V} {i : Nat} (e : vs[i]? = some v) : Does (.extract (.v (.tup vs)) i) h v h := ⟨by rw [op1v]; simp [op1, ev, e]⟩
theorem o_ixb {c : Nat} {a : Int} (ha : a = c) (hc : c < 256) : Does (.ixb (.v (.str s)) (.v (.int .u8 a))) h (.int .i64 (ixFrom c 0 s)) h := by
  subst ha
  refine ⟨?_⟩; rw [op1v]
  have h1 : (0 : Int) ≤ c ∧ (c : Int) < 256 := by omega
  simp only [op1, ev, h1, and_self, if_true, Int.toNat_natCast]

def strAt (l : List (List Nat)) (n : Nat) : List Nat := l.getD n []
theorem strAt_get {l : List (List Nat)} {n : Nat} (hn : n < l.length) : l[n]? = some (strAt l n) := by simp [strAt, List.getD, hn]
theorem o_lenL {l : List (List Nat)} {cap : Option Nat} : Does (.len 1 (.v (.fsl (l.map V.str) cap))) h (.int .i64 (l.length : Nat)) h := by refine ⟨?_⟩; rw [op1v]; simp [op1, ev, lenOf]
theorem o_iaddrL {l : List (List Nat)} {cap : Option Nat} {k : IntKind} {a : Int} (n : Nat) (ha : a = n) (hn : n < l.length) : Does (.iaddr 1 (.v (.fsl (l.map V.str) cap)) (.v (.int k a))) h (.fptr [.str (strAt l n)]) h :=
  o_iaddrF (v := .str (strAt l n)) ha (by rw [List.getElem?_map, strAt_get hn]; rfl) rfl

/-- a value whose bytes are these -/
structure Bytes (h : Heap) (v : V) (s : List Nat) : Prop where
  row : h.row 1 v = some (s.map fun (b : Nat) => V.int .u8 (b : Int))
  len : lenOf v = some s.length
  byte : ∀ b ∈ s, b < 256
  sl : v = .nilsl ∨ v = .esl ∨ (∃ es c, v = .fsl es c) ∨ ∃ id sz off len c, v = .msl id sz off len c
theorem bytesOf_map : ∀ {s : List Nat}, (∀ b ∈ s, b < 256) → bytesOf (s.map fun (b : Nat) => V.int .u8 (b : Int)) = some s
  | [], _ => rfl
  | b :: r, hb => by
    have h1 : (0 : Int) ≤ b ∧ (b : Int) < 256 := by have := hb b List.mem_cons_self; omega
    simp only [List.map_cons, bytesOf, byteOf, h1, and_self, if_true, bytesOf_map fun c hc => hb c (List.mem_cons_of_mem _ hc), Int.toNat_natCast]
theorem o_b2s {v : V} (hb : Bytes h v s) : Does (.b2s (.v v)) h (.str s) h := by
  refine ⟨?_⟩; rw [op1v]
  have hr := hb.row
  rcases hb.sl with rfl | rfl | ⟨es, c, rfl⟩ | ⟨id, sz, off, len, c, rfl⟩ <;> simp only [op1, ev, hr, bytesOf_map hb.byte, Option.map_some]
theorem o_lenY {v : V} (hb : Bytes h v s) : Does (.len 1 (.v v)) h (.int .i64 (s.length : Nat)) h := by
  refine ⟨?_⟩; rw [op1v]
  have hr := hb.len
  rcases hb.sl with rfl | rfl | ⟨es, c, rfl⟩ | ⟨id, sz, off, len, c, rfl⟩ <;> (simp only [op1, ev, hr, if_true]; rfl)
theorem Bytes.shut {v : V} (hb : Bytes h v s) : Bytes { h with floors := h.next :: h.floors } v s := ⟨hb.row, hb.len, hb.byte, hb.sl⟩
theorem cells_map : ∀ (s : List Nat), (s.map fun (b : Nat) => V.int .u8 (b : Int)).flatMap V.cells = s.map fun (b : Nat) => V.int .u8 (b : Int)
  | [] => rfl
  | b :: r => by simp only [List.map_cons, List.flatMap_cons, cells_map r]; rfl
theorem bytes_str (hs : ∀ b ∈ s, b < 256) {c : Option Nat} : Bytes h (.fsl (s.map fun (b : Nat) => V.int .u8 (b : Int)) c) s := by
  refine ⟨?_, by simp [lenOf], hs, .inr (.inr (.inl ⟨_, _, rfl⟩))⟩
  have h1 : (s.map fun (b : Nat) => V.int .u8 (b : Int)).all (fun e => decide (e.cells.length = 1)) = true := by simp [List.all_map, Function.comp_def, V.cells]
  simp only [Heap.row, h1, if_true, cells_map]
theorem bytes_nil : Bytes h .nilsl [] := ⟨rfl, rfl, (fun _ h => by cases h), .inl rfl⟩
end

section
variable {h : Heap} {s : List Nat} {k : IntKind} {a b : Int}
theorem o_sliceB (n m : Nat) {k' : IntKind} (ha : a = n) (hb : b = m) (hn : n ≤ m) (hm : m ≤ s.length) :
    Does (.slice 1 (.v (.fsl (s.map fun (b : Nat) => V.int .u8 (b : Int)) none)) (some (.v (.int k a))) (some (.v (.int k' b))) none) h (.fsl (((s.take m).drop n).map fun (b : Nat) => V.int .u8 (b : Int)) none) h := by
  subst ha hb
  refine ⟨?_⟩; rw [op1v]
  have hz : headSz 1 (s.map fun (b : Nat) => V.int .u8 (b : Int)) = true := by cases s <;> rfl
  simp [op1, ev, optIdx, idx_nat, hn, hm, hz]
theorem o_b2sB (hs : ∀ b ∈ s, b < 256) : Does (.b2s (.v (.fsl (s.map fun (b : Nat) => V.int .u8 (b : Int)) none))) h (.str s) h := o_b2s (bytes_str hs)
end

/-! ### slices that are being made -/

/-- a slice of n elements of sz cells, whose cells are row -/
def IsSl (h0 : Heap) (bs : List (Option (List V))) (sz : Nat) (v : V) (n : Nat) (row : List V) : Prop :=
  row.length = n * sz ∧ ((v = .nilsl ∧ n = 0) ∨ ∃ k l, v = .msl (h0.next + k) sz 0 n none ∧ bget bs k = some l ∧ n * sz ≤ l.length ∧ l.take (n * sz) = row)

theorem bget_badd {bs : List (Option (List V))} {c : List V} : bget (badd bs c) bs.length = some c := by rw [bget_eq, badd_eq]; simp
theorem bget_badd_lt {bs : List (Option (List V))} {c l : List V} {k : Nat} (e : bget bs k = some l) : bget (badd bs c) k = some l := by
  have hk := bget_lt e
  rw [bget_eq] at e ⊢
  rw [badd_eq, List.getElem?_append_left hk]; exact e
theorem badd_len {bs : List (Option (List V))} {c : List V} : (badd bs c).length = bs.length + 1 := by rw [badd_eq]; simp
theorem bset_len {bs : List (Option (List V))} {c : Option (List V)} {k : Nat} : (bset bs k c).length = bs.length := by rw [bset_eq]; simp
theorem bget_bset {bs : List (Option (List V))} {c : Option (List V)} {k : Nat} (hk : k < bs.length) : bget (bset bs k c) k = c := by rw [bget_eq, bset_eq]; simp [hk]
theorem bget_bset_ne {bs : List (Option (List V))} {c : Option (List V)} {k j : Nat} (hj : j ≠ k) : bget (bset bs k c) j = bget bs j := by
  rw [bget_eq, bget_eq, bset_eq, List.getElem?_set_ne (Ne.symm hj)]

theorem IsSl.nil {h0 : Heap} {bs : List (Option (List V))} {sz : Nat} : IsSl h0 bs sz .nilsl 0 [] := ⟨by simp, .inl ⟨rfl, rfl⟩⟩
theorem IsSl.badd {h0 : Heap} {bs : List (Option (List V))} {sz n : Nat} {v : V} {row c : List V} (hs : IsSl h0 bs sz v n row) : IsSl h0 (badd bs c) sz v n row := by
  obtain ⟨h1, h2 | ⟨k, l, e1, e2, e3, e4⟩⟩ := hs
  · exact ⟨h1, .inl h2⟩
  · exact ⟨h1, .inr ⟨k, l, e1, bget_badd_lt e2, e3, e4⟩⟩
theorem IsSl.len {h0 : Heap} {bs : List (Option (List V))} {sz n : Nat} {v : V} {row : List V} (hs : IsSl h0 bs sz v n row) : lenOf v = some n := by
  obtain ⟨h1, ⟨rfl, rfl⟩ | ⟨k, l, rfl, e2, e3, e4⟩⟩ := hs <;> rfl

theorem IsSl.keep {h0 : Heap} {bs bs' : List (Option (List V))} {sz n : Nat} {v : V} {row : List V} (hs : IsSl h0 bs sz v n row) (hk : ∀ k l, bget bs k = some l → bget bs' k = some l) : IsSl h0 bs' sz v n row := by
  obtain ⟨h1, h2 | ⟨k, l, e1, e2, e3, e4⟩⟩ := hs
  · exact ⟨h1, .inl h2⟩
  · exact ⟨h1, .inr ⟨k, l, e1, hk k l e2, e3, e4⟩⟩
theorem bget_bput {bs : List (Option (List V))} {k off n : Nat} {cs l : List V} (e : bget bs k = some l) : bget (bput bs k off n cs) k = some (splice l off n cs) := by
  rw [bput_eq e, ← bset_eq, bget_bset (bget_lt e)]
theorem bget_bput_ne {bs : List (Option (List V))} {k j off n : Nat} {cs : List V} (hj : j ≠ k) : bget (bput bs k off n cs) j = bget bs j := by
  unfold bput; rw [bget_bset_ne hj]
theorem bput_len {bs : List (Option (List V))} {k off n : Nat} {cs : List V} : (bput bs k off n cs).length = bs.length := by unfold bput; rw [bset_len]
theorem o_allocS {h0 : Heap} {bs : List (Option (List V))} {z : List V} : Does (.alloc z) (hp h0 bs) (.mptr (h0.next + bs.length) 0) (hp h0 (badd bs z)) := ⟨by rw [← hp_new]; rfl⟩
theorem o_litS {h0 : Heap} {bs : List (Option (List V))} {sz n : Nat} {z cs : List V} {ps : List (Nat × Nat × Opd)} (e : fill z (ps.map fun p => (p.1, p.2.1, vev p.2.2)) = some cs) : Does (.lit sz z n ps) (hp h0 bs) (.msl (h0.next + bs.length) sz 0 n none) (hp h0 (badd bs cs)) :=
  ⟨by
    show (fill z (ps.map fun p => (p.1, p.2.1, vev p.2.2))).map (fun cs => (V.msl (hp h0 bs).next sz 0 n none, (hp h0 bs).new (.cells cs))) = _
    rw [e, ← hp_new]; rfl⟩
theorem o_litH {h0 : Heap} {bs : List (Option (List V))} (k : Nat) (hk : Nat.beq (lenL bs) k = true) {sz n : Nat} {z cs : List V} {ps : List (Nat × Nat × Opd)} (e : fill z (ps.map fun p => (p.1, p.2.1, vev p.2.2)) = some cs) :
    Does (.lit sz z n ps) (hp h0 bs) (.msl (h0.next + k) sz 0 n none) (hp h0 (badd bs cs)) := by
  have := Nat.eq_of_beq_eq_true hk
  rw [lenL_eq] at this
  subst this
  exact o_litS e
theorem o_lenM {h : Heap} {id sz off len : Nat} {c : Option Nat} : Does (.len 1 (.v (.msl id sz off len c))) h (.int .i64 (len : Nat)) h := by refine ⟨?_⟩; rw [op1v]; rfl
theorem o_lenN {h : Heap} : Does (.len 1 (.v .nilsl)) h (.int .i64 (0 : Nat)) h := ⟨rfl⟩
theorem o_lenE {h : Heap} : Does (.len 1 (.v .esl)) h (.int .i64 (0 : Nat)) h := ⟨rfl⟩
theorem o_load4 {h : Heap} {a b c d : V} : Does (.load 4 true (.v (.fptr [a, b, c, d]))) h (.agg [a, b, c, d]) h := ⟨rfl⟩
theorem freeze_tup3 {h : Heap} {n : Nat} {v u : V} {ka kb : IntKind} {a b : Int} (hv : ∀ k, 70000 < k → freeze h n k v = some u) : freeze h n fuelF (.tup [v, .int ka a, .int kb b]) = some (.tup [u, .int ka a, .int kb b]) := by
  show (((freeze h n 999999999999998 v).bind fun v' => (freezes h n 999999999999998 [.int ka a, .int kb b]).map (v' :: ·)).map V.tup) = _
  rw [hv _ (by omega)]
  rfl

theorem row_msl {h0 : Heap} {bs : List (Option (List V))} {sz n k : Nat} {l : List V} (e2 : bget bs k = some l) (e3 : n * sz ≤ l.length) : (hp h0 bs).row sz (.msl (h0.next + k) sz 0 n none) = some (l.take (n * sz)) := by
  simp only [Heap.row, if_true, hp_cells, e2]
  simp [e3]

/-- a cell that holds no slice -/
def V.scal : V → Bool
  | .int _ _ | .str _ | .bool _ => true
  | _ => false
theorem freeze_scal {h : Heap} {n k : Nat} {v : V} (hv : v.scal = true) : freeze h n (k + 1) v = some v := by
  cases v <;> first | rfl | cases hv
theorem freezes_scal {h : Heap} {n : Nat} : ∀ (l : List V) (k : Nat), l.length < k → (∀ v ∈ l, v.scal = true) → freezes h n k l = some l
  | [], k, _, _ => by cases k <;> rfl
  | v :: r, k + 1, hk, hv => by
    simp only [List.length_cons] at hk
    obtain ⟨j, rfl⟩ : ∃ j, k = j + 1 := ⟨k - 1, by omega⟩
    simp only [freezes, freeze_scal (hv v List.mem_cons_self), Option.bind_some, freezes_scal r (j + 1) (by omega) fun u hu => hv u (List.mem_cons_of_mem _ hu), Option.map_some]
theorem elems_take (sz : Nat) : ∀ (n : Nat) (l : List V), n * sz ≤ l.length → elems sz n (l.take (n * sz)) = elems sz n l
  | 0, _, _ => rfl
  | n + 1, l, h => by
    have h1 : (n + 1) * sz = n * sz + sz := by rw [Nat.add_mul, Nat.one_mul]
    have h2 : (l.take ((n + 1) * sz)).take sz = l.take sz := by rw [List.take_take]; congr 1; omega
    have h3 : (l.take ((n + 1) * sz)).drop sz = (l.drop sz).take (n * sz) := by rw [List.drop_take]; congr 1; omega
    simp only [elems, h2, h3]
    rw [elems_take sz n (l.drop sz) (by rw [List.length_drop]; omega)]
    by_cases hz : sz = 1
    · subst hz
      simp only [if_true]
      congr 1
      cases l with
      | nil => simp at h
      | cons a r => simp
    · simp only [hz, if_false]
theorem freezes_elems {h : Heap} {n : Nat} (sz : Nat) (hz : 1 < sz) : ∀ (m : Nat) (l : List V) (k : Nat), m + sz + 2 < k → (∀ v ∈ l, v.scal = true) → freezes h n k (elems sz m l) = some (elems sz m l)
  | 0, l, k, _, _ => by cases k <;> rfl
  | m + 1, l, k + 1, hk, hv => by
    have h1 : ¬ sz = 1 := by omega
    obtain ⟨j, rfl⟩ : ∃ j, k = j + 1 := ⟨k - 1, by omega⟩
    have h2 : freezes h n j (l.take sz) = some (l.take sz) := freezes_scal _ _ (by have := List.length_take_le sz l; omega) fun v hm => hv v (List.mem_of_mem_take hm)
    simp only [elems, h1, if_false, freezes, freeze, h2, Option.map_some, Option.bind_some, freezes_elems sz hz m (l.drop sz) (j + 1) (by omega) fun v hm => hv v (List.mem_of_mem_drop hm)]
theorem lows_elems {sz : Nat} (hz : 1 < sz) : ∀ (m : Nat) (l : List V), (∀ v ∈ l, v.scal = true) → V.lows 0 (elems sz m l) = true
  | 0, _, _ => rfl
  | m + 1, l, hv => by
    have h1 : ¬ sz = 1 := by omega
    have h2 : ∀ (r : List V), (∀ v ∈ r, v.scal = true) → V.lows 0 r = true := fun r => by
      induction r with
      | nil => intro _; rfl
      | cons a r ih =>
        intro hr
        have ha := hr a List.mem_cons_self
        have : V.low 0 a = true := by cases a <;> first | rfl | cases ha
        simp only [V.lows, this, ih fun u hu => hr u (List.mem_cons_of_mem _ hu), Bool.and_self]
    simp only [elems, h1, if_false, V.lows, V.low, h2 _ fun v hm => hv v (List.mem_of_mem_take hm), lows_elems hz m (l.drop sz) fun v hm => hv v (List.mem_of_mem_drop hm), Bool.and_self]
/-- a slice that was made, let go -/
theorem freeze_sl {h0 : Heap} {bs : List (Option (List V))} {sz n k : Nat} {v : V} {row : List V} (hs : IsSl h0 bs sz v n row) (hn : 0 < n) (hz : 1 < sz) (hk : n + sz + 3 < k) (hv : ∀ u ∈ row, u.scal = true) : freeze (hp h0 bs) h0.next k v = some (.fsl (elems sz n row) none) := by
  obtain ⟨h1, ⟨rfl, rfl⟩ | ⟨j, l, rfl, e2, e3, e4⟩⟩ := hs
  · omega
  · obtain ⟨k, rfl⟩ : ∃ j, k = j + 1 := ⟨k - 1, by omega⟩
    have h2 : ¬ h0.next + j < h0.next := by omega
    have h3 : (0 + n) * sz ≤ l.length := by simpa using e3
    have h4 : 0 < sz := by omega
    have h5 : elems sz n l = elems sz n row := by rw [← e4, elems_take sz n l e3]
    have h6 : (l.drop (0 * sz)) = l := by simp
    simp only [freeze, h2, if_false, hp_cells, e2, h3, decide_true, h4, Bool.and_self, if_true, h6, h5]
    rw [freezes_elems sz hz n row k (by omega) hv]
    simp only [Option.bind_some, lows_elems hz n row hv, if_true]

/-- one element more -/
theorem app_one {h0 : Heap} (hf : h0.Fine) {bs : List (Option (List V))} {sz n bytes j : Nat} {v : V} {row c : List V} (hs : IsSl h0 bs sz v n row) (hj : bget bs j = some c) (hc : c.length = sz) (_ : 0 < sz) (hb : (n + 1) * bytes ≤ maxRow) :
    ∃ v' bs', Does (.app sz bytes (.v v) (.v (.msl (h0.next + j) sz 0 1 none))) (hp h0 bs) v' (hp h0 bs') ∧ IsSl h0 bs' sz v' (n + 1) (row ++ c) ∧ bs.length ≤ bs'.length := by
  have hrow : (hp h0 bs).row sz (.msl (h0.next + j) sz 0 1 none) = some c := by
    rw [row_msl (n := 1) hj (by omega)]
    simp [← hc]
  have hmay : ∀ k vs, (hp h0 bs).mayPut (h0.next + k) vs = true := fun k vs => hp_may hf k vs
  have hmine : ∀ k, (hp h0 bs).mine (h0.next + k) = true := fun k => by
    simp only [Heap.mine, List.all_eq_true, decide_eq_true_eq]
    exact fun f m => Nat.le_trans (hf.fl f m) (Nat.le_add_right _ _)
  obtain ⟨h1, ⟨rfl, rfl⟩ | ⟨k, l, rfl, e2, e3, e4⟩⟩ := hs
  · refine ⟨.msl (h0.next + bs.length) sz 0 1 none, badd bs c, ⟨?_⟩, ⟨?_, .inr ⟨bs.length, c, rfl, bget_badd, by omega, by simp [List.length_eq_zero_iff.1 (by simpa using h1), ← hc]⟩⟩, by rw [badd_len]; omega⟩
    · rw [op1v]
      have hb' : 1 * bytes ≤ maxRow := by simpa using hb
      simp only [op1, ev, append, hrow, lenOf, hb', if_true]
      rw [← hp_new]
      rfl
    · simp only [List.length_append, h1, hc]; omega
  · have hk := bget_lt e2
    by_cases hroom : (n + 1) * sz ≤ l.length
    · refine ⟨.msl (h0.next + k) sz 0 (n + 1) none, bset bs k (some (l.take (n * sz) ++ c ++ l.drop ((n + 1) * sz))), ⟨?_⟩, ⟨?_, .inr ⟨k, _, rfl, bget_bset hk, ?_, ?_⟩⟩, by rw [bset_len]; omega⟩
      · rw [op1v]
        simp only [op1, ev, append, hrow, lenOf, ne_eq, not_true_eq_false, if_false, hp_cells, e2, hroom, if_true, hmay]
        rw [← hp_set h0 hk]
        rfl
      · simp only [List.length_append, h1, hc]; rw [Nat.add_mul, Nat.one_mul]
      · simp only [List.length_append, List.length_take, List.length_drop, hc]
        have : (n + 1) * sz = n * sz + sz := by rw [Nat.add_mul, Nat.one_mul]
        omega
      · have h5 : (l.take (n * sz) ++ c).length = (n + 1) * sz := by
          simp only [List.length_append, List.length_take, hc]
          have : (n + 1) * sz = n * sz + sz := by rw [Nat.add_mul, Nat.one_mul]
          omega
        rw [List.take_append_of_le_length (by omega), List.take_of_length_le (by omega), e4]
    · refine ⟨.msl (h0.next + bs.length) sz 0 (n + 1) none, badd (bset bs k none) (l.take (n * sz) ++ c), ⟨?_⟩, ⟨?_, .inr ⟨bs.length, l.take (n * sz) ++ c, rfl, ?_, ?_, ?_⟩⟩, by rw [badd_len, bset_len]; omega⟩
      · rw [op1v]
        have h6 : ¬ l.length < n * sz := by omega
        simp only [op1, ev, append, hrow, lenOf, ne_eq, not_true_eq_false, if_false, hp_cells, e2, hroom, h6, hmine, hb, Bool.true_and, decide_true, if_true]
        rw [← hp_new, ← hp_set h0 hk]
        rfl
      · simp only [List.length_append, h1, hc]; rw [Nat.add_mul, Nat.one_mul]
      · have := bget_badd (bs := bset bs k none) (c := l.take (n * sz) ++ c)
        rw [bset_len] at this
        exact this
      · simp only [List.length_append, List.length_take, hc]
        have : (n + 1) * sz = n * sz + sz := by rw [Nat.add_mul, Nat.one_mul]
        omega
      · have h5 : (l.take (n * sz) ++ c).length = (n + 1) * sz := by
          simp only [List.length_append, List.length_take, hc]
          have : (n + 1) * sz = n * sz + sz := by rw [Nat.add_mul, Nat.one_mul]
          omega
        rw [List.take_of_length_le (by omega), e4]
end Go.Ab

namespace Go.Ab
open Go.ChangeShapes Go.WideShapes

theorem cell_some {w : World} {a : Addr} {v : Value} (h : w.cell? a = some v) : a.block < w.heap.size ∧ a.spot = none := by
  unfold World.cell? at h
  split at h
  · rename_i c t f hb
    split at h
    · cases h
    · rename_i hs
      exact ⟨(Array.getElem?_eq_some_iff.1 hb).1, by simpa using hs⟩
  · cases h
theorem cell_keep {w w' : World} {a : Addr} (h : w'.heap[a.block]? = w.heap[a.block]?) : w'.cell? a = w.cell? a := by
  unfold World.cell?; rw [h]

/-- a slice of bytes, as the machine sees it -/
theorem open_bytes {H : Type} {enc : TypeId × Value → H} {P : Program} {W : World} {t e : TypeId} {v : Value} {d : DataW H} {ps : List MemPlace} (ht : P.underlying t = some (.slice e)) (he : P.underlying e = some (.int .u8)) (hc : P.cellsOf e = 1)
    (hval : Value.okWide P W .any 0 t v) (hd : DataW.Trod enc P W 0 (fun _ => true) true t v d ps) :
    ∃ (u : V) (s : List Nat), ((u = .nilsl ∧ s = []) ∨ (u = .esl ∧ s = []) ∨ u = .fsl (s.map fun (b : Nat) => V.int .u8 (b : Int)) none) ∧ (∀ b ∈ s, b < 256) ∧ s.length ≤ maxLen ∧ Rep W (fun b => b < W.heap.size) (fun _ => none) u v ∧
      ∀ W' : World, (∀ b, b < W.heap.size → W'.heap[b]? = W.heap[b]?) → ∃ ps', DataW.Trod enc P W' 0 (fun b => decide (b < W.heap.size)) true t v d ps' := by
  obtain ⟨a0, len, cap, rfl⟩ := okWide_slice ht hval
  obtain ⟨fuel, hf⟩ := hd
  rcases open_ints ht he hc hf with ⟨hcs, hx⟩ | ⟨a, len', cap', zs, hcs, _, hl, hm, hz, hx, hcell, hwz⟩
  · simp [Value.cells] at hcs
    obtain ⟨rfl, rfl, rfl⟩ := hcs
    simp only [Prod.mk.injEq] at hx
    obtain ⟨rfl, rfl⟩ := hx
    exact ⟨.nilsl, [], .inl ⟨rfl, rfl⟩, (fun b hb => by cases hb), Nat.zero_le _, .nilsl, fun W' _ => ⟨[], RowKit.shut_slice_nil ht⟩⟩
  · simp [Value.cells] at hcs
    obtain ⟨rfl, rfl, rfl⟩ := hcs
    simp only [Prod.mk.injEq] at hx
    obtain ⟨rfl, rfl⟩ := hx
    simp only [if_true] at hz
    have hblk : 0 < zs.length → a.block < W.heap.size ∧ a.spot = none := fun h0 => by
      have := cell_some (hcell 0 h0)
      simpa [Addr.add] using this
    have hadd : ∀ i, (a.add i).block = a.block := fun i => by unfold Addr.add; split <;> rfl
    have close : ∀ W' : World, (∀ b, b < W.heap.size → W'.heap[b]? = W.heap[b]?) → ∃ ps', DataW.Trod enc P W' 0 (fun b => decide (b < W.heap.size)) true t (.slice (some a) len cap) (.slice (lits .u8 (zs.take len)) (lits .u8 (zs.drop len))) ps' := fun W' hk =>
      ⟨MemPlace.row a zs.length, 2, shut_ints 0 ht he hc (Nat.zero_le _) hl hm (by
        by_cases h0 : 0 < zs.length
        · rw [if_pos (by simpa using (hblk h0).1)]; exact hz
        · split <;> omega) (fun i hi => by rw [cell_keep (hk _ (by rw [hadd]; exact (hblk (by omega)).1))]; exact hcell i hi) hwz⟩
    by_cases h0 : len = 0
    · subst h0
      exact ⟨.esl, [], .inr (.inl ⟨rfl, rfl⟩), (fun b hb => by cases hb), Nat.zero_le _, .esl a cap, close⟩
    · have hw : ∀ n ∈ zs, 0 ≤ n ∧ n < 256 := fun n hn => by
        have := hwz n hn
        simp only [Lit.wf, Bool.and_eq_true, decide_eq_true_eq] at this
        have e1 : IntKind.min .u8 = 0 := by decide
        have e2 : IntKind.max .u8 = 255 := by decide
        rw [e1, e2] at this
        omega
      have hlen : ((zs.take len).map Int.toNat).length = len := by rw [List.length_map, List.length_take]; omega
      have hes : (((zs.take len).map Int.toNat).map fun (b : Nat) => V.int .u8 (b : Int)) = (zs.take len).map fun n => V.int .u8 n := by
        rw [List.map_map]
        apply List.map_congr_left
        intro n hn
        have := hw n (List.mem_of_mem_take hn)
        show V.int .u8 ((n.toNat : Nat) : Int) = _
        rw [Int.toNat_of_nonneg this.1]
      have hcl : ∀ l : List Int, (l.map fun n => V.int .u8 n).flatMap V.cells = l.map fun n => V.int .u8 n := fun l => by
        induction l with
        | nil => rfl
        | cons a r ih => simp only [List.map_cons, List.flatMap_cons, ih]; rfl
      have hget : ∀ (i : Nat) v, ((zs.take len).map fun n => V.int .u8 n)[i]? = some v → i < len ∧ v = .int .u8 (zs.getD i 0) := fun i v ev => by
        rw [List.getElem?_map] at ev
        obtain ⟨n, hn, rfl⟩ := map_some ev
        have hi : i < (zs.take len).length := (List.getElem?_eq_some_iff.1 hn).1
        rw [List.length_take] at hi
        have hil : i < len := by omega
        rw [List.getElem?_take, if_pos hil] at hn
        exact ⟨hil, by simp [List.getD, hn]⟩
      refine ⟨_, (zs.take len).map Int.toNat, .inr (.inr rfl), fun b hb => ?_, by rw [hlen]; omega, ?_, close⟩
      · obtain ⟨n, hn, rfl⟩ := List.mem_map.1 hb
        have := hw n (List.mem_of_mem_take hn)
        omega
      · rw [hes]
        have hl2 : ((zs.take len).map fun n => V.int .u8 n).length = len := by rw [List.length_map, List.length_take]; omega
        have hb := hblk (by omega)
        have key : Rep W (fun b => b < W.heap.size) (fun _ => none) (.fsl ((zs.take len).map fun n => V.int .u8 n) none) (.slice (some a) ((zs.take len).map fun n => V.int .u8 n).length cap) := by
          refine .fsl _ none a cap 1 (fun i => .int .u8 (zs.getD i 0)) hb.2 hb.1 (by rw [hl2]; exact hl) (fun c' h => by cases h) (fun e he => ?_) (fun v hv => ?_) ?_ (fun i v ev => ?_) (fun i v ev => ?_)
          · obtain ⟨n, _, rfl⟩ := List.mem_map.1 he; rfl
          · rw [hcl] at hv; obtain ⟨n, _, rfl⟩ := List.mem_map.1 hv; rfl
          · rw [hcl]
            have : ∀ l : List Int, V.lows 0 (l.map fun n => V.int .u8 n) = true := fun l => by
              induction l with
              | nil => rfl
              | cons a r ih => simp only [List.map_cons, V.lows, V.low, ih, Bool.and_self]
            exact this _
          · rw [hcl] at ev
            obtain ⟨hi, rfl⟩ := hget i v ev
            have := hcell i (by omega)
            have e : a.add i = ⟨a.block, a.off + i, none⟩ := by
              obtain ⟨bl, off, sp⟩ := a
              simp only at hb
              unfold Addr.add
              split
              · rename_i hi0; subst hi0; rw [hb.2]; rfl
              · rfl
            rw [e] at this
            exact this
          · rw [hcl] at ev
            obtain ⟨_, rfl⟩ := hget i v ev
            exact .int _ _
        rw [hl2] at key
        exact key
end Go.Ab

namespace Go.Ab

/-! ### all orders of a region -/

def linsGo (m : Region.Mode) (ops : Array Oper) : Nat → Array Bool → List Nat → List (List Nat)
  | 0, _, acc => [acc.reverse]
  | fuel + 1, listed, acc =>
    match (List.range ops.size).filter fun i => !listed.getD i true && ((ops[i]?).map (·.after.all fun e => !Region.binds m e || listed.getD e.on false)).getD false with
    | [] => [acc.reverse]
    | i :: rs => (i :: rs).flatMap fun i => linsGo m ops fuel (listed.setIfInBounds i true) (i :: acc)
def lins (m : Region.Mode) (ops : Array Oper) : List (List Nat) := linsGo m ops ops.size (Array.replicate ops.size false) []

theorem lins_go (m : Region.Mode) (ops : Array Oper) : ∀ (fuel t : Nat) (listed : Array Bool) (acc : List Nat), Region.linearise.go m ops fuel t listed acc ∈ linsGo m ops fuel listed acc
  | 0, t, listed, acc => by simp [Region.linearise.go, linsGo]
  | fuel + 1, t, listed, acc => by
    unfold Region.linearise.go linsGo
    simp only
    generalize (List.range ops.size).filter (fun i => !listed.getD i true && ((ops[i]?).map (·.after.all fun e => !Region.binds m e || listed.getD e.on false)).getD false) = rs
    cases rs with
    | nil => simp
    | cons i rs =>
      have hl : t % (i :: rs).length < (i :: rs).length := Nat.mod_lt _ (by simp)
      rw [List.getElem?_eq_getElem hl]
      simp only
      exact List.mem_flatMap.2 ⟨_, List.getElem_mem hl, lins_go m ops fuel _ _ _⟩
theorem lins_mem (m : Region.Mode) (ops : Array Oper) (t : Nat) : Region.linearise m ops t ∈ lins m ops := lins_go ..

/-- all orders that may be drawn -/
def orders (mx : Bool) (ops : Array Oper) : List (List Nat) :=
  if mx || !Region.departs ops then lins .any ops else lins .text ops ++ lins .gc ops
theorem orders_mem (mx : Bool) (ops : Array Oper) (t : Nat) : Region.schedule mx ops t ∈ orders mx ops := by
  unfold Region.schedule orders
  split
  · exact lins_mem ..
  · split
    · exact List.mem_append_left _ (lins_mem ..)
    · exact List.mem_append_right _ (lins_mem ..)

def mapAll {α β : Type} (f : α → Option β) : List α → Option (List β)
  | [] => some []
  | a :: l => match f a, mapAll f l with
    | some b, some r => some (b :: r)
    | _, _ => none
theorem mapAll_mem {α β : Type} {f : α → Option β} : ∀ {l : List α} {r : List β}, mapAll f l = some r → ∀ a ∈ l, ∃ b ∈ r, f a = some b
  | [], _, _, a, ha => by cases ha
  | x :: l, r, e, a, ha => by
    unfold mapAll at e
    split at e
    · rename_i b r' h1 h2
      cases e
      rcases List.mem_cons.1 ha with rfl | ha
      · exact ⟨b, List.mem_cons_self, h1⟩
      · obtain ⟨c, hc, h3⟩ := mapAll_mem h2 a ha
        exact ⟨c, List.mem_cons_of_mem _ hc, h3⟩
    · cases e

section
variable (P : Program) (G : Nat → Option V)

/-- the codes, one for each order -/
def regionAll (ops : Array Oper) (draw : Bool) : Option (List ACode) :=
  if draw then
    match aops P G ops.toList with
    | none => none
    | some as => (mapAll (plainSteps { ops := ops.toList, aops := as, anc := [] }) (orders (P.follows .mixedOrders) ops)).map fun l => l.map .region
  else none

/-- two stores that may come in either order stand in it -/
def hasApart : ACode → Bool
  | .region l => l.any fun s => match s.op with
    | .apart _ _ => true
    | _ => false
  | _ => false

def acodes : Code → Option (List ACode)
  | .region id ops draw => match acode P G (.region id ops draw) with
    | some c => if hasApart c then regionAll P G ops draw else some [c]
    | none => regionAll P G ops draw
  | .seq a b => match acodes a, acodes b with
    | some [x], some ys => some (ys.map (.seq x ·))
    | some xs, some [y] => some (xs.map (.seq · y))
    | _, _ => none
  | .cond c a b => match opd G c, acodes a, acodes b with
    | some c, some [x], some ys => some (ys.map (.cond c x ·))
    | some c, some xs, some [y] => some (xs.map (.cond c · y))
    | _, _, _ => none
  | .block id c => (acodes c).map fun l => l.map (.block id ·)
  | c => (acode P G c).map fun x => [x]
end

section
variable {P : Program} {G : Nat → Option V} {w w' : World} {R R' : Nat → Prop} {ι ι' : Nat → Option Loc} {h h' : Heap} {fr : List V} {a : Act}

/-- one of the ends that there may be -/
def QAny (G : Nat → Option V) (w : World) (R : Nat → Prop) (ι : Nat → Option Loc) (h : Heap) (T : Ex → St → Prop) (e : Exit) (a : Act) (w' : World) : Prop :=
  ∃ ex st', T ex st' ∧ QOf G w R ι h ex st' e a w'

/-- all codes come to an end that is asked for -/
def AllTo (C : Ctx) (n : Nat) (cs : List ACode) (st : St) (T : Ex → St → Prop) : Prop := ∀ c' ∈ cs, ∃ ex st', exec C n c' st = some (ex, st') ∧ T ex st'

theorem QAny.trans {T : Ex → St → Prop} (p : Post w R ι h w' R' ι' h') {e : Exit} {a : Act} {w2 : World} (q : QAny G w' R' ι' h' T e a w2) : QAny G w R ι h T e a w2 := by
  obtain ⟨ex, st', h1, h2⟩ := q
  exact ⟨ex, st', h1, h2.trans p⟩

theorem single_ok {C : Ctx} (hK : CodeOk P G C) (hD : DrawOk P G C) {n : Nat} {c : Code} {c' : ACode} (hc : acode P G c = some c') {st : St} {T : Ex → St → Prop} (hT : AllTo C n [c'] st T) (hS : SRel G st a w R ι) :
    c.wp P (QAny G w R ι st.h T) a w := by
  obtain ⟨ex, st', h1, h2⟩ := hT c' List.mem_cons_self
  exact wp_mono ((exec_ok hK hD n).code c c' st ex st' h1 hc a w R ι hS) fun _ _ _ q => ⟨ex, st', h2, q⟩

theorem regionAll_ok {C : Ctx} (hK : CodeOk P G C) (hD : DrawOk P G C) {n : Nat} {id : Nat} {ops : Array Oper} {draw : Bool} {cs : List ACode} (hc : regionAll P G ops draw = some cs) {st : St} {T : Ex → St → Prop} (hT : AllTo C n cs st T) (hS : SRel G st a w R ι) :
    (Code.region id ops draw).wp P (QAny G w R ι st.h T) a w := by
  unfold regionAll at hc
  cases draw with
  | false => cases hc
  | true =>
    simp only [if_true] at hc
    split at hc
    · cases hc
    · rename_i as has
      obtain ⟨ls, hls, rfl⟩ := map_some hc
      refine wp_region_draw fun t => ?_
      obtain ⟨ss, hss, hp⟩ := mapAll_mem hls _ (orders_mem (P.follows .mixedOrders) ops t)
      obtain ⟨ex, st', h1, h2⟩ := hT (.region ss) (List.mem_map.2 ⟨ss, hss, rfl⟩)
      cases n with
      | zero => simp [exec] at h1
      | succ n =>
        simp only [exec] at h1
        obtain ⟨st1, e1, rfl⟩ := wiped_some h1
        have hC : CallsOk P G (callF C (exec C n)) := callF_ok hK (exec_ok hK hD n).code
        have hr1 : HRel { w with drawn := w.drawn + 1 } R ι st.h := hS.heap.same rfl
        have hp1 : Post w R ι st.h { w with drawn := w.drawn + 1 } R ι st.h := Post.same hS.heap rfl rfl rfl rfl
        have hS1 : SRel G st a { w with drawn := w.drawn + 1 } R ι := ⟨hr1, hS.glob.keep hS.heap hp1, hS.fr.keep hS.heap hp1, hS.ds.keep hS.heap hp1⟩
        exact wpOps_mono (fun _ _ _ q => ⟨_, _, h2, (q.wipe ss).trans hp1⟩) _ _ _ (plain_ok hC (r := { ops := ops.toList, aops := as, anc := [] }) rfl has _ ss st a _ R ι ex st1 hp e1 hS1)

/-- what all these codes come to the code may come to -/
def Toward (P : Program) (G : Nat → Option V) (C : Ctx) (c : Code) (cs : List ACode) : Prop := cs ≠ [] ∧
    ∀ (n : Nat) (st : St) (T : Ex → St → Prop), AllTo C n cs st T → ∀ (a : Act) (w : World) (R : Nat → Prop) (ι : Nat → Option Loc), SRel G st a w R ι → c.wp P (QAny G w R ι st.h T) a w
theorem acodes_ok {C : Ctx} (hK : CodeOk P G C) (hD : DrawOk P G C) : ∀ (c : Code) (cs : List ACode), acodes P G c = some cs → Toward P G C c cs := by
  have one : ∀ (c : Code) (cs : List ACode), (acode P G c).map (fun x => [x]) = some cs → Toward P G C c cs := by
    intro c cs hc
    obtain ⟨c', h1, rfl⟩ := map_some hc
    exact ⟨by simp, fun n st T hT a w R ι hS => single_ok hK hD h1 hT hS⟩
  have zero : ∀ {cs : List ACode} {st : St} {T : Ex → St → Prop}, cs ≠ [] → AllTo C 0 cs st T → False := fun {cs} {st} {T} hne h => by
    cases cs with
    | nil => exact hne rfl
    | cons x cs => obtain ⟨_, _, h1, _⟩ := h x List.mem_cons_self; simp [exec] at h1
  have seqs : ∀ (x y : Code) (xs ys cs : List ACode), Toward P G C x xs → Toward P G C y ys → (∀ x' ∈ xs, ∀ y' ∈ ys, ACode.seq x' y' ∈ cs) → cs ≠ [] → ∀ (n : Nat) (st : St) (T : Ex → St → Prop), AllTo C n cs st T → ∀ (a : Act) (w : World) (R : Nat → Prop) (ι : Nat → Option Loc), SRel G st a w R ι → (Code.seq x y).wp P (QAny G w R ι st.h T) a w := by
    intro x y xs ys cs hx hy hmem hcs n st T hT a w R ι hS
    obtain ⟨hxn, ihx⟩ := hx
    obtain ⟨hyn, ihy⟩ := hy
    cases n with
    | zero => exact (zero hcs hT).elim
    | succ n =>
      refine wp_seq ?_
      refine wp_mono (ihx n st (fun ex st1 => match ex with
        | .nrm => AllTo C n ys st1 T
        | ex => T ex st1) (fun x' hx' => ?_) a w R ι hS) fun en a1 w1 hq => ?_
      · obtain ⟨y0, hy0⟩ := List.exists_mem_of_ne_nil ys hyn
        obtain ⟨ex0, st0, h0, t0⟩ := hT _ (hmem x' hx' y0 hy0)
        simp only [exec] at h0
        cases h1 : exec C n x' st with
        | none => rw [h1] at h0; cases h0
        | some q =>
          obtain ⟨ex1, st1⟩ := q
          rw [h1] at h0
          refine ⟨ex1, st1, rfl, ?_⟩
          cases ex1 with
          | nrm =>
            intro y' hy'
            obtain ⟨ex2, st2, h2, t2⟩ := hT _ (hmem x' hx' y' hy')
            simp only [exec, h1] at h2
            exact ⟨ex2, st2, h2, t2⟩
          | _ => cases h0; exact t0
      · obtain ⟨ex1, st1, hT1, hq⟩ := hq
        have hq0 := hq
        obtain ⟨R1, ι1, hp, hg, hd, hen⟩ := hq
        cases ex1 with
        | nrm =>
          obtain ⟨rfl, hE⟩ := hen
          exact wp_mono (ihy n st1 T hT1 a1 w1 R1 ι1 ⟨hp.rel, hg, hE, hd⟩) fun _ _ _ q => q.trans hp
        | exit i => obtain ⟨rfl, _⟩ := hen; exact ⟨_, _, hT1, hq0⟩
        | goto l => obtain ⟨rfl, _⟩ := hen; exact ⟨_, _, hT1, hq0⟩
        | ret => obtain ⟨rfl, _⟩ := hen; exact ⟨_, _, hT1, hq0⟩
        | pan v => obtain ⟨x, rfl, _⟩ := hen; exact ⟨_, _, hT1, hq0⟩
  have conds : ∀ (c0 : Operand) (o : Opd) (x y : Code) (xs ys cs : List ACode), opd G c0 = some o → Toward P G C x xs → Toward P G C y ys → (∀ x' ∈ xs, ∀ y' ∈ ys, ACode.cond o x' y' ∈ cs) → cs ≠ [] → ∀ (n : Nat) (st : St) (T : Ex → St → Prop), AllTo C n cs st T → ∀ (a : Act) (w : World) (R : Nat → Prop) (ι : Nat → Option Loc), SRel G st a w R ι → (Code.cond c0 x y).wp P (QAny G w R ι st.h T) a w := by
    intro c0 o x y xs ys cs ho hx hy hmem hcs n st T hT a w R ι hS
    obtain ⟨hxn, ihx⟩ := hx
    obtain ⟨hyn, ihy⟩ := hy
    cases n with
    | zero => exact (zero hcs hT).elim
    | succ n =>
      obtain ⟨x0, hx0⟩ := List.exists_mem_of_ne_nil xs hxn
      obtain ⟨y0, hy0⟩ := List.exists_mem_of_ne_nil ys hyn
      obtain ⟨ex0, st0, h0, t0⟩ := hT _ (hmem x0 hx0 y0 hy0)
      simp only [exec] at h0
      split at h0
      · rename_i t ht
        have hv := ev_rel hS.glob hS.fr ho
        rw [ht] at hv
        have hcv : a.eval c0 = .bool t := by
          generalize a.eval c0 = cv at hv
          cases hv; rfl
        refine wp_cond hcv ?_
        cases t with
        | true =>
          refine ihx n st T (fun x' hx' => ?_) a w R ι hS
          obtain ⟨ex2, st2, h2, t2⟩ := hT _ (hmem x' hx' y0 hy0)
          simp only [exec, ht, if_true] at h2
          exact ⟨ex2, st2, h2, t2⟩
        | false =>
          refine ihy n st T (fun y' hy' => ?_) a w R ι hS
          obtain ⟨ex2, st2, h2, t2⟩ := hT _ (hmem x0 hx0 y' hy')
          simp only [exec, ht, Bool.false_eq_true, if_false] at h2
          exact ⟨ex2, st2, h2, t2⟩
      · cases h0
  have ne_map : ∀ {α : Type} {f : α → ACode} {l : List α}, l ≠ [] → l.map f ≠ [] := fun {α f l} h => by simpa using h
  intro c
  induction c with
  | skip => exact one _
  | label l => exact one _
  | exit i => exact one _
  | goto l => exact one _
  | ret => exact one _
  | refuse s => exact one _
  | rangeFunc x y z u => exact one _
  | loop x _ => exact one _
  | scope x _ => exact one _
  | region id ops d =>
    intro cs hc
    have all : regionAll P G ops d = some cs → Toward P G C (.region id ops d) cs := by
      intro hc
      refine ⟨?_, fun n st T hT a w R ι hS => regionAll_ok hK hD hc hT hS⟩
      unfold regionAll at hc
      split at hc
      · split at hc
        · cases hc
        · obtain ⟨ls, hls, rfl⟩ := map_some hc
          obtain ⟨b, hb, _⟩ := mapAll_mem hls _ (orders_mem (P.follows .mixedOrders) ops 0)
          intro h0
          have : ls = [] := by simpa using h0
          rw [this] at hb; cases hb
      · cases hc
    unfold acodes at hc
    split at hc
    · rename_i c' h1
      split at hc
      · exact all hc
      · cases hc
        exact ⟨by simp, fun n st T hT a w R ι hS => single_ok hK hD h1 hT hS⟩
    · exact all hc
  | seq x y ihx0 ihy0 =>
    intro cs hc
    unfold acodes at hc
    split at hc
    · rename_i x' ys hx hy
      cases hc
      have hyn := (ihy0 ys hy).1
      exact ⟨ne_map hyn, seqs x y [x'] ys _ (ihx0 _ hx) (ihy0 _ hy) (fun x2 h2 y' hy' => by rw [List.mem_singleton] at h2; subst h2; exact List.mem_map.2 ⟨y', hy', rfl⟩) (ne_map hyn)⟩
    · rename_i xs y' _ hx hy
      cases hc
      have hxn := (ihx0 xs hx).1
      exact ⟨ne_map hxn, seqs x y xs [y'] _ (ihx0 _ hx) (ihy0 _ hy) (fun x2 h2 y2 hy2 => by rw [List.mem_singleton] at hy2; subst hy2; exact List.mem_map.2 ⟨x2, h2, rfl⟩) (ne_map hxn)⟩
    · cases hc
  | cond c0 x y ihx0 ihy0 =>
    intro cs hc
    unfold acodes at hc
    split at hc
    · rename_i o x' ys ho hx hy
      cases hc
      have hyn := (ihy0 ys hy).1
      exact ⟨ne_map hyn, conds c0 o x y [x'] ys _ ho (ihx0 _ hx) (ihy0 _ hy) (fun x2 h2 y' hy' => by rw [List.mem_singleton] at h2; subst h2; exact List.mem_map.2 ⟨y', hy', rfl⟩) (ne_map hyn)⟩
    · rename_i o xs y' _ ho hx hy
      cases hc
      have hxn := (ihx0 xs hx).1
      exact ⟨ne_map hxn, conds c0 o x y xs [y'] _ ho (ihx0 _ hx) (ihy0 _ hy) (fun x2 h2 y2 hy2 => by rw [List.mem_singleton] at hy2; subst hy2; exact List.mem_map.2 ⟨x2, h2, rfl⟩) (ne_map hxn)⟩
    · cases hc
  | block id x ihx0 =>
    intro cs hc
    unfold acodes at hc
    obtain ⟨xs, hx, rfl⟩ := map_some hc
    obtain ⟨hxn, ihx⟩ := ihx0 xs hx
    refine ⟨ne_map hxn, fun n st T hT a w R ι hS => ?_⟩
    cases n with
    | zero => exact (zero (ne_map hxn) hT).elim
    | succ n =>
      refine wp_block ?_
      refine wp_mono (ihx n st (fun ex st1 => match ex with
        | .exit i => T (if i = id then .nrm else .exit i) st1
        | ex => T ex st1) (fun x' hx' => ?_) a w R ι hS) fun en a1 w1 hq => ?_
      · obtain ⟨ex0, st0, h0, t0⟩ := hT _ (List.mem_map.2 ⟨x', hx', rfl⟩)
        simp only [exec] at h0
        cases h1 : exec C n x' st with
        | none => rw [h1] at h0; cases h0
        | some q =>
          obtain ⟨ex1, st1⟩ := q
          rw [h1] at h0
          refine ⟨ex1, st1, rfl, ?_⟩
          cases ex1 <;> (cases h0; exact t0)
      · obtain ⟨ex1, st1, hT1, hq⟩ := hq
        have hq0 := hq
        obtain ⟨R1, ι1, hp, hg, hd, hen⟩ := hq
        cases ex1 with
        | nrm => obtain ⟨rfl, _⟩ := hen; exact ⟨_, _, hT1, hq0⟩
        | exit i =>
          obtain ⟨rfl, hE⟩ := hen
          simp only [Exit.inBlock]
          simp only at hT1
          by_cases hi : i = id
          · rw [if_pos hi] at hT1 ⊢
            exact ⟨_, _, hT1, R1, ι1, hp, hg, hd, rfl, hE⟩
          · rw [if_neg hi] at hT1 ⊢
            exact ⟨_, _, hT1, hq0⟩
        | goto l => obtain ⟨rfl, _⟩ := hen; exact ⟨_, _, hT1, hq0⟩
        | ret => obtain ⟨rfl, _⟩ := hen; exact ⟨_, _, hT1, hq0⟩
        | pan v => obtain ⟨x, rfl, _⟩ := hen; exact ⟨_, _, hT1, hq0⟩

/-! ### blocks given up -/

/-- the same blocks, but for some of the first k that are given up -/
structure Fewer (k : Nat) (l m : List (Option Blk)) : Prop where
  len : m.length = l.length
  at' : ∀ i, m[i]? = l[i]? ∨ (i < k ∧ m[i]? = some none)

theorem Fewer.refl (k : Nat) (l : List (Option Blk)) : Fewer k l l := ⟨rfl, fun _ => .inl rfl⟩
theorem Fewer.trans {k : Nat} {l m n : List (Option Blk)} (h : Fewer k l m) (g : Fewer k m n) : Fewer k l n := ⟨g.len.trans h.len, fun i => by
  rcases g.at' i with e | e
  · rcases h.at' i with e' | e'
    · exact .inl (e.trans e')
    · exact .inr ⟨e'.1, e.trans e'.2⟩
  · exact .inr e⟩
theorem Fewer.cons {k : Nat} {l m : List (Option Blk)} (a : Option Blk) (h : Fewer (k - 1) l m) : Fewer k (a :: l) (a :: m) := ⟨by simp [h.len], fun i => by
  cases i with
  | zero => exact .inl rfl
  | succ i =>
    simp only [List.getElem?_cons_succ]
    rcases h.at' i with e | e
    · exact .inl e
    · exact .inr ⟨by have := e.1; omega, e.2⟩⟩
theorem Fewer.none {k : Nat} {l m : List (Option Blk)} (a : Option Blk) (hk : 0 < k) (h : Fewer (k - 1) l m) : Fewer k (a :: l) (none :: m) := ⟨by simp [h.len], fun i => by
  cases i with
  | zero => exact .inr ⟨hk, rfl⟩
  | succ i =>
    simp only [List.getElem?_cons_succ]
    rcases h.at' i with e | e
    · exact .inl e
    · exact .inr ⟨by have := e.1; omega, e.2⟩⟩

theorem Post.fewer {bl : List (Option Blk)} (p : Post w R ι h w' R' ι' h') (hf : Fewer (h'.next - h.next) h'.bl bl) : Post w R ι h w' R' ι' { h' with bl := bl } := by
  have hget : ∀ id blk, ({ h' with bl := bl } : Heap).get id = some blk → h'.get id = some blk := fun id blk e => by
    unfold Heap.get at e ⊢
    simp only at e
    split at e
    · rename_i hi
      rw [if_pos hi]
      rcases hf.at' (h'.next - 1 - id) with e2 | ⟨_, e2⟩
      · rw [← e2]; exact e
      · rw [e2] at e; cases e
    · cases e
  have hold : ∀ id, id < h.next → ({ h' with bl := bl } : Heap).get id = h'.get id := fun id hid => by
    unfold Heap.get
    simp only
    split
    · rcases hf.at' (h'.next - 1 - id) with e2 | ⟨h1, _⟩
      · rw [e2]
      · have := p.next; omega
    · rfl
  refine ⟨⟨hf.len.trans p.rel.len, p.rel.none, p.rel.lt, fun id l loc e => p.rel.cells id l loc (hget _ _ e), fun id es loc e => p.rel.maps id es loc (hget _ _ e), fun id id' blk blk' loc loc' e e' => p.rel.inj id id' blk blk' loc loc' (hget _ _ e) (hget _ _ e'),
    fun id blk loc e => p.rel.apart id blk loc (hget _ _ e), fun f hf id l loc hid e => p.rel.low f hf id l loc hid (hget _ _ e), p.rel.floor, fun f hf id es loc hid e => p.rel.lowM f hf id es loc hid (hget _ _ e)⟩,
    p.sub, p.names, p.size, p.os, p.tape, p.output, p.keep, fun id blk loc e => p.own id blk loc (hget _ _ e), fun id hid hn => (hold id hid).trans (p.ghost id hid hn), p.next, p.floors, p.news⟩

def blkBeq : Option Blk → Option Blk → Bool
  | none, none => true
  | some (.cells a), some (.cells b) => V.beqs a b
  | _, _ => false
theorem blkBeq_sound {a b : Option Blk} (h : blkBeq a b = true) : a = b := by
  unfold blkBeq at h
  split at h
  · rfl
  · rw [beqs_sound _ _ h]
  · cases h

/-- what two rows of blocks have in common: those of the first k that differ are given up -/
def meetB : Nat → List (Option Blk) → List (Option Blk) → Option (List (Option Blk))
  | _, [], [] => some []
  | 0, a :: x, b :: y => match blkBeq a b with
    | true => (meetB 0 x y).map (a :: ·)
    | false => none
  | k + 1, a :: x, b :: y => match blkBeq a b with
    | true => (meetB k x y).map (a :: ·)
    | false => (meetB k x y).map (none :: ·)
  | _, _, _ => none
theorem meetB_spec : ∀ (k : Nat) (x y z : List (Option Blk)), meetB k x y = some z → Fewer k x z ∧ Fewer k y z
  | 0, [], [], z, e => by simp only [meetB] at e; cases e; exact ⟨Fewer.refl _ _, Fewer.refl _ _⟩
  | k + 1, [], [], z, e => by simp only [meetB] at e; cases e; exact ⟨Fewer.refl _ _, Fewer.refl _ _⟩
  | 0, a :: x, b :: y, z, e => by
    simp only [meetB] at e
    split at e
    · rename_i hb
      obtain ⟨z', h1, rfl⟩ := map_some e
      obtain ⟨g1, g2⟩ := meetB_spec 0 x y z' h1
      rw [← blkBeq_sound hb]
      exact ⟨.cons a g1, .cons a g2⟩
    · cases e
  | k + 1, a :: x, b :: y, z, e => by
    simp only [meetB] at e
    split at e
    · rename_i hb
      obtain ⟨z', h1, rfl⟩ := map_some e
      obtain ⟨g1, g2⟩ := meetB_spec k x y z' h1
      rw [← blkBeq_sound hb]
      exact ⟨.cons a g1, .cons a g2⟩
    · obtain ⟨z', h1, rfl⟩ := map_some e
      obtain ⟨g1, g2⟩ := meetB_spec k x y z' h1
      exact ⟨.none a (Nat.succ_pos _) g1, .none b (Nat.succ_pos _) g2⟩
  | 0, [], _ :: _, _, e => by simp [meetB] at e
  | k + 1, [], _ :: _, _, e => by simp [meetB] at e
  | 0, _ :: _, [], _, e => by simp [meetB] at e
  | k + 1, _ :: _, [], _, e => by simp [meetB] at e

/-- what the ends of two orders have in common -/
def meetR (n0 : Nat) (x y : Option (Out × Heap)) : Option (Out × Heap) :=
  match x, y with
  | some (.ret u, h1), some (.ret v, h2) =>
    bif V.beq u v && Nat.beq h1.next h2.next then (meetB (h1.next - n0) h1.bl h2.bl).map fun bl => (.ret u, { h1 with bl }) else none
  | _, _ => none
def meetAll (n0 : Nat) : List (Option (Out × Heap)) → Option (Out × Heap)
  | [] => none
  | [x] => match x with
    | some (.ret u, h1) => some (.ret u, h1)
    | _ => none
  | x :: l => meetR n0 x (meetAll n0 l)

/-- an end, and another one that tells less of memory -/
def LessOf (n0 : Nat) (u : V) (h' : Heap) (x : Option (Out × Heap)) : Prop := ∃ h1, x = some (.ret u, h1) ∧ h1.next = h'.next ∧ Fewer (h1.next - n0) h1.bl h'.bl

theorem meetAll_spec (n0 : Nat) : ∀ (l : List (Option (Out × Heap))) (out : Out) (h' : Heap), meetAll n0 l = some (out, h') → ∃ u, out = .ret u ∧ ∀ x ∈ l, LessOf n0 u h' x
  | [], out, h', e => by cases e
  | [x], out, h', e => by
    simp only [meetAll] at e
    split at e
    · rename_i u h1
      cases e
      exact ⟨u, rfl, fun x hx => by rw [List.mem_singleton] at hx; subst hx; exact ⟨_, rfl, rfl, Fewer.refl _ _⟩⟩
    · cases e
  | x :: y :: l, out, h', e => by
    simp only [meetAll] at e
    unfold meetR at e
    split at e
    · rename_i u h1 v h2 hy
      cases hb : (V.beq u v && Nat.beq h1.next h2.next) with
      | false => rw [hb] at e; cases e
      | true =>
        rw [hb] at e
        simp only [Bool.and_eq_true] at hb
        obtain ⟨hb1, hb2⟩ := hb
        have huv := beq_sound _ _ hb1
        have hnn := Nat.eq_of_beq_eq_true hb2
        subst huv
        obtain ⟨bl, h3, h4⟩ := map_some (show (meetB (h1.next - n0) h1.bl h2.bl).map (fun z => (Out.ret u, ({ h1 with bl := z } : Heap))) = some (out, h') from e)
        cases h4
        obtain ⟨g1, g2⟩ := meetB_spec _ _ _ _ h3
        obtain ⟨u', hu', hall⟩ := meetAll_spec n0 (y :: l) _ _ hy
        cases hu'
        refine ⟨u, rfl, fun z hz => ?_⟩
        rcases List.mem_cons.1 hz with rfl | hz
        · exact ⟨h1, rfl, rfl, g1⟩
        · obtain ⟨h5, e1, e2, e3⟩ := hall z hz
          refine ⟨h5, e1, e2.trans hnn.symm, e3.trans ?_⟩
          rw [e2, ← hnn]
          exact g2
    · cases e

/-! ### a function, all its orders -/

def C0 : Ctx := { code := fun _ => none, tidy := fun _ => false, orc := fun _ => none }
def D0 : OCtx := { code := fun _ => none, tidy := fun _ => false, orc := fun _ => none }
theorem c0_ok : CodeOk P G C0 := ⟨(fun _ _ e => by cases e), (fun _ _ e => by cases e)⟩
theorem d0_fine : DFine C0 D0 := ⟨(fun _ _ e => by cases e), rfl, rfl⟩

/-- the function's codes for the kernel, one for each order -/
def optAll (P : Program) (G : Nat → Option V) (fn : Func) (tbl : List Nat) (np dep : Nat) : Option (List OFunc) :=
  match fn.body with
  | none => none
  | some c => match acodes P G c, rvars P fn.results.toList with
    | some bs, some rs => if tabOk tbl fn.ntmps np (capOfD dep) then
        mapAll (fun b => (optC (rho tbl) fn.ntmps b).bind fun b => (renV (rho tbl) rs).map fun r => ({ np, dep, results := r, body := b } : OFunc)) bs
      else none
    | _, _ => none

noncomputable def bodyAny (vs : List OFunc) (n : Nat) (args : List V) (h : Heap) : Option (Out × Heap) :=
  match meetAll h.next (vs.map fun o => bodyT D0 (execT D0 n) o args h) with
  | some (o, ⟨k, _, bl⟩) => some (o, ⟨k, h.floors, bl⟩)
  | none => none

def mdOf : Ex → Option Md
  | .nrm | .ret => some .ret
  | .pan v => some (.pan v)
  | _ => none

theorem any_ok {fn : Func} {tbl : List Nat} {np dep f : Nat} {vs : List OFunc} (h1 : P.funcs[f]? = some fn) (h2 : fn.name ≠ "runtime.NumGoroutine") (h3 : optAll P G fn tbl np dep = some vs) (n : Nat) :
    CallsOk P G (fun f' args h => if f' = f then bodyAny vs n args h else none) := by
  intro f' args h out h' e
  simp only at e
  by_cases hff : f' = f
  · rw [if_pos hff] at e
    subst hff
    unfold optAll at h3
    split at h3
    · cases h3
    · rename_i c hb
      split at h3
      · rename_i bs rs hbs hrs
        split at h3
        · rename_i ht
          obtain ⟨hz, hm, rfl⟩ : ∃ hz, meetAll h.next (vs.map fun o => bodyT D0 (execT D0 n) o args h) = some (out, hz) ∧ h' = { hz with floors := h.floors } := by
            unfold bodyAny at e
            split at e
            · rename_i o k fl bl hm
              cases e
              exact ⟨_, hm, rfl⟩
            · cases e
          obtain ⟨u, rfl, hall⟩ := meetAll_spec _ _ _ _ hm
          refine ⟨⟨fn, c, h1, h2, hb⟩, fun w R ι xs hr hG hx => ?_⟩
          obtain ⟨_, hac⟩ := acodes_ok (C := C0) c0_ok draws_ok c bs hbs
          have hS : SRel G { fr := args ++ List.replicate (fn.ntmps - args.length) .undef, ds := [], h } { tmps := xs ++ Array.replicate (fn.ntmps - xs.size) undef, defers := [] } w R ι :=
            ⟨hr, hG, init_rel hx, rfl, by simp⟩
          refine calls_of_wp_defers h1 hb ?_
          refine wp_mono (hac n _ (fun ex st => ∃ m h1, mdOf ex = some m ∧ ended { ntmps := fn.ntmps, results := rs, body := .skip } st.fr (leave C0 (exec C0 n) st.ds m st.h) = some (.ret u, h1) ∧ h1.next = hz.next ∧ Fewer (h1.next - h.next) h1.bl hz.bl) (fun b hbm => ?_) _ w R ι hS) fun en a' w' hq => ?_
          · obtain ⟨o, ho, hbo⟩ := mapAll_mem h3 b hbm
            obtain ⟨b', hb', hbo⟩ := bind_some hbo
            obtain ⟨r, hr', hbo⟩ := map_some hbo
            subst hbo
            simp only [tabOk, Bool.and_eq_true] at ht
            obtain ⟨⟨⟨t1, t2⟩, t3⟩, t4⟩ := ht
            have t1 := Nat.le_of_ble_eq_true t1
            obtain ⟨s1, s2⟩ := incr_spec tbl 0 0 t4
            have hO : OFine { ntmps := fn.ntmps, results := rs, body := b } { np, dep, results := r, body := b' } (rho tbl) := by
              refine ⟨⟨fun t t' e => ?_, fun t u x e e' => s2 t u x (rho_some e) (rho_some e')⟩, fun t t' e => ?_, Nat.le_of_ble_eq_true t2, Nat.le_of_ble_eq_true t3, hb', hr'⟩
              · have e := rho_some e
                have hlt := (List.getElem?_eq_some_iff.1 e).1
                obtain ⟨_, b, _⟩ := s1 t t' e
                exact ⟨show t < fn.ntmps by omega, b⟩
              · have e := rho_some e
                obtain ⟨_, _, c, d⟩ := s1 t t' e
                simp only [Nat.zero_add] at c d
                rcases Nat.lt_or_ge t np with hh | hh
                · exact .inl ⟨hh, c hh⟩
                · exact .inr ⟨hh, d hh⟩
            obtain ⟨hv, e1, e2, e3⟩ := hall _ (List.mem_map.2 ⟨_, ho, rfl⟩)
            have e4 := bodyT_eq d0_fine (exec_sim d0_fine n) hO e1
            unfold body at e4
            split at e4
            · rename_i st hst
              exact ⟨_, _, hst, .ret, hv, rfl, e4, e2, e3⟩
            · rename_i st hst
              exact ⟨_, _, hst, .ret, hv, rfl, e4, e2, e3⟩
            · rename_i v st hst
              exact ⟨_, _, hst, .pan v, hv, rfl, e4, e2, e3⟩
            · cases e4
          · obtain ⟨ex, st, ⟨m, hv, hmd, e4, e2, e3⟩, hq⟩ := hq
            obtain ⟨R', ι', hp, hg, hd, hen⟩ := hq
            have fin : ∀ (uu : FrameMode), ERel w' R' ι' st.fr a' → MdRel w' R' ι' m uu → Leaves P fn a'.tmps (fun e w' => ∃ R' ι', Post w R ι h w' R' ι' { hz with floors := h.floors } ∧ OutIs w' R' ι' (.ret u) e) a'.defers uu w' := by
              intro uu hE hmr
              cases hl : leave C0 (exec C0 n) st.ds m st.h with
              | none => rw [hl] at e4; cases e4
              | some q =>
                obtain ⟨m2, h2'⟩ := q
                rw [hl] at e4
                refine leave_ok c0_ok (exec_ok c0_ok draws_ok n).code st.ds m st.h m2 h2' hl a'.defers w' R' ι' uu hp.rel hg hd hmr fun w2 R2 ι2 u2 hp2 hm2 => ?_
                cases m2 with
                | ret =>
                  have hu2 : u2 = .returning := hm2
                  subst hu2
                  simp only [ended] at e4
                  obtain ⟨vs', hvs, hh⟩ := map_some e4
                  cases hh
                  obtain ⟨x, hx1, hx2⟩ := results_ok (P := P) hp2.rel (hE.keep hp.rel hp2) hrs hvs
                  have hp3 := Post.fewer (hp.trans hp2) e3
                  have hfl := hp3.floors
                  simp only at hfl
                  have heq : ({ next := hv.next, floors := hv.floors, bl := hz.bl } : Heap) = { hz with floors := h.floors } := by
                    obtain ⟨n1, f1, b1⟩ := hv
                    simp only at e2 hfl ⊢
                    rw [e2, hfl]
                  rw [heq] at hp3
                  exact ⟨x, hx1, R2, ι2, hp3, hx2⟩
                | pan v => simp only [ended] at e4; cases e4
                | caught v => simp only [ended] at e4; cases e4
            cases ex with
            | nrm => cases hmd; obtain ⟨rfl, hE⟩ := hen; exact fin .returning hE rfl
            | ret => cases hmd; obtain ⟨rfl, hE⟩ := hen; exact fin .returning hE rfl
            | pan v => cases hmd; obtain ⟨x, rfl, hx', hE⟩ := hen; exact fin (.panicking [{ v := x, recovered := false }]) hE ⟨x, rfl, hx'⟩
            | exit i => cases hmd
            | goto l => cases hmd
        · cases h3
      · cases h3
  · rw [if_neg hff] at e; cases e
end
end Go.Ab

namespace Go.Ab
open Go.ChangeShapes Go.WideShapes

def offsEnd (P : Program) : List Field → Nat → Option Nat
  | [], o => some o
  | f :: r, o => if f.offset = o then offsEnd P r (o + P.cellsOf f.type) else none

/-- a type that can be opened, if those of S can -/
def goodIn (P : Program) (S : List TypeId) (t : TypeId) : Bool :=
  match P.underlying t with
  | some .bool | some (.int _) | some .string => P.cellsOf t == 1
  | some (.slice e) => P.cellsOf t == 1 && (Nat.blt 0 (P.cellsOf e) && S.contains e)
  | some (.struct fs) => (offsEnd P fs.toList 0 == some (P.cellsOf t)) && fs.toList.all fun f => S.contains f.type
  | _ => false

def elemOf (sz : Nat) (r : List V) : V := if sz = 1 then r.headD .undef else .agg r

def FitsF (P : Program) (F : TypeId → List V → Prop) : List Field → List V → Prop
  | [], us => us = []
  | f :: r, us => F f.type (us.take (P.cellsOf f.type)) ∧ FitsF P F r (us.drop (P.cellsOf f.type))

/-- the cells of a value of a type -/
def Fits (P : Program) : Nat → TypeId → List V → Prop
  | 0, _, _ => False
  | n + 1, t, us => match P.underlying t with
    | some .bool => ∃ b, us = [.bool b]
    | some (.int k) => ∃ z, us = [.int k z] ∧ (Lit.int k z).wf = true
    | some .string => ∃ s : List Nat, us = [.str s] ∧ s.length ≤ maxLen ∧ ∀ b ∈ s, b < 256
    | some (.slice e) => us = [.nilsl] ∨ us = [.esl] ∨ ∃ rows : List (List V), us = [.fsl (rows.map (elemOf (P.cellsOf e))) none] ∧ rows ≠ [] ∧ rows.length ≤ maxLen ∧ ∀ r ∈ rows, r.length = P.cellsOf e ∧ Fits P n e r
    | some (.struct fs) => FitsF P (Fits P n) fs.toList us
    | _ => False

theorem elemOf_cells {sz : Nat} {r : List V} (hl : r.length = sz) (ho : ∀ v ∈ r, v.one = true) : (elemOf sz r).cells = r := by
  unfold elemOf
  split
  · rename_i h1
    match r, hl.trans h1 with
    | [v], _ => exact one_cells' (ho v List.mem_cons_self)
  · rfl

theorem rows_flat {sz : Nat} : ∀ {rows : List (List V)}, (∀ r ∈ rows, r.length = sz ∧ ∀ v ∈ r, v.one = true) → (rows.map (elemOf sz)).flatMap V.cells = rows.flatten
  | [], _ => rfl
  | r :: rows, h => by
    simp only [List.map_cons, List.flatMap_cons, List.flatten_cons]
    rw [elemOf_cells (h r List.mem_cons_self).1 (h r List.mem_cons_self).2, rows_flat fun q hq => h q (List.mem_cons_of_mem _ hq)]

theorem rows_at {sz : Nat} (hs : 0 < sz) : ∀ {rows : List (List V)}, (∀ r ∈ rows, r.length = sz) → ∀ {i : Nat} {v : V}, rows.flatten[i]? = some v → ∃ r, rows[i / sz]? = some r ∧ r[i % sz]? = some v
  | [], _, i, v, e => by simp at e
  | r :: rows, h, i, v, e => by
    have hr := h r List.mem_cons_self
    simp only [List.flatten_cons] at e
    rcases Nat.lt_or_ge i sz with hi | hi
    · rw [List.getElem?_append_left (by omega)] at e
      exact ⟨r, by rw [Nat.div_eq_of_lt hi]; rfl, by rw [Nat.mod_eq_of_lt hi]; exact e⟩
    · rw [List.getElem?_append_right (by omega), hr] at e
      obtain ⟨q, h1, h2⟩ := rows_at hs (fun q hq => h q (List.mem_cons_of_mem _ hq)) e
      have e1 : i / sz = (i - sz) / sz + 1 := by
        conv => lhs; rw [show i = (i - sz) + sz by omega]
        rw [Nat.add_div_right _ hs]
      have e2 : i % sz = (i - sz) % sz := by
        conv => lhs; rw [show i = (i - sz) + sz by omega]
        rw [Nat.add_mod_right]
      exact ⟨q, by rw [e1, List.getElem?_cons_succ]; exact h1, by rw [e2]; exact h2⟩

theorem build_rows {α : Type} {Q : Nat → α → Prop} : ∀ (n : Nat), (∀ i, i < n → ∃ r, Q i r) → ∃ rows : List α, rows.length = n ∧ ∀ (i : Nat) (r : α), rows[i]? = some r → Q i r
  | 0, _ => ⟨[], rfl, fun i r e => by simp at e⟩
  | n + 1, h => by
    obtain ⟨rows, h1, h2⟩ := build_rows n fun i hi => h i (by omega)
    obtain ⟨r, hr⟩ := h n (by omega)
    refine ⟨rows ++ [r], by simp [h1], fun i q e => ?_⟩
    rcases Nat.lt_or_ge i n with hi | hi
    · rw [List.getElem?_append_left (by omega)] at e; exact h2 i q e
    · have hlt := (List.getElem?_eq_some_iff.1 e).1
      simp only [List.length_append, List.length_singleton, h1] at hlt
      have : i = n := by omega
      subst this
      rw [List.getElem?_append_right (by omega), h1] at e
      simp at e
      subst e
      exact hr

mutual
/-- how much there is of a value -/
def V.sz : V → Nat
  | .str s => s.length + 1
  | .fsl es _ => V.szs es + 1
  | .agg cs => V.szs cs
  | _ => 1
def V.szs : List V → Nat
  | [] => 0
  | v :: r => V.sz v + V.szs r
end
theorem szs_app : ∀ (l r : List V), V.szs (l ++ r) = V.szs l + V.szs r
  | [], r => by simp [V.szs]
  | v :: l, r => by simp only [List.cons_append, V.szs, szs_app l r]; omega
def sumB {H : Type} (bk : DataW H → Nat) : List (DataW H) → Nat
  | [] => 0
  | d :: r => bk d + sumB bk r
/-- a measure of what is read that counts all of it -/
structure BulkOk {H : Type} (bk : DataW H → Nat) : Prop where
  one : ∀ d, 1 ≤ bk d
  str : ∀ s : List UInt8, s.length + 1 ≤ bk (.lit (.string s))
  sl : ∀ es sp, sumB bk es + 1 ≤ bk (.slice es sp)
  agg : ∀ es, sumB bk es ≤ bk (.agg es)
/-- the same, and nothing longer than a machine bears -/
def FitsR (P : Program) : Nat → TypeId → List V → Prop
  | 0, _, _ => False
  | n + 1, t, us => match P.underlying t with
    | some .bool => ∃ b, us = [.bool b]
    | some (.int k) => ∃ z, us = [.int k z] ∧ (Lit.int k z).wf = true
    | some .string => ∃ s : List Nat, us = [.str s] ∧ s.length ≤ reachBytes ∧ ∀ b ∈ s, b < 256
    | some (.slice e) => us = [.nilsl] ∨ us = [.esl] ∨ ∃ rows : List (List V), us = [.fsl (rows.map (elemOf (P.cellsOf e))) none] ∧ rows ≠ [] ∧ rows.length * P.bytesOf e ≤ reachBytes ∧ ∀ r ∈ rows, r.length = P.cellsOf e ∧ FitsR P n e r
    | some (.struct fs) => FitsF P (FitsR P n) fs.toList us
    | _ => False
theorem weightsAll_mem {H : Type} {P : Program} {e : TypeId} : ∀ {l : List (DataW H)} {d : DataW H}, d ∈ l → ∀ w ∈ d.weights P e, w ∈ DataW.weightsAll P e l
  | x :: r, d, h, w, hw => by
    unfold DataW.weightsAll
    rcases List.mem_cons.1 h with rfl | h
    · exact List.mem_append_left _ hw
    · exact List.mem_append_right _ (weightsAll_mem h w hw)
structure Opened {H : Type} (P : Program) (W : World) (n : Nat) (t : TypeId) (us : List V) (cs : List Value) (d : DataW H) : Prop where
  sz : ∀ bk : DataW H → Nat, BulkOk bk → V.szs us ≤ bk d
  fitsR : (∀ w ∈ d.weights P t, w ≤ reachBytes) → FitsR P n t us
  rep : RepL W (fun b => b < W.heap.size) (fun _ => none) us cs
  fits : Fits P n t us
  one : ∀ u ∈ us, u.one = true
  low : V.lows 0 us = true
  len : cs.length = P.cellsOf t

theorem szs_rows {H : Type} (bk : DataW H → Nat) {sz : Nat} : ∀ (rows : List (List V)) (es : List (DataW H × List MemPlace)), rows.length = es.length → (∀ (i : Nat) r y, rows[i]? = some r → es[i]? = some y → r.length = sz ∧ V.szs r ≤ bk y.1) → V.szs (rows.map (elemOf sz)) ≤ sumB bk (es.map (·.1))
  | [], [], _, _ => Nat.le_refl _
  | r :: rows, y :: es, hl, h => by
    obtain ⟨h1, h2⟩ := h 0 r y rfl rfl
    have h3 := szs_rows bk rows es (by simpa using hl) fun i r y hr hy => h (i + 1) r y (by simpa using hr) (by simpa using hy)
    have h4 : V.sz (elemOf sz r) = V.szs r := by
      unfold elemOf
      split
      · rename_i h5
        match r, h1.trans h5 with
        | [v], _ => simp [V.szs]
      · rfl
    simp only [List.map_cons, V.szs, sumB, h4]
    omega
  | [], _ :: _, hl, _ => by simp at hl
  | _ :: _, [], hl, _ => by simp at hl
theorem repL_one {w : World} {R : Nat → Prop} {ι : Nat → Option Loc} {u : V} {x : Value} (h : Rep w R ι u x) : RepL w R ι [u] [x] :=
  ⟨rfl, fun i v y e e' => by
    cases i with
    | zero => simp at e e'; subst e; subst e'; exact h
    | succ i => simp at e⟩

theorem open_fit {H : Type} {enc : TypeId × Value → H} {P : Program} {W : World} {spare : Nat → Bool} {held : Bool} {S : List TypeId} (hS : ∀ t ∈ S, goodIn P S t = true) : ∀ (fuel : Nat) (t : TypeId) (cs : List Value) (x : DataW H × List MemPlace), t ∈ S →
    DataW.trod enc P W 0 spare held fuel t cs = some x → ∃ us, Opened P W fuel t us cs x.1
  | 0, _, _, _, _, h => by simp [DataW.trod] at h
  | n + 1, t, cs, x, ht, h => by
    have hg := hS t ht
    unfold goodIn at hg
    split at hg
    · rename_i hu
      obtain ⟨b, rfl, _⟩ := DataW.trod_bool hu h
      exact ⟨[.bool b], fun bk hb => hb.one _, fun _ => by simp only [FitsR, hu]; exact ⟨b, rfl⟩, repL_one (.bool b), by simp only [Fits, hu]; exact ⟨b, rfl⟩, by simp [V.one], rfl, (eq_of_beq hg).symm⟩
    · rename_i k hu
      obtain ⟨z, rfl, _, hw⟩ := DataW.trod_int hu h
      exact ⟨[.int k z], fun bk hb => hb.one _, fun _ => by simp only [FitsR, hu]; exact ⟨z, rfl, hw⟩, repL_one (.int k z), by simp only [Fits, hu]; exact ⟨z, rfl, hw⟩, by simp [V.one], rfl, (eq_of_beq hg).symm⟩
    · rename_i hu
      obtain ⟨s, rfl, rfl, hw⟩ := DataW.trod_string hu h
      refine ⟨[.str (s.data.toList.map UInt8.toNat)], fun bk hb => by have := hb.str s.data.toList; simpa [V.szs, V.sz] using this, fun hR => by
        unfold FitsR; rw [hu]
        refine ⟨_, rfl, ?_, fun b hb => ?_⟩
        · rw [List.length_map]
          exact hR _ (by unfold DataW.weights; exact List.mem_cons_self)
        · obtain ⟨c, _, rfl⟩ := List.mem_map.1 hb
          exact c.toNat_lt, repL_one (.str s), ?_, by simp [V.one], rfl, (eq_of_beq hg).symm⟩
      unfold Fits; rw [hu]
      refine ⟨_, rfl, by rw [List.length_map, Array.length_toList]; exact hw, fun b hb => ?_⟩
      obtain ⟨c, _, rfl⟩ := List.mem_map.1 hb
      exact c.toNat_lt
    · rename_i e hu
      simp only [Bool.and_eq_true, beq_iff_eq] at hg
      obtain ⟨hg1, hg2, hg3⟩ := hg
      have hsz : 0 < P.cellsOf e := by simpa [Nat.blt_eq] using hg2
      have heS : e ∈ S := by simpa using hg3
      rcases DataW.trod_slice hu h with ⟨rfl, _⟩ | ⟨a, len, cap, elems, rest, m, hm, rfl, hx, hb, hl, hmx, hlen, hel, _, _⟩
      · exact ⟨[.nilsl], fun bk hb => hb.one _, fun _ => by unfold FitsR; rw [hu]; exact .inl rfl, repL_one .nilsl, by unfold Fits; rw [hu]; exact .inl rfl, by simp [V.one], rfl, hg1.symm⟩
      · obtain rfl : n = m := by omega
        by_cases h0 : len = 0
        · subst h0
          exact ⟨[.esl], fun bk hb => hb.one _, fun _ => by unfold FitsR; rw [hu]; exact .inr (.inl rfl), repL_one (.esl a cap), by unfold Fits; rw [hu]; exact .inr (.inl rfl), by simp [V.one], rfl, hg1.symm⟩
        · obtain ⟨rows, hrl, hrows⟩ := build_rows (Q := fun i r => ∃ ci y, elems[i]? = some y ∧ W.cells? 0 (a.add (i * P.cellsOf e)) (P.cellsOf e) = some ci ∧ Opened P W n e r ci y.1) len fun i hi => by
            have h1 := hel i hi
            rw [List.getElem?_eq_getElem (by omega)] at h1
            obtain ⟨ci, h2, h3⟩ := bind_some h1
            obtain ⟨us, h4⟩ := open_fit hS n e ci _ heS h3
            exact ⟨us, ci, _, List.getElem?_eq_getElem (by omega), h2, h4⟩
          have hat : ∀ r ∈ rows, r.length = P.cellsOf e ∧ (∀ v ∈ r, v.one = true) ∧ V.lows 0 r = true ∧ Fits P n e r := fun r hr => by
            obtain ⟨i, hi⟩ := List.getElem?_of_mem hr
            obtain ⟨ci, _, _, _, h5⟩ := hrows i r hi
            exact ⟨h5.rep.1.trans h5.len, h5.one, h5.low, h5.fits⟩
          have hne : rows ≠ [] := fun h1 => h0 (by rw [← hrl, h1]; rfl)
          have hflat := rows_flat (sz := P.cellsOf e) (rows := rows) fun r hr => ⟨(hat r hr).1, (hat r hr).2.1⟩
          -- the first cell
          obtain ⟨r0, hr0⟩ : ∃ r0, rows[0]? = some r0 := ⟨rows[0]'(by omega), List.getElem?_eq_getElem _⟩
          obtain ⟨c0, _, _, hc0, ho0⟩ := hrows 0 r0 hr0
          have ha0 : a.add (0 * P.cellsOf e) = a := by simp [Addr.add]
          rw [ha0] at hc0
          have hblk : a.block < W.heap.size ∧ a.spot = none := by
            obtain ⟨_, hl0, hc⟩ := World.cells?_some hc0
            have h1 := hc 0 hsz
            rw [show a.add 0 = a by simp [Addr.add], List.getElem?_eq_getElem (by omega)] at h1
            unfold World.cell? at h1
            split at h1
            · rename_i c t' f hbk
              split at h1
              · cases h1
              · rename_i hs
                exact ⟨(Array.getElem?_eq_some_iff.1 hbk).1, by simpa using hs⟩
            · cases h1
          have hadd : ∀ i, a.add i = ⟨a.block, a.off + i, none⟩ := fun i => by
            obtain ⟨b, o, sp⟩ := a
            simp only at hblk
            unfold Addr.add
            split
            · rename_i h1; subst h1; rw [hblk.2]; rfl
            · rfl
          have hcell : ∀ (i : Nat) v, rows.flatten[i]? = some v → ∃ y, W.cell? ⟨a.block, a.off + i, none⟩ = some y ∧ Rep W (fun b => b < W.heap.size) (fun _ => none) v y := fun i v ev => by
            obtain ⟨r, h1, h2⟩ := rows_at hsz (fun r hr => (hat r hr).1) ev
            obtain ⟨ci, _, _, h3, h4⟩ := hrows _ r h1
            obtain ⟨_, h5, h6⟩ := World.cells?_some h3
            have hlt : i % P.cellsOf e < P.cellsOf e := Nat.mod_lt _ hsz
            have h7 := h6 _ hlt
            have h8 : i % P.cellsOf e < ci.length := by omega
            rw [List.getElem?_eq_getElem h8] at h7
            refine ⟨_, ?_, h4.rep.2 _ v _ h2 (List.getElem?_eq_getElem h8)⟩
            rw [← h7]
            congr 1
            rw [hadd]
            unfold Addr.add
            split
            · rename_i h9
              have := Nat.div_add_mod i (P.cellsOf e)
              rw [h9, Nat.mul_comm] at this
              simp only [Addr.mk.injEq, true_and, and_true]
              omega
            · have := Nat.div_add_mod i (P.cellsOf e)
              rw [Nat.mul_comm] at this
              simp only [Addr.mk.injEq, true_and, and_true]
              omega
          have hlen2 : (rows.map (elemOf (P.cellsOf e))).length = len := by simp [hrl]
          have key : Rep W (fun b => b < W.heap.size) (fun _ => none) (.fsl (rows.map (elemOf (P.cellsOf e))) none) (.slice (some a) (rows.map (elemOf (P.cellsOf e))).length cap) := by
            refine .fsl _ none a cap (P.cellsOf e) (fun i => (W.cell? ⟨a.block, a.off + i, none⟩).getD undef) hblk.2 hblk.1 (by rw [hlen2]; exact hl) (fun c' h => by cases h) (fun q hq => ?_) (fun v hv => ?_) ?_ (fun i v ev => ?_) (fun i v ev => ?_)
            · obtain ⟨r, hr, rfl⟩ := List.mem_map.1 hq
              rw [elemOf_cells (hat r hr).1 (hat r hr).2.1]
              exact (hat r hr).1
            · rw [hflat] at hv
              obtain ⟨r, hr, hv⟩ := List.mem_flatten.1 hv
              exact (hat r hr).2.1 v hv
            · rw [hflat]
              refine lows_spec.2 fun v hv => ?_
              obtain ⟨r, hr, hv⟩ := List.mem_flatten.1 hv
              exact lows_spec.1 (hat r hr).2.2.1 v hv
            · rw [hflat] at ev
              obtain ⟨y, h1, _⟩ := hcell i v ev
              simp only [h1, Option.getD_some]
            · rw [hflat] at ev
              obtain ⟨y, h1, h2⟩ := hcell i v ev
              simp only [h1, Option.getD_some]
              exact h2
          rw [hlen2] at key
          refine ⟨[.fsl (rows.map (elemOf (P.cellsOf e))) none], fun bk hbk => ?_, fun hR => ?_, repL_one key, ?_, by simp [V.one], rfl, hg1.symm⟩
          · rw [hx]
            have h1 := hbk.sl (elems.map (·.1)) (rest.map (·.1))
            have h2 : V.szs (rows.map (elemOf (P.cellsOf e))) ≤ sumB bk (elems.map (·.1)) := szs_rows bk rows elems (by omega) fun i r y hr hy => by
              obtain ⟨ci, y', h3, _, h5⟩ := hrows i r hr
              rw [hy] at h3
              cases h3
              exact ⟨(hat r (List.mem_of_getElem? hr)).1, h5.sz bk hbk⟩
            show V.szs (rows.map (elemOf (P.cellsOf e))) + 1 + 0 ≤ bk (.slice (elems.map (·.1)) (rest.map (·.1)))
            omega
          · rw [hx] at hR
            have hw : DataW.weights P t (DataW.slice (elems.map (·.1)) (rest.map (·.1))) = ((elems.map (·.1)).length + (rest.map (·.1)).length) * P.bytesOf e :: (DataW.weightsAll P e (elems.map (·.1)) ++ DataW.weightsAll P e (rest.map (·.1))) := by
              rw [DataW.weights, hu]
            simp only at hR
            rw [hw] at hR
            have h1 := hR _ List.mem_cons_self
            unfold FitsR; rw [hu]
            refine .inr (.inr ⟨rows, rfl, hne, ?_, fun r hr => ?_⟩)
            · refine Nat.le_trans (Nat.mul_le_mul_right _ ?_) h1
              simp only [List.length_map]; omega
            · obtain ⟨i, hi⟩ := List.getElem?_of_mem hr
              obtain ⟨ci, y, h3, _, h5⟩ := hrows i r hi
              exact ⟨(hat r hr).1, h5.fitsR fun w hw => hR w (List.mem_cons_of_mem _ (List.mem_append_left _ (weightsAll_mem (List.mem_map.2 ⟨y, List.mem_of_getElem? h3, rfl⟩) w hw)))⟩
          unfold Fits; rw [hu]
          exact .inr (.inr ⟨rows, rfl, hne, by omega, fun r hr => ⟨(hat r hr).1, (hat r hr).2.2.2⟩⟩)
    · rename_i fs hu
      simp only [Bool.and_eq_true, beq_iff_eq, List.all_eq_true] at hg
      obtain ⟨hg1, hg2⟩ := hg
      obtain ⟨xs, m, hm, hx, hcl, hxl, hxs⟩ := DataW.trod_struct hu h
      obtain rfl : n = m := by omega
      have key : ∀ (fl : List Field) (xl : List (DataW H × List MemPlace)) (o : Nat), xl.length = fl.length → offsEnd P fl o = some cs.length → (∀ (i : Nat) f y, fl[i]? = some f → xl[i]? = some y → f.type ∈ S ∧ DataW.trod enc P W 0 spare held n f.type ((cs.drop f.offset).take (P.cellsOf f.type)) = some y) → o ≤ cs.length →
          ∃ us, RepL W (fun b => b < W.heap.size) (fun _ => none) us (cs.drop o) ∧ FitsF P (Fits P n) fl us ∧ (∀ u ∈ us, u.one = true) ∧ V.lows 0 us = true ∧ (∀ bk : DataW H → Nat, BulkOk bk → V.szs us ≤ sumB bk (xl.map (·.1))) ∧ ((∀ w ∈ DataW.weightsEach P (fl.map (·.type)) (xl.map (·.1)), w ≤ reachBytes) → FitsF P (FitsR P n) fl us) := by
        intro fl
        induction fl with
        | nil =>
          intro xl o _ ho _ _
          cases ho
          exact ⟨[], ⟨by simp, fun i v y e => by simp at e⟩, rfl, (fun u hu => by cases hu), rfl, fun bk _ => Nat.zero_le _, fun _ => rfl⟩
        | cons f fl ih =>
          intro xl o hxl ho hf hle
          match xl, hxl with
          | y :: xl, hxl =>
          simp only [offsEnd] at ho
          split at ho
          · rename_i hoff
            subst hoff
            obtain ⟨hfS, hy⟩ := hf 0 f y rfl rfl
            obtain ⟨uf, hof⟩ := open_fit hS n f.type _ y hfS hy
            have hlf := hof.len
            rw [List.length_take, List.length_drop] at hlf
            have hlen : uf.length = P.cellsOf f.type := hof.rep.1.trans hof.len
            have hle2 : f.offset + P.cellsOf f.type ≤ cs.length := by omega
            obtain ⟨ur, h1, h2, h3, h4, h5, h8⟩ := ih xl (f.offset + P.cellsOf f.type) (by simpa using hxl) ho (fun i g y hg hy => hf (i + 1) g y (by simpa using hg) (by simpa using hy)) hle2
            refine ⟨uf ++ ur, ?_, ⟨?_, ?_⟩, ?_, ?_, ?_, fun hR => ⟨?_, ?_⟩⟩
            · have := RepL.append hof.rep h1
              rwa [← List.drop_drop, List.take_append_drop] at this
            · rw [List.take_left' hlen]; exact hof.fits
            · rw [List.drop_left' hlen]; exact h2
            · intro u hu
              rcases List.mem_append.1 hu with hu | hu
              · exact hof.one u hu
              · exact h3 u hu
            · refine lows_spec.2 fun u hu => ?_
              rcases List.mem_append.1 hu with hu | hu
              · exact lows_spec.1 hof.low u hu
              · exact lows_spec.1 h4 u hu
            · intro bk hbk
              have h6 := hof.sz bk hbk
              have h7 := h5 bk hbk
              rw [szs_app]
              simp only [List.map_cons, sumB]
              omega
            · rw [List.take_left' hlen]
              exact hof.fitsR fun w hw => hR w (by simp only [List.map_cons]; unfold DataW.weightsEach; exact List.mem_append_left _ hw)
            · rw [List.drop_left' hlen]
              exact h8 fun w hw => hR w (by simp only [List.map_cons]; unfold DataW.weightsEach; exact List.mem_append_right _ hw)
          · cases ho
      obtain ⟨us, h1, h2, h3, h4, h5, h8⟩ := key fs.toList xs 0 (by simpa using hxl) (by rw [hcl]; exact hg1) (fun i f y hf hy => by
        refine ⟨by simpa using hg2 f (List.mem_of_getElem? hf), ?_⟩
        rw [Array.getElem?_toList] at hf
        have h5 := hxs i f hf
        rw [hy] at h5
        exact h5) (Nat.zero_le _)
      rw [List.drop_zero] at h1
      exact ⟨us, fun bk hbk => by rw [hx]; exact Nat.le_trans (h5 bk hbk) (hbk.agg _), fun hR => by
        rw [hx] at hR
        have hw : DataW.weights P t (DataW.agg (xs.map (·.1))) = DataW.weightsEach P (fs.toList.map (·.type)) (xs.map (·.1)) := by rw [DataW.weights, hu]
        simp only at hR
        rw [hw] at hR
        simp only [FitsR, hu]
        exact h8 hR, h1, by simp only [Fits, hu]; exact h2, h3, h4, hcl⟩
    · cases hg

/-- a parameter of a struct type, and how much it holds -/
theorem open_structB {H : Type} {enc : TypeId × Value → H} {P : Program} {W : World} {S : List TypeId} (hS : ∀ t ∈ S, goodIn P S t = true) {t : TypeId} (ht : t ∈ S) {fs : Array Field} (hu : P.underlying t = some (.struct fs)) {v : Value} {d : DataW H} {ps : List MemPlace}
    (hval : Value.okWide P W .any 0 t v) (hd : DataW.Trod enc P W 0 (fun _ => true) true t v d ps) :
    ∃ n us, Fits P n t us ∧ Rep W (fun b => b < W.heap.size) (fun _ => none) (.agg us) v ∧ (∀ bk : DataW H → Nat, BulkOk bk → V.szs us ≤ bk d) ∧ ((∀ w ∈ d.weights P t, w ≤ reachBytes) → FitsR P n t us) := by
  unfold Value.okWide at hval
  rw [hu] at hval
  obtain ⟨cs, rfl, _, _⟩ := hval
  obtain ⟨fuel, hf⟩ := hd
  obtain ⟨us, ho⟩ := open_fit hS fuel t _ _ ht hf
  exact ⟨fuel, us, ho.fits, by
    have := ho.rep
    simp only [Value.cells] at this
    have e : cs = cs.toList.toArray := by simp
    rw [e]
    exact .agg us cs.toList this.1 ho.one this.2, ho.sz, ho.fitsR⟩
/-- a parameter of a struct type -/
theorem open_struct {H : Type} {enc : TypeId × Value → H} {P : Program} {W : World} {S : List TypeId} (hS : ∀ t ∈ S, goodIn P S t = true) {t : TypeId} (ht : t ∈ S) {fs : Array Field} (hu : P.underlying t = some (.struct fs)) {v : Value} {d : DataW H} {ps : List MemPlace}
    (hval : Value.okWide P W .any 0 t v) (hd : DataW.Trod enc P W 0 (fun _ => true) true t v d ps) :
    ∃ n us, Fits P n t us ∧ Rep W (fun b => b < W.heap.size) (fun _ => none) (.agg us) v := by
  obtain ⟨n, us, h1, h2, _⟩ := open_structB hS ht hu hval hd
  exact ⟨n, us, h1, h2⟩
/-- a parameter that is a slice, and how much it holds -/
theorem open_sliceB {H : Type} {enc : TypeId × Value → H} {P : Program} {W : World} {S : List TypeId} (hS : ∀ t ∈ S, goodIn P S t = true) {t e : TypeId} (ht : t ∈ S) (hu : P.underlying t = some (.slice e)) {v : Value} {d : DataW H} {ps : List MemPlace}
    (hval : Value.okWide P W .any 0 t v) (hd : DataW.Trod enc P W 0 (fun _ => true) true t v d ps) :
    ∃ n u, Fits P n t [u] ∧ Rep W (fun b => b < W.heap.size) (fun _ => none) u v ∧ (∀ bk : DataW H → Nat, BulkOk bk → V.sz u ≤ bk d) ∧ ((∀ w ∈ d.weights P t, w ≤ reachBytes) → FitsR P n t [u]) := by
  obtain ⟨a0, len, cap, rfl⟩ := okWide_slice hu hval
  obtain ⟨fuel, hf⟩ := hd
  obtain ⟨us, ho⟩ := open_fit hS fuel t _ _ ht hf
  have h1 := ho.rep
  simp only [Value.cells] at h1
  match us, h1, ho.fits, ho.sz, ho.fitsR with
  | [u], h1, h2, h3, h4 => exact ⟨fuel, u, h2, h1.2 0 u _ rfl rfl, fun bk hbk => by have := h3 bk hbk; simpa [V.szs] using this, h4⟩
  | [], h1, _, _, _ => have := h1.1; simp at this
  | _ :: _ :: _, h1, _, _, _ => have := h1.1; simp at this
/-- a parameter that is a slice -/
theorem open_slice {H : Type} {enc : TypeId × Value → H} {P : Program} {W : World} {S : List TypeId} (hS : ∀ t ∈ S, goodIn P S t = true) {t e : TypeId} (ht : t ∈ S) (hu : P.underlying t = some (.slice e)) {v : Value} {d : DataW H} {ps : List MemPlace}
    (hval : Value.okWide P W .any 0 t v) (hd : DataW.Trod enc P W 0 (fun _ => true) true t v d ps) :
    ∃ n u, Fits P n t [u] ∧ Rep W (fun b => b < W.heap.size) (fun _ => none) u v := by
  obtain ⟨n, u, h1, h2, _⟩ := open_sliceB hS ht hu hval hd
  exact ⟨n, u, h1, h2⟩
end Go.Ab

namespace Go.Ab

mutual
/-- a value without any memory -/
def V.atom : V → Bool
  | .bool _ | .int .. | .str _ | .flt .. | .cpx .. | .nilsl | .nilptr | .nilfn | .nilifc | .nilmp => true
  | .agg cs | .tup cs => V.atoms cs
  | .ifc _ v => V.atom v
  | .fn _ a b => V.atoms a && V.atoms b
  | .undef | .esl | .fsl .. | .msl .. | .fptr _ | .mptr .. | .mp _ => false
def V.atoms : List V → Bool
  | [] => true
  | v :: r => V.atom v && V.atoms r
end

theorem atoms_spec {l : List V} : V.atoms l = true ↔ ∀ v ∈ l, V.atom v = true := by
  induction l with
  | nil => simp [V.atoms]
  | cons v r ih => simp [V.atoms, ih]

theorem atom_at {cs : List V} (hl : V.atoms cs = true) {i : Nat} {v : V} (e : cs[i]? = some v) : V.atom v = true :=
  atoms_spec.1 hl v (List.mem_of_getElem? e)

/-- such a value is the same in every world -/
theorem Rep.atom {w w' : World} {R R' : Nat → Prop} {ι ι' : Nat → Option Loc} {v : V} {x : Value} (h : Rep w R ι v x) : V.atom v = true → Rep w' R' ι' v x := by
  induction h with
  | bool b => exact fun _ => .bool b
  | int k n => exact fun _ => .int k n
  | str x => exact fun _ => .str x
  | flt k b => exact fun _ => .flt k b
  | cpx k a b => exact fun _ => .cpx k a b
  | nilsl => exact fun _ => .nilsl
  | nilptr => exact fun _ => .nilptr
  | nilfn => exact fun _ => .nilfn
  | nilifc => exact fun _ => .nilifc
  | nilmp => exact fun _ => .nilmp
  | agg cs xs hl hone hr ih =>
    intro h; simp only [V.atom] at h
    exact .agg cs xs hl hone fun i v x ev ex => ih i v x ev ex (atom_at h ev)
  | tup cs xs hl hr ih =>
    intro h; simp only [V.atom] at h
    exact .tup cs xs hl fun i v x ev ex => ih i v x ev ex (atom_at h ev)
  | fn f pre caps xs ys hl hl' hr hr' ih ih' =>
    intro h; simp only [V.atom, Bool.and_eq_true] at h
    exact .fn f pre caps xs ys hl hl' (fun i v x ev ex => ih i v x ev ex (atom_at h.1 ev)) (fun i v x ev ex => ih' i v x ev ex (atom_at h.2 ev))
  | ifc t v x h ih =>
    intro h; simp only [V.atom] at h
    exact .ifc t v x (ih h)
  | _ => exact fun h => by simp [V.atom] at h

/-- the functions in dom answer as the table says for the arguments as they read -/
def frozenOrc (dom : Nat → Bool) (tbl : Nat → List V → Option V) (f : Nat) : Option (List V → Heap → Option (Out × Heap)) :=
  match dom f with
  | true => some fun a h => match freezes h 0 fuelF a with
    | some p => match tbl f p with
      | some u => some (.ret u, h)
      | none => none
    | none => none
  | false => none

/-- what the table says is so -/
def FrozenOk (C : Ctx) (tbl : Nat → List V → Option V) : Prop := ∀ f a u, tbl f a = some u → V.atom u = true ∧ ∃ n h1, call C n f a Heap.empty = some (.ret u, h1)

theorem frozen_ok {P : Program} {G : Nat → Option V} {C : Ctx} (hK : CodeOk P G C) (hG0 : ∀ g v, G g = some v → V.low 0 v = true) {dom : Nat → Bool} {tbl : Nat → List V → Option V} (ht : FrozenOk C tbl) :
    ∀ f g, frozenOrc dom tbl f = some g → CallsOk P G (fun f' args h => if f' = f then g args h else none) := by
  intro f g hg f' args h out h' e
  unfold frozenOrc at hg
  split at hg
  · cases hg
    simp only at e
    by_cases hff : f' = f
    · rw [if_pos hff] at e
      subst hff
      split at e
      · rename_i p hp0
        split at e
        · rename_i u hu
          cases e
          obtain ⟨hlu, n, h1, e0⟩ := ht f' p u hu
          obtain ⟨hfn, hc⟩ := call_calls hK draws_ok n f' p Heap.empty _ _ e0
          refine ⟨hfn, fun w R ι xs hr hG hx => ?_⟩
          have hι0 : ∀ id, id < 0 → (fun _ : Nat => (none : Option Loc)) id = ι id := fun id hid => absurd hid (Nat.not_lt_zero _)
          -- the blocks that are named, shut for this call
          have hR2 : ∀ b, R b → (fun b => R b ∨ ∃ id blk loc, h.get id = some blk ∧ ι id = some loc ∧ loc.b = b) b := fun b hb => .inl hb
          have hlt2 : ∀ b, (fun b => R b ∨ ∃ id blk loc, h.get id = some blk ∧ ι id = some loc ∧ loc.b = b) b → b < w.heap.size := fun b hb => by
            rcases hb with hb | ⟨id, blk, loc, e1, e2, rfl⟩
            · exact hr.lt b hb
            · exact hr.blk_lt e1 e2
          have hxs : RepL w (fun b => R b ∨ ∃ id blk loc, h.get id = some blk ∧ ι id = some loc ∧ loc.b = b) (fun _ => none) p xs.toList := by
            obtain ⟨g1, g2⟩ := freezes_at hp0
            refine ⟨g1.trans hx.1, fun i v x ev ex => ?_⟩
            have hi : i < args.length := by rw [← g1]; exact (List.getElem?_eq_some_iff.1 ev).1
            obtain ⟨k, _, hk⟩ := g2 i _ v (List.getElem?_eq_getElem hi) ev
            exact freeze_ok hr hR2 (fun id blk loc _ e1 e2 => .inr ⟨id, blk, loc, e1, e2, rfl⟩) hι0 k _ v x hk (hx.2 i _ x (List.getElem?_eq_getElem hi) ex)
          refine Calls.mono (hc w _ (fun _ => none) xs (start_rel' hlt2) (fun g v hv => ((hG g v hv).forget (n := 0) hι0 (hG0 g v hv)).mono hR2 (fun _ _ => rfl) (fun _ _ h => h)) hxs) fun en w' hen => ?_
          obtain ⟨R', ι', hp, ho⟩ := hen
          have hkeep : ∀ b, b < w.heap.size → w'.heap[b]? = w.heap[b]? := fun b hb => hp.keep b hb fun id blk loc e' e2 => by cases e2
          have hmono : ∀ {v x}, Rep w R ι v x → Rep w' R ι v x := fun hv => hv.mono (fun _ h => h) (fun b hb => hkeep b (hr.lt b hb)) (fun _ _ h => h)
          refine ⟨R, ι, ⟨⟨hr.len, hr.none, fun b hb => Nat.lt_of_lt_of_le (hr.lt b hb) hp.size, fun id l loc e e' => ?_, fun id es loc e e' => (hr.maps id es loc e e').move (hkeep _ (hr.blk_lt e e')) hmono, hr.inj, hr.apart, hr.low, hr.floor, hr.lowM⟩, fun _ h => h, fun _ _ => rfl, hp.size, hp.os, hp.tape, hp.output, fun b hb _ => hkeep b hb,
            fun id blk loc e e' => .inr ⟨id, blk, loc, e, e', rfl⟩, fun _ _ _ => rfl, Nat.le_refl _, rfl, fun b hb => .inl hb⟩, ?_⟩
          · obtain ⟨cur, t, g1, g2, g3, g4, g5⟩ := hr.cells id l loc e e'
            refine ⟨cur, t, ?_, g2, g3, g4, fun i v ev => ?_⟩
            · rw [hkeep _ (Array.getElem?_eq_some_iff.1 g1).1]; exact g1
            · obtain ⟨x, h1, h2⟩ := g5 i v ev
              exact ⟨x, h1, hmono h2⟩
          · cases en with
            | returned v => exact (show Rep w' R' ι' u v from ho).atom hlu
            | panicked ch => exact ho.elim
            | outgrown => exact ho.elim
        · cases e
      · cases e
    · rw [if_neg hff] at e; cases e
  · cases hg

mutual
/-- a value whose memory is named -/
def V.own : V → Bool
  | .bool _ | .int .. | .str _ | .flt .. | .cpx .. | .nilsl | .nilptr | .nilfn | .nilifc | .nilmp | .msl .. | .mptr .. | .mp _ => true
  | .agg cs | .tup cs => V.owns cs
  | .ifc _ v => V.own v
  | .fn _ a b => V.owns a && V.owns b
  | .undef | .esl | .fsl .. | .fptr _ => false
def V.owns : List V → Bool
  | [] => true
  | v :: r => V.own v && V.owns r
end

theorem owns_spec {l : List V} : V.owns l = true ↔ ∀ v ∈ l, V.own v = true := by
  induction l with
  | nil => simp [V.owns]
  | cons v r ih => simp [V.owns, ih]

theorem own_at {cs : List V} (hl : V.owns cs = true) {i : Nat} {v : V} (e : cs[i]? = some v) : V.own v = true :=
  owns_spec.1 hl v (List.mem_of_getElem? e)

theorem Rep.own {w : World} {R R' : Nat → Prop} {ι : Nat → Option Loc} {v : V} {x : Value} (h : Rep w R ι v x) : V.own v = true → Rep w R' ι v x := by
  induction h with
  | bool b => exact fun _ => .bool b
  | int k n => exact fun _ => .int k n
  | str x => exact fun _ => .str x
  | flt k b => exact fun _ => .flt k b
  | cpx k a b => exact fun _ => .cpx k a b
  | nilsl => exact fun _ => .nilsl
  | nilptr => exact fun _ => .nilptr
  | nilfn => exact fun _ => .nilfn
  | nilifc => exact fun _ => .nilifc
  | nilmp => exact fun _ => .nilmp
  | msl id sz off len cap loc c h1 h2 h3 h4 => exact fun _ => .msl id sz off len cap loc c h1 h2 h3 h4
  | mptr id off loc h1 => exact fun _ => .mptr id off loc h1
  | mp id loc h1 => exact fun _ => .mp id loc h1
  | agg cs xs hl hone hr ih =>
    intro h; simp only [V.own] at h
    exact .agg cs xs hl hone fun i v x ev ex => ih i v x ev ex (own_at h ev)
  | tup cs xs hl hr ih =>
    intro h; simp only [V.own] at h
    exact .tup cs xs hl fun i v x ev ex => ih i v x ev ex (own_at h ev)
  | fn f pre caps xs ys hl hl' hr hr' ih ih' =>
    intro h; simp only [V.own, Bool.and_eq_true] at h
    exact .fn f pre caps xs ys hl hl' (fun i v x ev ex => ih i v x ev ex (own_at h.1 ev)) (fun i v x ev ex => ih' i v x ev ex (own_at h.2 ev))
  | ifc t v x h ih =>
    intro h; simp only [V.own] at h
    exact .ifc t v x (ih h)
  | _ => exact fun h => by simp [V.own] at h

/-- a block without shut memory, or none -/
def Blk.clean : Option Blk → Option Blk
  | some (.cells l) => match V.owns l with
    | true => some (.cells l)
    | false => none
  | _ => none
/-- the heap without the blocks that have shut memory -/
def Heap.clean (h : Heap) : Heap := { h with bl := h.bl.map Blk.clean }

theorem Heap.clean_get {h : Heap} {id : Nat} {b : Blk} (e : h.clean.get id = some b) : h.get id = some b ∧ ∃ l, b = .cells l ∧ V.owns l = true := by
  unfold Heap.get Heap.clean at e
  unfold Heap.get
  simp only at e
  split at e
  · rename_i hlt
    simp only [hlt, if_true]
    rw [List.getElem?_map] at e
    cases hb : h.bl[h.next - 1 - id]? with
    | none => rw [hb] at e; cases e
    | some x =>
      rw [hb] at e
      simp only [Option.map_some] at e
      cases x with
      | none => cases e
      | some y =>
        cases y with
        | cells l =>
          simp only [Blk.clean] at e
          cases ho : V.owns l with
          | true => rw [ho] at e; cases e; exact ⟨rfl, l, rfl, ho⟩
          | false => rw [ho] at e; cases e
        | map es => cases e
  · cases e

/-- the functions in dom answer as the table says, with memory that is theirs and is shut from then on -/
def FreshOk (C : Ctx) (tbl : Nat → List V → Option V) : Prop := ∀ f a u, tbl f a = some u → ∃ n h1 u0 k, call C n f a Heap.empty = some (.ret u0, h1) ∧ V.own u0 = true ∧ freeze h1.clean 0 k u0 = some u

theorem fresh_ok {P : Program} {G : Nat → Option V} {C : Ctx} (hK : CodeOk P G C) (hG0 : ∀ g v, G g = some v → V.low 0 v = true) {dom : Nat → Bool} {tbl : Nat → List V → Option V} (ht : FreshOk C tbl) :
    ∀ f g, frozenOrc dom tbl f = some g → CallsOk P G (fun f' args h => if f' = f then g args h else none) := by
  intro f g hg f' args h out h' e
  unfold frozenOrc at hg
  split at hg
  · cases hg
    simp only at e
    by_cases hff : f' = f
    · rw [if_pos hff] at e
      subst hff
      split at e
      · rename_i p hp0
        split at e
        · rename_i u hu
          cases e
          obtain ⟨n, h1, u0, k0, e0, hu0, hfz⟩ := ht f' p u hu
          obtain ⟨hfn, hc⟩ := call_calls hK draws_ok n f' p Heap.empty _ _ e0
          refine ⟨hfn, fun w R ι xs hr hG hx => ?_⟩
          have hι0 : ∀ id, id < 0 → (fun _ : Nat => (none : Option Loc)) id = ι id := fun id hid => absurd hid (Nat.not_lt_zero _)
          have hR2 : ∀ b, R b → (fun b => R b ∨ ∃ id blk loc, h.get id = some blk ∧ ι id = some loc ∧ loc.b = b) b := fun b hb => .inl hb
          have hlt2 : ∀ b, (fun b => R b ∨ ∃ id blk loc, h.get id = some blk ∧ ι id = some loc ∧ loc.b = b) b → b < w.heap.size := fun b hb => by
            rcases hb with hb | ⟨id, blk, loc, e1, e2, rfl⟩
            · exact hr.lt b hb
            · exact hr.blk_lt e1 e2
          have hxs : RepL w (fun b => R b ∨ ∃ id blk loc, h.get id = some blk ∧ ι id = some loc ∧ loc.b = b) (fun _ => none) p xs.toList := by
            obtain ⟨g1, g2⟩ := freezes_at hp0
            refine ⟨g1.trans hx.1, fun i v x ev ex => ?_⟩
            have hi : i < args.length := by rw [← g1]; exact (List.getElem?_eq_some_iff.1 ev).1
            obtain ⟨k, _, hk⟩ := g2 i _ v (List.getElem?_eq_getElem hi) ev
            exact freeze_ok hr hR2 (fun id blk loc _ e1 e2 => .inr ⟨id, blk, loc, e1, e2, rfl⟩) hι0 k _ v x hk (hx.2 i _ x (List.getElem?_eq_getElem hi) ex)
          refine Calls.mono (hc w _ (fun _ => none) xs (start_rel' hlt2) (fun g v hv => ((hG g v hv).forget (n := 0) hι0 (hG0 g v hv)).mono hR2 (fun _ _ => rfl) (fun _ _ h => h)) hxs) fun en w' hen => ?_
          obtain ⟨R', ι', hp, ho⟩ := hen
          have hkeep : ∀ b, b < w.heap.size → w'.heap[b]? = w.heap[b]? := fun b hb => hp.keep b hb fun id blk loc e' e2 => by cases e2
          have hnew : ∀ id blk loc, h1.get id = some blk → ι' id = some loc → w.heap.size ≤ loc.b := fun id blk loc e1 e2 => by
            rcases hp.own id blk loc e1 e2 with h | ⟨id0, blk0, loc0, e3, e4, _⟩
            · exact h
            · cases e4
          have hsub : ∀ b, R b → (fun b => R b ∨ ∃ id blk loc, h1.get id = some blk ∧ ι' id = some loc ∧ loc.b = b) b := fun b hb => .inl hb
          have hmono : ∀ {v x}, Rep w R ι v x → Rep w' (fun b => R b ∨ ∃ id blk loc, h1.get id = some blk ∧ ι' id = some loc ∧ loc.b = b) ι v x := fun hv => hv.mono hsub (fun b hb => hkeep b (hr.lt b hb)) (fun _ _ h => h)
          refine ⟨fun b => R b ∨ ∃ id blk loc, h1.get id = some blk ∧ ι' id = some loc ∧ loc.b = b, ι, ⟨⟨hr.len, hr.none, fun b hb => ?_, fun id l loc e e' => ?_, fun id es loc e e' => (hr.maps id es loc e e').move (hkeep _ (hr.blk_lt e e')) hmono, hr.inj, fun id blk loc e e' hR => ?_, hr.low, hr.floor, hr.lowM⟩, hsub, fun _ _ => rfl, hp.size, hp.os, hp.tape, hp.output, fun b hb _ => hkeep b hb,
            fun id blk loc e e' => .inr ⟨id, blk, loc, e, e', rfl⟩, fun _ _ _ => rfl, Nat.le_refl _, rfl, fun b hb => ?_⟩, ?_⟩
          · rcases hb with hb | ⟨id, blk, loc, e1, e2, rfl⟩
            · exact Nat.lt_of_lt_of_le (hr.lt b hb) hp.size
            · exact hp.rel.blk_lt e1 e2
          · obtain ⟨cur, t, g1, g2, g3, g4, g5⟩ := hr.cells id l loc e e'
            refine ⟨cur, t, ?_, g2, g3, g4, fun i v ev => ?_⟩
            · rw [hkeep _ (Array.getElem?_eq_some_iff.1 g1).1]; exact g1
            · obtain ⟨x, h1, h2⟩ := g5 i v ev
              exact ⟨x, h1, hmono h2⟩
          · rcases hR with h | ⟨id2, blk2, loc2, e1, e2, e3⟩
            · exact hr.apart id blk loc e e' h
            · have h3 := hr.blk_lt e e'
              have h4 := hnew id2 blk2 loc2 e1 e2
              omega
          · rcases hb with hb | ⟨id, blk, loc, e1, e2, rfl⟩
            · exact .inl hb
            · exact .inr (.inl (hnew id blk loc e1 e2))
          · cases en with
            | returned v =>
              have hv : Rep w' R' ι' u0 v := ho
              have hz : HRel w' (fun _ => False) ι' h1.clean := by
                have q := hp.rel
                refine ⟨by simp only [Heap.clean, List.length_map]; exact q.len, q.none, fun _ h => h.elim, fun id l loc e1 e2 => ?_, fun id es loc e1 e2 => ?_, fun id id' blk blk' loc loc' e1 e2 => q.inj id id' blk blk' loc loc' (Heap.clean_get e1).1 (Heap.clean_get e2).1, fun _ _ _ _ _ h => h,
                  fun f hf id l loc hid e1 => q.low f hf id l loc hid (Heap.clean_get e1).1, q.floor, fun f hf id es loc hid e1 => q.lowM f hf id es loc hid (Heap.clean_get e1).1⟩
                · obtain ⟨e3, l', hl', hol⟩ := Heap.clean_get e1
                  cases hl'
                  obtain ⟨cur, t, g1, g2, g3, g4, g5⟩ := q.cells id l loc e3 e2
                  refine ⟨cur, t, g1, g2, g3, g4, fun i v ev => ?_⟩
                  obtain ⟨x, h1, h2⟩ := g5 i v ev
                  exact ⟨x, h1, h2.own (own_at hol ev)⟩
                · obtain ⟨_, l', hl', _⟩ := Heap.clean_get e1
                  cases hl'
              exact freeze_ok hz (fun _ h => h.elim) (fun id blk loc _ e1 e2 => .inr ⟨id, blk, loc, (Heap.clean_get e1).1, e2, rfl⟩) (fun id hid => absurd hid (Nat.not_lt_zero _)) k0 u0 u v hfz (hv.own hu0)
            | panicked ch => exact ho.elim
            | outgrown => exact ho.elim
        · cases e
      · cases e
    · rw [if_neg hff] at e; cases e
  · cases hg
end Go.Ab

namespace Go.Ab

/-- a function's plain answer at the empty heap -/
def Plain (D : OCtx) (f : Nat) (a : List V) (u : V) : Prop := V.atom u = true ∧ ∃ n h1, callFast D n f a Heap.empty = some (.ret u, h1)
/-- a function's answer at the empty heap, with the memory that it made -/
def Fresh (D : OCtx) (f : Nat) (a : List V) (u : V) : Prop := ∃ n h1 u0, callFast D n f a Heap.empty = some (.ret u0, h1) ∧ V.own u0 = true ∧ freeze h1.clean 0 fuelF u0 = some u

theorem callFast_le {D : OCtx} {n m f : Nat} {a : List V} {h : Heap} {r : Out × Heap} (hnm : n ≤ m) (e : callFast D n f a h = some r) : callFast D m f a h = some r :=
  callT_le (execT_le D hnm) e

theorem callFast_det {D : OCtx} {n m f : Nat} {a : List V} {h : Heap} {r r' : Out × Heap} (e : callFast D n f a h = some r) (e' : callFast D m f a h = some r') : r = r' := by
  have h1 := callFast_le (Nat.le_max_left n m) e
  have h2 := callFast_le (Nat.le_max_right n m) e'
  rw [h1] at h2
  exact Option.some.inj h2

open Classical in
noncomputable def plainTbl (D : OCtx) (f : Nat) (a : List V) : Option V := if h : ∃ u, Plain D f a u then some (Classical.choose h) else none
open Classical in
noncomputable def freshTbl (D : OCtx) (f : Nat) (a : List V) : Option V := if h : ∃ u, Fresh D f a u then some (Classical.choose h) else none

theorem plainTbl_eq {D : OCtx} {f : Nat} {a : List V} {u : V} (hu : Plain D f a u) : plainTbl D f a = some u := by
  unfold plainTbl
  have hx : ∃ u, Plain D f a u := ⟨u, hu⟩
  rw [dif_pos hx]
  obtain ⟨_, n, h1, e1⟩ := Classical.choose_spec hx
  obtain ⟨_, m, h2, e2⟩ := hu
  have := callFast_det e1 e2
  cases this
  rfl
theorem freshTbl_eq {D : OCtx} {f : Nat} {a : List V} {u : V} (hu : Fresh D f a u) : freshTbl D f a = some u := by
  unfold freshTbl
  have hx : ∃ u, Fresh D f a u := ⟨u, hu⟩
  rw [dif_pos hx]
  obtain ⟨n, h1, u1, e1, _, f1⟩ := Classical.choose_spec hx
  obtain ⟨m, h2, u2, e2, _, f2⟩ := hu
  have := callFast_det e1 e2
  cases this
  rw [f1] at f2
  exact f2

theorem plainT_ok {C : Ctx} {D : OCtx} (hD : DFine C D) : FrozenOk C (plainTbl D) := by
  intro f a u h
  unfold plainTbl at h
  split at h
  · rename_i hx
    cases h
    obtain ⟨h1, n, h2, e⟩ := Classical.choose_spec hx
    exact ⟨h1, n, h2, callFast_eq hD e⟩
  · cases h
theorem freshT_ok {C : Ctx} {D : OCtx} (hD : DFine C D) : FreshOk C (freshTbl D) := by
  intro f a u h
  unfold freshTbl at h
  split at h
  · rename_i hx
    cases h
    obtain ⟨n, h1, u0, e, h2, h3⟩ := Classical.choose_spec hx
    exact ⟨n, h1, u0, fuelF, callFast_eq hD e, h2, h3⟩
  · cases h

/-- the functions in pl answer with plain values, those in fs with memory of their own, as they do one layer below -/
noncomputable def layOrc (D : OCtx) (pl fs : Nat → Bool) (f : Nat) : Option (List V → Heap → Option (Out × Heap)) :=
  match frozenOrc pl (plainTbl D) f with
  | some g => some g
  | none => match frozenOrc fs (freshTbl D) f with
    | some g => some g
    | none => D.orc f
noncomputable def layer (D : OCtx) (pl fs : Nat → Bool) : OCtx := { code := D.code, tidy := D.tidy, orc := layOrc D pl fs }

theorem layOrc_ok {P : Program} {G : Nat → Option V} {D : OCtx} {pl fs : Nat → Bool} (hK : CodeOk P G (ctxOf P G D.tidy D.orc)) (hD : DFine (ctxOf P G D.tidy D.orc) D) (hG0 : ∀ g v, G g = some v → V.low 0 v = true) :
    ∀ f g, layOrc D pl fs f = some g → CallsOk P G (fun f' args h => if f' = f then g args h else none) := by
  intro f g h
  unfold layOrc at h
  split at h
  · rename_i g' hg
    cases h
    exact frozen_ok hK hG0 (plainT_ok hD) f g hg
  · split at h
    · rename_i g' hg
      cases h
      exact fresh_ok hK hG0 (freshT_ok hD) f g hg
    · exact hK.orc f g h
theorem layer_ok {P : Program} {G : Nat → Option V} {D : OCtx} {pl fs : Nat → Bool} (hK : CodeOk P G (ctxOf P G D.tidy D.orc)) (hD : DFine (ctxOf P G D.tidy D.orc) D) (hG0 : ∀ g v, G g = some v → V.low 0 v = true) :
    CodeOk P G (ctxOf P G (layer D pl fs).tidy (layer D pl fs).orc) := ctxOf_ok (layOrc_ok hK hD hG0)

/-- a call one layer up: with a plain answer -/
theorem CallW.plain {D : OCtx} {pl fs : Nat → Bool} {f : Nat} {args p : List V} {h : Heap} {u : V} {C : V → Heap → Prop} (hf : pl f = true) (hp : freezes h 0 fuelF args = some p) (hu : V.atom u = true)
    (w : CallW D f p Heap.empty fun v _ => v = u) (q : C u h) : CallW (layer D pl fs) f args h C := by
  obtain ⟨v, h1, ⟨n, e⟩, hv⟩ := w
  rw [hv] at e
  have hg : ∃ g, frozenOrc pl (plainTbl D) f = some g ∧ g args h = some (.ret u, h) := by
    unfold frozenOrc
    rw [hf]
    exact ⟨_, rfl, by simp only [hp, plainTbl_eq ⟨hu, n, h1, e⟩]⟩
  obtain ⟨g, h2, h3⟩ := hg
  exact CallW.orc (show layOrc D pl fs f = some g by unfold layOrc; rw [h2]) h3 q
/-- a call one layer up: with memory that is shut from then on -/
theorem CallW.fresh {D : OCtx} {pl fs : Nat → Bool} {f : Nat} {args p : List V} {h : Heap} {u : V} {C : V → Heap → Prop} (hn : pl f = false) (hf : fs f = true) (hp : freezes h 0 fuelF args = some p)
    (w : CallW D f p Heap.empty fun v h1 => V.own v = true ∧ freeze h1.clean 0 fuelF v = some u) (q : C u h) : CallW (layer D pl fs) f args h C := by
  obtain ⟨v, h1, ⟨n, e⟩, h2, h4⟩ := w
  have hg : ∃ g, frozenOrc fs (freshTbl D) f = some g ∧ g args h = some (.ret u, h) := by
    unfold frozenOrc
    rw [hf]
    exact ⟨_, rfl, by simp only [hp, freshTbl_eq ⟨n, h1, v, e, h2, h4⟩]⟩
  obtain ⟨g, h5, h6⟩ := hg
  have h7 : frozenOrc pl (plainTbl D) f = none := by unfold frozenOrc; rw [hn]
  exact CallW.orc (show layOrc D pl fs f = some g by unfold layOrc; rw [h7, h5]) h6 q
end Go.Ab

namespace Go.Ab
section
variable {D : OCtx} {cap : Nat} {m : Kn} {h : Heap} {K : Kn → Heap → Prop}

/-- a call behind which is looked again -/
theorem WS.callC {f : Nat} {xs xs' : List Opd} {d : Option Nat} {l : List Step} {ck : Nat × Option (Nat × Bool) × AOp} {chk : List (Nat × Option (Nat × Bool) × AOp)} {C : V → Heap → Prop} (e : gL (kop m) xs = some xs') (hx : dOk cap d = true) (he : CallW D f (xs'.map vev) h C)
    (w : ∀ v h', C v h' → CkOk (kput m d v) h' (ck :: chk) ∧ WS D cap l (kput m d v) h' K) : WS D cap (⟨d, .call f xs, none, ck :: chk⟩ :: l) m h K := fun fr hf => by
  have he' : CallW D f (xs.map (evT fr)) h C := by rw [hf.args e]; exact he
  obtain ⟨v, h', ⟨n1, e1⟩, hq⟩ := he'
  obtain ⟨hc, w1⟩ := w v h' hq
  have hput := hf.put hx v
  obtain ⟨st', ⟨n2, hn⟩, hk⟩ := w1 _ hput
  refine ⟨st', ⟨max n1 n2, ?_⟩, hk⟩
  show mapK (evT fr) xs (fun a => outT d ⟨fr, [], h⟩ (chkT (ck :: chk) (stepsT D (execT D (max n1 n2)) l)) (callT D (execT D (max n1 n2)) f a h)) = _
  rw [mapK_eq, callT_le (execT_le D (Nat.le_max_left n1 n2)) e1]
  show force v (fun v => chkT (ck :: chk) (stepsT D (execT D (max n1 n2)) l) (.mk (putT fr d v) [] h')) = _
  rw [force_eq]
  show Bool.rec (motive := fun _ => Option (Ex × StT)) none (stepsT D (execT D (max n1 n2)) l ⟨putT fr d v, [], h'⟩) (checksT (getT (putT fr d v)) (evT (putT fr d v)) h' (ck :: chk)) = _
  rw [hc.checks hput]
  exact stepsT_le (execT_le D (Nat.le_max_right n1 n2)) _ _ _ hn

/-- a call of a function value -/
theorem WS.callv {g g' : Opd} {f : Nat} {pre caps : List V} {xs xs' : List Opd} {d : Option Nat} {l : List Step} {C : V → Heap → Prop} (eg : kop m g = some g') (hg : vev g' = .fn f pre caps) (e : gL (kop m) xs = some xs') (hx : dOk cap d = true)
    (he : CallW D f (appL pre (appL (xs'.map vev) caps)) h C) (w : ∀ v h', C v h' → WS D cap l (kput m d v) h' K) : WS D cap (⟨d, .callv g xs, none, []⟩ :: l) m h K := fun fr hf => by
  have he' : CallW D f (appL pre (appL (xs.map (evT fr)) caps)) h C := by rw [hf.args e]; exact he
  have hgv : evT fr g = .fn f pre caps := (hf.opd eg).symm.trans hg
  obtain ⟨v, h', ⟨n1, e1⟩, hq⟩ := he'
  obtain ⟨st', ⟨n2, hn⟩, hk⟩ := w v h' hq _ (hf.put hx v)
  refine ⟨st', ⟨max n1 n2, ?_⟩, hk⟩
  show t_callv D (execT D (max n1 n2)) g xs d ⟨fr, [], h⟩ (stepsT D (execT D (max n1 n2)) l) = _
  unfold t_callv
  simp only [hgv]
  rw [mapK_eq, callT_le (execT_le D (Nat.le_max_left n1 n2)) e1]
  show force v (fun v => stepsT D (execT D (max n1 n2)) l (.mk (putT fr d v) [] h')) = _
  rw [force_eq]
  exact stepsT_le (execT_le D (Nat.le_max_right n1 n2)) _ _ _ hn
end

section
variable {D : OCtx} {pl fs : Nat → Bool} {cap : Nat} {m : Kn} {h : Heap} {K : Kn → Heap → Prop}
/-- a call one layer down, with a plain answer -/
theorem WS.plain {f : Nat} {xs xs' : List Opd} {d : Option Nat} {l : List Step} {p : List V} {u : V} (e : gL (kop m) xs = some xs') (hx : dOk cap d = true) (hf : pl f = true) (hp : freezes h 0 fuelF (xs'.map vev) = some p) (hu : V.atom u = true)
    (he : CallW D f p Heap.empty fun v _ => v = u) (w : WS (layer D pl fs) cap l (kput m d u) h K) : WS (layer D pl fs) cap (⟨d, .call f xs, none, []⟩ :: l) m h K :=
  WS.call (C := fun v h' => v = u ∧ h' = h) e hx (CallW.plain hf hp hu he ⟨rfl, rfl⟩) fun v h' hc => by obtain ⟨rfl, rfl⟩ := hc; exact w
theorem WS.plainC {f : Nat} {xs xs' : List Opd} {d : Option Nat} {l : List Step} {ck : Nat × Option (Nat × Bool) × AOp} {chk : List (Nat × Option (Nat × Bool) × AOp)} {p : List V} {u : V} (e : gL (kop m) xs = some xs') (hx : dOk cap d = true) (hf : pl f = true) (hp : freezes h 0 fuelF (xs'.map vev) = some p) (hu : V.atom u = true)
    (he : CallW D f p Heap.empty fun v _ => v = u) (hc : CkOk (kput m d u) h (ck :: chk)) (w : WS (layer D pl fs) cap l (kput m d u) h K) : WS (layer D pl fs) cap (⟨d, .call f xs, none, ck :: chk⟩ :: l) m h K :=
  WS.callC (C := fun v h' => v = u ∧ h' = h) e hx (CallW.plain hf hp hu he ⟨rfl, rfl⟩) fun v h' hc' => by obtain ⟨rfl, rfl⟩ := hc'; exact ⟨hc, w⟩
/-- a call one layer down, with memory that is shut from then on -/
theorem WS.fresh {f : Nat} {xs xs' : List Opd} {d : Option Nat} {l : List Step} {p : List V} {u : V} (e : gL (kop m) xs = some xs') (hx : dOk cap d = true) (hn : pl f = false) (hf : fs f = true) (hp : freezes h 0 fuelF (xs'.map vev) = some p)
    (he : CallW D f p Heap.empty fun v h1 => V.own v = true ∧ freeze h1.clean 0 fuelF v = some u) (w : WS (layer D pl fs) cap l (kput m d u) h K) : WS (layer D pl fs) cap (⟨d, .call f xs, none, []⟩ :: l) m h K :=
  WS.call (C := fun v h' => v = u ∧ h' = h) e hx (CallW.fresh hn hf hp he ⟨rfl, rfl⟩) fun v h' hc => by obtain ⟨rfl, rfl⟩ := hc; exact w
end
theorem o_load5 {h : Heap} {a b c d e : V} : Does (.load 5 true (.v (.fptr [a, b, c, d, e]))) h (.agg [a, b, c, d, e]) h := ⟨rfl⟩
theorem CallW.openE {D : OCtx} {f : Nat} {o : OFunc} {args : List V} {C : V → Heap → Prop} (ho : D.orc f = none) (hc : D.code f = some o) (ht : D.tidy f = false) (hn : Nat.beq (lenL args) o.np = true) (hl : Nat.ble (lenL args) 8 = true)
    (w : W D (capOfD o.dep) o.body (argsK 0 args) (hp Heap.empty []) (doneW o.results C)) : CallW D f args Heap.empty C := by
  rw [hp_nil] at w
  exact CallW.open ho hc ht hn hl w
theorem fine0 : Heap.empty.Fine := ⟨rfl, fun f m => by cases m⟩
def out1 (q : Option (Out × Heap)) : Option Out := q.map (·.1)
theorem evalW {D : OCtx} {n f : Nat} {a : List V} {h : Heap} {u : V} (e : out1 (callFast D n f a h) = some (.ret u)) : CallW D f a h fun v _ => v = u := by
  unfold out1 at e
  obtain ⟨⟨o, h'⟩, h1, h2⟩ := map_some e
  cases h2
  exact ⟨u, h', ⟨n, h1⟩, rfl⟩
/-- a call's answer with the memory that it made, as it reads -/
def outF (q : Option (Out × Heap)) : Option V := match q with
  | some (.ret v, h1) => (match V.own v with
    | true => freeze h1.clean 0 fuelF v
    | false => none)
  | _ => none
theorem evalF {D : OCtx} {n f : Nat} {a : List V} {u : V} (e : outF (callFast D n f a Heap.empty) = some u) : CallW D f a Heap.empty fun v h1 => V.own v = true ∧ freeze h1.clean 0 fuelF v = some u := by
  unfold outF at e
  split at e
  · rename_i v h1 hq
    split at e
    · rename_i ho
      exact ⟨v, h1, ⟨n, hq⟩, ho, e⟩
    · cases e
  · cases e
end Go.Ab

namespace Go.Ab

/-- what a table of facts must say -/
def Said (D : OCtx) (f : Nat) (e : List V → Option V) : Prop := ∀ a u, e a = some u → V.lows 0 a = true ∧ V.low 0 u = true ∧ CallW D f a Heap.empty fun v _ => v = u
/-- what a table of calls on frozen copies must say -/
def SaidF (D : OCtx) (f : Nat) (e : List V → Option V) : Prop := ∀ a u, e a = some u → V.atom u = true ∧ CallW D f a Heap.empty fun v _ => v = u
/-- tables of some functions -/
def rows : List (Nat × (List V → Option V)) → Nat → List V → Option V
  | [], _, _ => none
  | p :: r, f, a => match Nat.beq f p.1 with
    | true => p.2 a
    | false => rows r f a
def names : List (Nat × (List V → Option V)) → Nat → Bool
  | [], _ => false
  | p :: r, f => Nat.beq f p.1 || names r f
theorem rows_ok {T : Nat → List V → V → Prop} : ∀ {l : List (Nat × (List V → Option V))}, (∀ p ∈ l, ∀ a u, p.2 a = some u → T p.1 a u) → ∀ f a u, rows l f a = some u → T f a u
  | [], _, f, a, u, e => by cases e
  | p :: r, h, f, a, u, e => by
    unfold rows at e
    split at e
    · rename_i hb
      have := Nat.eq_of_beq_eq_true hb
      subst this
      exact h p (List.mem_cons_self ..) a u e
    · exact rows_ok (fun q hq => h q (List.mem_cons_of_mem _ hq)) f a u e
/-- a layer of facts -/
def over (D : OCtx) (l : List (Nat × (List V → Option V))) : OCtx := { D with orc := fun f => match factsOrc (names l) (rows l) f with
  | some g => some g
  | none => D.orc f }
/-- a layer of calls on frozen copies -/
def overF (D : OCtx) (l : List (Nat × (List V → Option V))) : OCtx := { D with orc := fun f => match frozenOrc (names l) (rows l) f with
  | some g => some g
  | none => D.orc f }
theorem over_ok {P : Program} {G : Nat → Option V} {D : OCtx} {l : List (Nat × (List V → Option V))} (hK : CodeOk P G (ctxOf P G D.tidy D.orc)) (hD : DFine (ctxOf P G D.tidy D.orc) D) (hG0 : ∀ g v, G g = some v → V.low 0 v = true)
    (h : ∀ p ∈ l, Said D p.1 p.2) : CodeOk P G (ctxOf P G (over D l).tidy (over D l).orc) := ctxOf_ok fun f g hg => by
  simp only [over] at hg
  split at hg
  · rename_i g' hg'
    cases hg
    refine facts_ok hK hG0 (fun f a u e => ?_) f g hg'
    obtain ⟨h1, h2, v, h', ⟨n, e1⟩, rfl⟩ := rows_ok (T := fun f a u => V.lows 0 a = true ∧ V.low 0 u = true ∧ CallW D f a Heap.empty fun v _ => v = u) h f a u e
    exact ⟨h1, h2, n, h', callFast_eq hD e1⟩
  · exact hK.orc f g hg
theorem overF_ok {P : Program} {G : Nat → Option V} {D : OCtx} {l : List (Nat × (List V → Option V))} (hK : CodeOk P G (ctxOf P G D.tidy D.orc)) (hD : DFine (ctxOf P G D.tidy D.orc) D) (hG0 : ∀ g v, G g = some v → V.low 0 v = true)
    (h : ∀ p ∈ l, SaidF D p.1 p.2) : CodeOk P G (ctxOf P G (overF D l).tidy (overF D l).orc) := ctxOf_ok fun f g hg => by
  simp only [overF] at hg
  split at hg
  · rename_i g' hg'
    cases hg
    refine frozen_ok hK hG0 (fun f a u e => ?_) f g hg'
    obtain ⟨h1, v, h', ⟨n, e1⟩, rfl⟩ := rows_ok (T := fun f a u => V.atom u = true ∧ CallW D f a Heap.empty fun v _ => v = u) h f a u e
    exact ⟨h1, n, h', callFast_eq hD e1⟩
  · exact hK.orc f g hg

/-- what a table of calls on frozen copies, with memory of their own, must say -/
def SaidN (D : OCtx) (f : Nat) (e : List V → Option V) : Prop := ∀ a u, e a = some u → CallW D f a Heap.empty fun v h1 => V.own v = true ∧ freeze h1.clean 0 fuelF v = some u
theorem overN_ok {P : Program} {G : Nat → Option V} {D : OCtx} {l : List (Nat × (List V → Option V))} (hK : CodeOk P G (ctxOf P G D.tidy D.orc)) (hD : DFine (ctxOf P G D.tidy D.orc) D) (hG0 : ∀ g v, G g = some v → V.low 0 v = true)
    (h : ∀ p ∈ l, SaidN D p.1 p.2) : CodeOk P G (ctxOf P G (overF D l).tidy (overF D l).orc) := ctxOf_ok fun f g hg => by
  simp only [overF] at hg
  split at hg
  · rename_i g' hg'
    cases hg
    refine fresh_ok hK hG0 (fun f a u e => ?_) f g hg'
    obtain ⟨v, h', ⟨n, e1⟩, h1, h2⟩ := rows_ok (T := fun f a u => CallW D f a Heap.empty fun v h1 => V.own v = true ∧ freeze h1.clean 0 fuelF v = some u) h f a u e
    exact ⟨n, h', v, fuelF, callFast_eq hD e1, h1, h2⟩
  · exact hK.orc f g hg

/-- a fact that is looked up -/
def FactIn (D : OCtx) (f : Nat) (a : List V) (u : V) : Prop := ∃ g, D.orc f = some g ∧ ∀ h, g a h = some (.ret u, h)
theorem FactIn.top {D : OCtx} {l : List (Nat × (List V → Option V))} {f : Nat} {a : List V} {u : V} (hn : names l f = true) (hr : rows l f a = some u) : FactIn (over D l) f a u := by
  have h1 : ∃ g, factsOrc (names l) (rows l) f = some g ∧ ∀ h, g a h = some (.ret u, h) := by
    unfold factsOrc
    rw [hn]
    exact ⟨_, rfl, fun h => by simp only [hr]⟩
  obtain ⟨g, h2, h3⟩ := h1
  exact ⟨g, by simp only [over, h2], h3⟩
theorem FactIn.under {D : OCtx} {l : List (Nat × (List V → Option V))} {f : Nat} {a : List V} {u : V} (hn : names l f = false) (h : FactIn D f a u) : FactIn (over D l) f a u := by
  obtain ⟨g, h1, h2⟩ := h
  exact ⟨g, by simp only [over, factsOrc, hn, h1], h2⟩
theorem FactIn.pu {D : OCtx} {f : Nat} {a : List V} {u : V} (h : FactIn D f a u) : PuF D f a u := by
  obtain ⟨g, h1, h2⟩ := h
  exact PuF.orc h1 h2
end Go.Ab

namespace Go.Ab
open Go.ChangeShapes Go.WideShapes

theorem same_kept {w w' : World} (hk : ∀ b, b < w.heap.size → w'.heap[b]? = w.heap[b]?) {p : MemPlace} (hp : p.block < w.heap.size) : w.sameAt w' p := by
  cases p with
  | cell b off => exact cell_keep (hk b hp)
  | map b => exact hk b hp

section
variable {H : Type} {enc : TypeId × Value → H} {P : Program} {W W' : World}
theorem trodAll_carry {base : Nat} {spare : Nat → Bool} {held : Bool} : ∀ {ts : List TypeId} {vs : List Value} {ds : List (DataW H)} {ps : List MemPlace}, DataW.TrodAll enc P W base spare held ts vs ds ps → (∀ p ∈ ps, W.sameAt W' p) → DataW.TrodAll enc P W' base spare held ts vs ds ps
  | [], [], [], _, h, _ => h
  | _ :: _, _ :: _, _ :: _, _, ⟨p, q, ⟨n, h1⟩, h2, e⟩, hs => ⟨p, q, ⟨n, DataW.trod_carry n _ _ _ h1 fun x hx => hs x (by rw [e]; exact List.mem_append_left _ hx)⟩, trodAll_carry h2 (fun x hx => hs x (by rw [e]; exact List.mem_append_right _ hx)), e⟩
theorem trodAll_again (K : Kids P (· < P.types.size)) (hz : ∀ t e, t < P.types.size → P.underlying t = some (.slice e) → 0 < P.cellsOf e) (hk : ∀ b, b < W.heap.size → W'.heap[b]? = W.heap[b]?) {ts : List TypeId} {vs : List Value} {ds : List (DataW H)} {ps : List MemPlace} (hts : ∀ t ∈ ts, t < P.types.size)
    (h : DataW.TrodAll enc P W 0 (fun _ => true) true ts vs ds ps) : DataW.TrodAll enc P W' 0 (fun b => decide (b < W.heap.size)) true ts vs ds ps := by
  have hlt := DataW.TrodAll.lt h
  exact trodAll_carry (DataW.TrodAll.respare K hz hts h fun p hp => decide_eq_true (hlt p hp)) fun p hp => same_kept hk (hlt p hp)

/-- a list of whole numbers, as the machine sees it -/
def intsV (l : List Int) : List V := l.map (V.int .i64)
/-- the value of a slice of whole numbers that is shut -/
def IsInts (u : V) (l : List Int) : Prop := (u = .nilsl ∧ l = []) ∨ (u = .esl ∧ l = []) ∨ (u = .fsl (intsV l) none ∧ l ≠ [])
theorem IsInts.len {u : V} {l : List Int} (h : IsInts u l) : lenOf u = some l.length := by
  rcases h with ⟨rfl, rfl⟩ | ⟨rfl, rfl⟩ | ⟨rfl, _⟩ <;> simp [lenOf, intsV]
theorem IsInts.row {u : V} {l : List Int} {h0 : Heap} (h : IsInts u l) : h0.row 1 u = some (intsV l) := by
  rcases h with ⟨rfl, rfl⟩ | ⟨rfl, rfl⟩ | ⟨rfl, _⟩
  · rfl
  · rfl
  · have h1 : (intsV l).all (fun e => decide (e.cells.length = 1)) = true := by simp [intsV, List.all_map, Function.comp_def, V.cells]
    have h2 : ∀ l : List Int, (intsV l).flatMap V.cells = intsV l := fun l => by
      induction l with
      | nil => rfl
      | cons a r ih => show V.cells (.int .i64 a) ++ (intsV r).flatMap V.cells = _; rw [ih]; rfl
    simp only [Heap.row, h1, if_true, h2]
theorem o_lenI {u : V} {l : List Int} {h0 : Heap} (h : IsInts u l) : Does (.len 1 (.v u)) h0 (.int .i64 (l.length : Nat)) h0 := by
  refine ⟨?_⟩; rw [op1v]
  have hr := h.len
  rcases h with ⟨rfl, rfl⟩ | ⟨rfl, rfl⟩ | ⟨rfl, _⟩ <;> (simp only [op1, ev, hr, if_true]; rfl)
theorem o_iaddrI {u : V} {l : List Int} {h0 : Heap} {k : IntKind} {i : Int} (n : Nat) (h : IsInts u l) (hi : i = n) (hn : n < l.length) : Does (.iaddr 1 (.v u) (.v (.int k i))) h0 (.fptr [.int .i64 (l.getD n 0)]) h0 := by
  subst hi
  refine ⟨?_⟩; rw [op1v]
  rcases h with ⟨rfl, rfl⟩ | ⟨rfl, rfl⟩ | ⟨rfl, _⟩
  · simp at hn
  · simp at hn
  · have h2 : (intsV l)[n]? = some (.int .i64 (l.getD n 0)) := by simp [intsV, List.getD, List.getElem?_eq_getElem hn]
    simp only [op1, ev, idx_nat, h2, Option.bind_some]
    rfl
theorem o_and {a : Int} {h0 : Heap} : ∃ r : Int, 0 ≤ r ∧ r ≤ 1023 ∧ Does (.bin .and (.v (.int .i64 a)) (.v (.int .i64 1023))) h0 (.int .i64 r) h0 := by
  have e0 : (BitVec.ofInt 64 1023).toNat = 1023 := by decide
  have h1 : (BitVec.ofInt 64 a &&& BitVec.ofInt 64 1023).toNat ≤ 1023 := by
    rw [BitVec.toNat_and, e0]
    exact Nat.and_le_right
  refine ⟨((BitVec.ofInt 64 a &&& BitVec.ofInt 64 1023).toNat : Nat), by omega, by omega, ⟨?_⟩⟩
  rw [op1v]
  have h2 : IntKind.wrap .i64 ((BitVec.ofInt 64 a &&& BitVec.ofInt 64 1023).toNat : Nat) = ((BitVec.ofInt 64 a &&& BitVec.ofInt 64 1023).toNat : Nat) := wrap_i64 (by omega) (by omega)
  show (((evS (Op.intBits .and .i64 a 1023)).bind ofLit).map fun v => (v, h0)) = _
  show (((evS (pure (Value.int .i64 (IntKind.wrap .i64 ((BitVec.ofInt 64 a &&& BitVec.ofInt 64 1023).toNat : Nat))) : Sem Value)).bind ofLit).map fun v => (v, h0)) = _
  rw [h2]
  rfl
theorem o_shr10 {a : Int} {h0 : Heap} : Does (.bin .shr (.v (.int .i64 a)) (.v (.int .u64 10))) h0 (.int .i64 (a.fdiv 1024)) h0 := ⟨by rw [op1v]; rfl⟩
/-- a slice that is shut -/
def IsFz (u : V) (rows : List V) : Prop := (u = .nilsl ∧ rows = []) ∨ (u = .esl ∧ rows = []) ∨ (∃ c, u = .fsl rows c)
theorem o_lenZ {u : V} {rows : List V} {h0 : Heap} (h : IsFz u rows) : Does (.len 1 (.v u)) h0 (.int .i64 (rows.length : Nat)) h0 := by
  refine ⟨?_⟩; rw [op1v]
  rcases h with ⟨rfl, rfl⟩ | ⟨rfl, rfl⟩ | ⟨c, rfl⟩ <;> rfl
theorem o_iaddrZ {u r : V} {rows : List V} {h0 : Heap} {sz : Nat} {k : IntKind} {i : Int} (n : Nat) (h : IsFz u rows) (hi : i = n) (hr : rows[n]? = some r) (hc : r.cells.length = sz) : Does (.iaddr sz (.v u) (.v (.int k i))) h0 (.fptr r.cells) h0 := by
  subst hi
  refine ⟨?_⟩; rw [op1v]
  rcases h with ⟨rfl, rfl⟩ | ⟨rfl, rfl⟩ | ⟨c, rfl⟩
  · simp at hr
  · simp at hr
  · simp only [op1, ev, idx_nat, hr, Option.bind_some, hc, if_true]
theorem IsInts.fz {u : V} {l : List Int} (h : IsInts u l) : IsFz u (intsV l) := by
  rcases h with ⟨rfl, rfl⟩ | ⟨rfl, rfl⟩ | ⟨rfl, _⟩
  · exact .inl ⟨rfl, rfl⟩
  · exact .inr (.inl ⟨rfl, rfl⟩)
  · exact .inr (.inr ⟨_, rfl⟩)
/-- a parameter that is a slice of whole numbers -/
theorem open_intsl {S : List TypeId} (hS : ∀ t ∈ S, goodIn P S t = true) {t e : TypeId} (ht : t ∈ S) (hu : P.underlying t = some (.slice e)) (he : P.underlying e = some (.int .i64)) (hc : P.cellsOf e = 1) {v : Value} {d : DataW H} {ps : List MemPlace}
    (hval : Value.okWide P W .any 0 t v) (hd : DataW.Trod enc P W 0 (fun _ => true) true t v d ps) :
    ∃ u l, IsInts u l ∧ (∀ z ∈ l, (Lit.int .i64 z).wf = true) ∧ l.length ≤ maxLen ∧ Rep W (fun b => b < W.heap.size) (fun _ => none) u v := by
  obtain ⟨n, u, hf, hr⟩ := open_slice hS ht hu hval hd
  cases n with
  | zero => exact hf.elim
  | succ n =>
    unfold Fits at hf
    rw [hu] at hf
    simp only [List.cons.injEq, and_true] at hf
    rcases hf with rfl | rfl | ⟨rows, rfl, hne, hl, hrows⟩
    · exact ⟨_, [], .inl ⟨rfl, rfl⟩, (fun z h => by cases h), Nat.zero_le _, hr⟩
    · exact ⟨_, [], .inr (.inl ⟨rfl, rfl⟩), (fun z h => by cases h), Nat.zero_le _, hr⟩
    · have key : ∀ rows : List (List V), (∀ r ∈ rows, r.length = P.cellsOf e ∧ Fits P n e r) → ∃ l : List Int, rows.map (elemOf (P.cellsOf e)) = intsV l ∧ l.length = rows.length ∧ ∀ z ∈ l, (Lit.int .i64 z).wf = true := by
        intro rows
        induction rows with
        | nil => exact fun _ => ⟨[], rfl, rfl, fun z h => by cases h⟩
        | cons r rows ih =>
          intro h
          obtain ⟨l, h1, h2, h3⟩ := ih fun q hq => h q (List.mem_cons_of_mem _ hq)
          have hr := (h r List.mem_cons_self).2
          cases n with
          | zero => exact hr.elim
          | succ n =>
            unfold Fits at hr
            rw [he] at hr
            obtain ⟨z, rfl, hz⟩ := hr
            refine ⟨z :: l, ?_, by simp [h2], fun y hy => ?_⟩
            · simp only [List.map_cons, h1]
              rw [hc]
              rfl
            · rcases List.mem_cons.1 hy with rfl | hy
              · exact hz
              · exact h3 y hy
      obtain ⟨l, h1, h2, h3⟩ := key rows hrows
      rw [h1] at hr
      exact ⟨_, l, .inr (.inr ⟨rfl, fun h => hne (by rw [h] at h2; exact List.length_eq_zero_iff.1 h2.symm)⟩), h3, by omega, hr⟩
end

/-! reading out of memory, piece by piece -/

section
variable {h : Heap} {n k : Nat}
theorem frz_int {j : IntKind} {z : Int} : Go.Ab.freeze h n (k + 1) (.int j z) = some (.int j z) := rfl
theorem frz_bool {b : Bool} : Go.Ab.freeze h n (k + 1) (.bool b) = some (.bool b) := rfl
theorem frz_str {s : List Nat} : Go.Ab.freeze h n (k + 1) (.str s) = some (.str s) := rfl
theorem frz_cpx {j : FloatKind} {a b : Nat} : Go.Ab.freeze h n (k + 1) (.cpx j a b) = some (.cpx j a b) := rfl
theorem frz_nilsl : Go.Ab.freeze h n (k + 1) .nilsl = some .nilsl := rfl
theorem frz_esl : Go.Ab.freeze h n (k + 1) .esl = some .esl := rfl
theorem frz_fsl {es : List V} {c : Option Nat} : Go.Ab.freeze h n (k + 1) (.fsl es c) = some (.fsl es c) := rfl
theorem frz_agg {cs : List V} : Go.Ab.freeze h n (k + 1) (.agg cs) = (freezes h n k cs).map .agg := rfl
theorem frz_tup {cs : List V} : Go.Ab.freeze h n (k + 1) (.tup cs) = (freezes h n k cs).map .tup := rfl
theorem frzs_nil : freezes h n k [] = some [] := by cases k <;> rfl
theorem frzs_cons {v : V} {r : List V} : freezes h n (k + 1) (v :: r) = (Go.Ab.freeze h n k v).bind fun v' => (freezes h n k r).map (v' :: ·) := rfl
end
theorem frz_msl {h0 : Heap} {bs : List (Option (List V))} {sz len k fuel : Nat} {l es : List V} (hb : bget bs k = some l) (hz : 0 < sz) (hl : len * sz ≤ l.length) (he : freezes (hp h0 bs) 0 fuel (elems sz len l) = some es) (hlo : V.lows 0 es = true) :
    Go.Ab.freeze (hp h0 bs) 0 (fuel + 1) (.msl (h0.next + k) sz 0 len none) = some (.fsl es none) := by
  have h3 : (0 + len) * sz ≤ l.length := by simpa using hl
  have h6 : l.drop (0 * sz) = l := by simp
  simp only [Go.Ab.freeze, Nat.not_lt_zero, if_false, hp_cells, hb, h3, decide_true, hz, Bool.and_self, if_true, h6, he, Option.bind_some, hlo]
theorem hload_of {bs : List (Option (List V))} {k off : Nat} {l : List V} {v : V} (e : bget bs k = some l) (d : (l.drop off).head? = some v) : hload bs k off = some v := by
  simp only [hload, e, Option.bind_some, d]
end Go.Ab

namespace Go.Ab

def kset : Kn → Nat → V → Kn
  | [], i, v => [(i, v)]
  | (j, u) :: r, i, v => match Nat.beq j i with
    | true => (i, v) :: r
    | false => (j, u) :: kset r i v
def kputS (m : Kn) (d : Option Nat) (v : V) : Kn :=
  match d with
  | some i => kset m i v
  | none => m

theorem kset_get (i : Nat) (v : V) (n : Nat) : ∀ m : Kn, (kset m i v).get n = if i = n then some v else m.get n
  | [] => get_cons i v [] n
  | (j, u) :: r => by
    unfold kset
    split
    · rename_i hb
      have := Nat.eq_of_beq_eq_true hb
      subst this
      rw [get_cons, get_cons]
      by_cases h : j = n <;> simp [h]
    · rename_i hb
      have hne : j ≠ i := Nat.ne_of_beq_eq_false hb
      rw [get_cons, get_cons, kset_get i v n r]
      by_cases h : j = n
      · subst h
        simp [Ne.symm hne]
      · simp [h]
theorem Has.putS {fr : Fr} {cap : Nat} {m : Kn} (h : Has fr cap m) {d : Option Nat} (hd : dOk cap d = true) (v : V) : Has (putT fr d v) cap (kputS m d v) := by
  have h1 := h.put hd v
  refine ⟨h1.size, fun i u e => h1.kn i u ?_⟩
  cases d with
  | none => exact e
  | some j =>
    simp only [kputS, kset_get] at e
    simp only [kput, get_cons]
    exact e

noncomputable def wantK (m : Kn) : Option (Nat × Bool) → Option Bool
  | none => some true
  | some (t, b) => match m.get t with
    | some (.bool c) => some (c == b)
    | some .undef => none
    | none => none
    | some _ => some false
noncomputable def checkK (m : Kn) (h : Heap) : List (Nat × Option (Nat × Bool) × AOp) → Bool
  | [] => true
  | (d, g, o) :: r => match (match wantK m g with
    | some true => (match mapO (kop m) o with
      | some o' => (match opF o' vev h with
        | some (v, _) => (match m.get d with
          | some u => V.beq v u
          | none => false)
        | none => false)
      | none => false)
    | some false => true
    | none => false) with
    | true => checkK m h r
    | false => false
def outK : Option (Out × Heap) → Option (V × Heap)
  | some (.ret v, h) => some (v, h)
  | _ => none

section
variable (D : OCtx) (N cap : Nat)
noncomputable def doK (o : AOp) (m : Kn) (h : Heap) : Option (V × Heap) :=
  match o with
  | .call f xs => match gL (kop m) xs with
    | some xs' => outK (callFast D N f (xs'.map vev) h)
    | none => none
  | .callv g xs => match kop m g with
    | some g' => match gL (kop m) xs with
      | some xs' => match vev g' with
        | .fn f pre caps => outK (callFast D N f (appL pre (appL (xs'.map vev) caps)) h)
        | _ => none
      | none => none
    | none => none
  | .panic _ | .defer _ _ | .recover => none
  | o => match mapO (kop m) o with
    | some o' => opF o' vev h
    | none => none
noncomputable def stepsK : List Step → Kn → Heap → Option (Kn × Heap)
  | [], m, h => some (m, h)
  | s :: l, m, h => match dOk cap s.dst with
    | false => none
    | true => match wantK m s.guard with
      | some true => (match doK D N s.op m h with
        | some (v, h') => force v fun v => (match checkK (kputS m s.dst v) h' s.chk with
          | true => stepsK l (kputS m s.dst v) h'
          | false => none)
        | none => none)
      | some false => (match checkK (kputS m s.dst (.tup [])) h s.chk with
        | true => stepsK l (kputS m s.dst (.tup [])) h
        | false => none)
      | none => none
noncomputable def codeK (self : ACode → Kn → Heap → Option (Ex × Kn × Heap)) (c : ACode) (m : Kn) (h : Heap) : Option (Ex × Kn × Heap) :=
  match c with
  | .skip | .label _ => some (.nrm, m, h)
  | .region l => (match stepsK D N cap l m h with
    | some (m', h') => some (.nrm, m', h')
    | none => none)
  | .rregion _ => none
  | .seq a b => (match self a m h with
    | some (.nrm, m', h') => self b m' h'
    | e => e)
  | .cond c a b => (match kop m c with
    | some x => (match vev x with
      | .bool true => self a m h
      | .bool false => self b m h
      | _ => none)
    | none => none)
  | .block i c => (match self c m h with
    | some (.exit j, m', h') => (match Nat.beq j i with
      | true => some (.nrm, m', h')
      | false => some (.exit j, m', h'))
    | e => e)
  | .loop c => (match self c m h with
    | some (.nrm, m', h') => self (.loop c) m' h'
    | e => e)
  | .exit i => some (.exit i, m, h)
  | .scope c => self (.inscope c c) m h
  | .inscope r c => (match self r m h with
    | some (.goto l, m', h') => (match findLabel c l with
      | some rest => self (.inscope rest c) m' h'
      | none => some (.goto l, m', h'))
    | e => e)
  | .goto l => some (.goto l, m, h)
  | .ret => some (.ret, m, h)
noncomputable def execK (n : Nat) : ACode → Kn → Heap → Option (Ex × Kn × Heap) :=
  Nat.rec (motive := fun _ => ACode → Kn → Heap → Option (Ex × Kn × Heap)) (fun _ _ _ => none) (fun _ self => codeK D N cap self) n
end

section
variable {D : OCtx} {N cap : Nat}
theorem chkT_yes {l : List (Nat × Option (Nat × Bool) × AOp)} {k : StT → Option (Ex × StT)} {st : StT} (h : checksT (getT st.fr) (evT st.fr) st.h l = true) : chkT l k st = k st := by
  cases l with
  | nil => rfl
  | cons x l =>
    show Bool.rec (motive := fun _ => Option (Ex × StT)) none (k st) (checksT (getT st.fr) (evT st.fr) st.h (x :: l)) = _
    rw [h]
theorem wantK_ok {fr : Fr} {m : Kn} (hf : Has fr cap m) {g : Option (Nat × Bool)} {b : Bool} (e : wantK m g = some b) : wantedE (getT fr) g = some b := by
  cases g with
  | none => exact e
  | some q =>
    obtain ⟨t, c⟩ := q
    unfold wantK at e
    unfold wantedE
    simp only at e ⊢
    cases hg : m.get t with
    | none => rw [hg] at e; cases e
    | some v =>
      rw [(hf.kn t v hg).2]
      rw [hg] at e
      cases v <;> first | exact e | cases e
theorem checkK_ok {fr : Fr} {m : Kn} (hf : Has fr cap m) {h : Heap} : ∀ {l : List (Nat × Option (Nat × Bool) × AOp)}, checkK m h l = true → checksT (getT fr) (evT fr) h l = true
  | [], _ => rfl
  | (d, g, o) :: r, e => by
    unfold checkK at e
    split at e
    · rename_i hx
      have ih := checkK_ok hf e
      unfold checksT
      rw [ih, Bool.and_true]
      split at hx
      · rename_i hw
        rw [wantK_ok hf hw]
        split at hx
        · rename_i o' ho
          split at hx
          · rename_i v h2 hv
            split at hx
            · rename_i u hu
              rw [← hf.op h ho, hv, (hf.kn d u hu).2]
              exact hx
            · cases hx
          · cases hx
        · cases hx
      · rename_i hw
        rw [wantK_ok hf hw]
      · cases hx
    · cases e
theorem guardT_of {fr : Fr} {g : Option (Nat × Bool)} {h : Heap} {y n : Option (Ex × StT)} {b : Bool} (e : wantedE (getT fr) g = some b) : guardT g ⟨fr, [], h⟩ y n = cond b y n := by
  cases g with
  | none => cases e; rfl
  | some q =>
    obtain ⟨t, c⟩ := q
    unfold wantedE at e
    simp only at e
    cases hv : getT fr t with
    | bool d => rw [hv] at e; cases e; simp only [guardT, hv]; cases d <;> cases c <;> rfl
    | undef => rw [hv] at e; cases e
    | _ => rw [hv] at e; cases e; simp only [guardT, hv]; rfl
theorem doK_ok {fr : Fr} {m : Kn} (hf : Has fr cap m) {o : AOp} {h h1 : Heap} {v : V} (e : doK D N o m h = some (v, h1)) {n : Nat} (hn : N ≤ n) (dst : Option Nat) (k : StT → Option (Ex × StT)) : doT D (execT D n) o dst ⟨fr, [], h⟩ k = k ⟨putT fr dst v, [], h1⟩ := by
  have callS : ∀ {f : Nat} {args : List V}, outK (callFast D N f args h) = some (v, h1) → outT dst ⟨fr, [], h⟩ k (callT D (execT D n) f args h) = k ⟨putT fr dst v, [], h1⟩ := by
    intro f args e
    cases hc : callFast D N f args h with
    | none => rw [hc] at e; cases e
    | some q =>
      obtain ⟨out, h2⟩ := q
      rw [hc] at e
      cases out with
      | pan u => cases e
      | ret u =>
        cases e
        have hc' : callT D (execT D n) f args h = some (.ret v, h1) := callT_le (execT_le D hn) hc
        rw [hc']
        show force v (fun v => k (.mk (putT fr dst v) [] h1)) = _
        rw [force_eq]
  have near : ∀ {o : AOp}, o.far = false → o.isRecover = false → (match mapO (kop m) o with
      | some o' => opF o' vev h
      | none => none) = some (v, h1) → doT D (execT D n) o dst ⟨fr, [], h⟩ k = k ⟨putT fr dst v, [], h1⟩ := by
    intro o h2 h3 e
    cases hm : mapO (kop m) o with
    | none => rw [hm] at e; cases e
    | some o' =>
      rw [hm] at e
      simp only at e
      rw [doT_near _ _ h2 h3]
      have h4 : opF o (evT fr) h = some (v, h1) := by rw [← hf.op h hm]; exact e
      simp only [nearT, h4, force_eq]
  cases o with
  | call f xs =>
    simp only [doK] at e
    cases hx : gL (kop m) xs with
    | none => rw [hx] at e; cases e
    | some xs' =>
      rw [hx] at e
      simp only at e
      show mapK (evT fr) xs (fun l => outT dst ⟨fr, [], h⟩ k (callT D (execT D n) f l h)) = _
      rw [mapK_eq, hf.args hx]
      exact callS e
  | callv g xs =>
    simp only [doK] at e
    cases hg : kop m g with
    | none => rw [hg] at e; cases e
    | some g' =>
      rw [hg] at e
      simp only at e
      cases hx : gL (kop m) xs with
      | none => rw [hx] at e; cases e
      | some xs' =>
        rw [hx] at e
        simp only at e
        have hgv := hf.opd hg
        show t_callv D (execT D n) g xs dst ⟨fr, [], h⟩ k = _
        unfold t_callv
        simp only [← hgv]
        split at e
        · rename_i f pre caps hv
          rw [hv]
          simp only
          rw [mapK_eq, hf.args hx]
          exact callS e
        · cases e
  | panic _ => cases e
  | defer _ _ => cases e
  | recover => cases e
  | _ => exact near rfl rfl e

theorem stepsK_ok : ∀ {l : List Step} {m m' : Kn} {h h' : Heap}, stepsK D N cap l m h = some (m', h') → ∀ fr, Has fr cap m → ∃ fr', Has fr' cap m' ∧ ∀ n, N ≤ n → stepsT D (execT D n) l ⟨fr, [], h⟩ = some (.nrm, ⟨fr', [], h'⟩)
  | [], m, m', h, h', e, fr, hf => by cases e; exact ⟨fr, hf, fun n _ => rfl⟩
  | ⟨dst, op, guard, chk⟩ :: l, m, m', h, h', e, fr, hf => by
    unfold stepsK at e
    simp only at e
    split at e
    · cases e
    · rename_i hd
      have unf : ∀ n, stepsT D (execT D n) (⟨dst, op, guard, chk⟩ :: l) ⟨fr, [], h⟩ = guardT guard ⟨fr, [], h⟩ (doT D (execT D n) op dst ⟨fr, [], h⟩ (chkT chk (stepsT D (execT D n) l))) (chkT chk (stepsT D (execT D n) l) (.mk (putT fr dst (.tup [])) [] h)) := fun n => by cases guard <;> rfl
      split at e
      · rename_i hw
        split at e
        · rename_i v h1 hv
          rw [force_eq] at e
          split at e
          · rename_i hc
            have hput := hf.putS hd v
            obtain ⟨fr', h2, h3⟩ := stepsK_ok e _ hput
            refine ⟨fr', h2, fun n hn => ?_⟩
            rw [unf, guardT_of (wantK_ok hf hw), cond_true]
            rw [doK_ok hf hv hn, chkT_yes (checkK_ok hput hc)]
            exact h3 n hn
          · cases e
        · cases e
      · rename_i hw
        split at e
        · rename_i hc
          have hput := hf.putS hd (.tup [])
          obtain ⟨fr', h2, h3⟩ := stepsK_ok e _ hput
          refine ⟨fr', h2, fun n hn => ?_⟩
          rw [unf, guardT_of (wantK_ok hf hw), cond_false]
          rw [chkT_yes (checkK_ok hput hc)]
          exact h3 n hn
        · cases e
      · cases e

theorem execK_ok : ∀ (n : Nat) (c : ACode) {m m' : Kn} {h h' : Heap} {ex : Ex}, execK D N cap n c m h = some (ex, m', h') → ∀ fr, Has fr cap m → ∃ fr', Has fr' cap m' ∧ Runs D c ⟨fr, [], h⟩ ex ⟨fr', [], h'⟩
  | 0, _, _, _, _, _, _, e, _, _ => by cases e
  | n + 1, c, m, m', h, h', ex, e, fr, hf => by
    have ih := execK_ok n
    have e0 : codeK D N cap (execK D N cap n) c m h = some (ex, m', h') := e
    clear e
    cases c with
    | skip => cases e0; exact ⟨fr, hf, Runs.skip⟩
    | label l => cases e0; exact ⟨fr, hf, Runs.label⟩
    | exit i => cases e0; exact ⟨fr, hf, Runs.exit⟩
    | goto l => cases e0; exact ⟨fr, hf, Runs.goto⟩
    | ret => cases e0; exact ⟨fr, hf, Runs.ret⟩
    | rregion l => cases e0
    | region l =>
      simp only [codeK] at e0
      split at e0
      · rename_i m1 h1 hs
        cases e0
        obtain ⟨fr', h2, h3⟩ := stepsK_ok hs fr hf
        exact ⟨fr', h2, Runs.region ⟨N, h3 N (Nat.le_refl _)⟩ (by simp)⟩
      · cases e0
    | seq a b =>
      simp only [codeK] at e0
      split at e0
      · rename_i m1 h1 ha
        obtain ⟨fr1, h2, h3⟩ := ih a ha fr hf
        obtain ⟨fr2, h4, h5⟩ := ih b e0 fr1 h2
        exact ⟨fr2, h4, h3.seq h5⟩
      · rename_i hne
        obtain ⟨fr1, h2, h3⟩ := ih a e0 fr hf
        exact ⟨fr1, h2, h3.seq_stop fun hx => hne m' h' (by rw [e0, hx])⟩
    | cond x a b =>
      simp only [codeK] at e0
      split at e0
      · rename_i x' hx
        have hv := hf.opd hx
        split at e0
        · rename_i hb
          obtain ⟨fr1, h2, h3⟩ := ih a e0 fr hf
          exact ⟨fr1, h2, h3.yes (by show evT fr x = _; rw [← hv, hb])⟩
        · rename_i hb
          obtain ⟨fr1, h2, h3⟩ := ih b e0 fr hf
          exact ⟨fr1, h2, h3.no (by show evT fr x = _; rw [← hv, hb])⟩
        · cases e0
      · cases e0
    | block i a =>
      simp only [codeK] at e0
      split at e0
      · rename_i j m1 h1 ha
        obtain ⟨fr1, h2, h3⟩ := ih a ha fr hf
        split at e0
        · rename_i hb
          cases e0
          have := Nat.eq_of_beq_eq_true hb
          subst this
          exact ⟨fr1, h2, h3.block_exit⟩
        · rename_i hb
          cases e0
          exact ⟨fr1, h2, h3.block_pass hb⟩
      · rename_i hne
        obtain ⟨fr1, h2, h3⟩ := ih a e0 fr hf
        exact ⟨fr1, h2, h3.block fun j hx => hne j m' h' (by rw [e0, hx])⟩
    | loop a =>
      simp only [codeK] at e0
      split at e0
      · rename_i m1 h1 ha
        obtain ⟨fr1, h2, h3⟩ := ih a ha fr hf
        obtain ⟨fr2, h4, h5⟩ := ih (.loop a) e0 fr1 h2
        exact ⟨fr2, h4, h3.loop h5⟩
      · rename_i hne
        obtain ⟨fr1, h2, h3⟩ := ih a e0 fr hf
        exact ⟨fr1, h2, h3.loop_stop fun hx => hne m' h' (by rw [e0, hx])⟩
    | scope a =>
      obtain ⟨fr1, h2, h3⟩ := ih (.inscope a a) e0 fr hf
      exact ⟨fr1, h2, h3.scope⟩
    | inscope r a =>
      simp only [codeK] at e0
      split at e0
      · rename_i l m1 h1 hr
        obtain ⟨fr1, h2, h3⟩ := ih r hr fr hf
        split at e0
        · rename_i rest hl
          obtain ⟨fr2, h4, h5⟩ := ih (.inscope rest a) e0 fr1 h2
          exact ⟨fr2, h4, h3.inscope_goto hl h5⟩
        · rename_i hl
          cases e0
          obtain ⟨k, hk⟩ := h3
          refine ⟨fr1, h2, k + 1, ?_⟩
          show (match execT D k r ⟨fr, [], h⟩ with
            | some (.goto l, st') => match findLabel a l with
              | some rest => execT D k (.inscope rest a) st'
              | none => some (.goto l, st')
            | e => e) = _
          rw [hk]
          simp only [hl]
      · rename_i hne
        obtain ⟨fr1, h2, h3⟩ := ih r e0 fr hf
        exact ⟨fr1, h2, h3.inscope fun j hx => hne j m' h' (by rw [e0, hx])⟩

/-! ### evaluated pieces of a walk -/

variable {a b c : ACode} {m : Kn} {h : Heap} {Q : Ex → Kn → Heap → Prop}
theorem W.run (n : Nat) {ex : Ex} {m' : Kn} {h' : Heap} (e : execK D N cap n c m h = some (ex, m', h')) (q : Q ex m' h') : W D cap c m h Q := fun fr hf => by
  obtain ⟨fr', h1, h2⟩ := execK_ok n c e fr hf
  exact ⟨ex, _, h2, rfl, m', h1, q⟩
/-- what is looked at behind a piece -/
def lookK (ts : List Nat) (bs : List Nat) : Option (Ex × Kn × Heap) → Option (List (Option V) × List (Option (List V)))
  | some (.nrm, m, h) => some (ts.map m.get, bs.map h.cellsOf)
  | _ => none
theorem look_sup {m : Kn} : ∀ {ts : List Nat} {vs : List V}, ts.map m.get = vs.map some → Sup m (ts.zip vs)
  | [], _, _ => trivial
  | _ :: _, [], _ => trivial
  | t :: ts, v :: vs, e => by
    simp only [List.map_cons, List.cons.injEq] at e
    exact ⟨e.1, look_sup e.2⟩
/-- a piece is evaluated, and some temporaries and blocks are looked at -/
theorem W.look (N n : Nat) (ts bs : List Nat) {vs : List V} {cs : List (Option (List V))} (e : lookK ts bs (execK D N cap n a m h) = some (vs.map some, cs)) (w : ∀ h', bs.map h'.cellsOf = cs → W D cap b (ts.zip vs) h' Q) : W D cap (.seq a b) m h Q := by
  unfold lookK at e
  split at e
  · rename_i m' h' hx
    simp only [Option.some.injEq, Prod.mk.injEq] at e
    exact W.seq (W.run n hx ((w h' e.2).sup (look_sup e.1)))
  · cases e
theorem Runs.assoc {st st' : StT} {ex : Ex} (r : Runs D (.seq (.seq a b) c) st ex st') : Runs D (.seq a (.seq b c)) st ex st' := by
  obtain ⟨n, e⟩ := r
  cases n with
  | zero => cases e
  | succ n =>
    have e1 : (match execT D n (.seq a b) st with
      | some (.nrm, st') => execT D n c st'
      | e => e) = some (ex, st') := e
    cases n with
    | zero => cases e1
    | succ n =>
      have e2 : execT D (n + 1) (.seq a b) st = (match execT D n a st with
        | some (.nrm, st') => execT D n b st'
        | e => e) := rfl
      rw [e2] at e1
      cases ha : execT D n a st with
      | none => rw [ha] at e1; cases e1
      | some q =>
        obtain ⟨x1, s1⟩ := q
        rw [ha] at e1
        cases x1 with
        | nrm =>
          simp only at e1
          cases hb : execT D n b s1 with
          | none => rw [hb] at e1; cases e1
          | some q =>
            obtain ⟨x2, s2⟩ := q
            rw [hb] at e1
            cases x2 with
            | nrm => exact Runs.seq ⟨n, ha⟩ (Runs.seq ⟨n, hb⟩ ⟨n + 1, e1⟩)
            | _ => cases e1; exact Runs.seq ⟨n, ha⟩ (Runs.seq_stop ⟨n, hb⟩ (by simp))
        | _ => cases e1; exact Runs.seq_stop ⟨n, ha⟩ (by simp)
theorem W.assoc (w : W D cap (.seq (.seq a b) c) m h Q) : W D cap (.seq a (.seq b c)) m h Q := fun fr hf => by
  obtain ⟨ex, st, h1, h2⟩ := w fr hf
  exact ⟨ex, st, h1.assoc, h2⟩
end
end Go.Ab

namespace Go.Ab

/-- what was looked at is still so; what was not done need not be -/
def CkG (m : Kn) (h : Heap) : List (Nat × Option (Nat × Bool) × AOp) → Prop
  | [] => True
  | (t, g, o) :: r => (wantK m g = some false ∨ (wantK m g = some true ∧ ∃ o' v h2, mapO (kop m) o = some o' ∧ Does o' h v h2 ∧ m.get t = some v)) ∧ CkG m h r

section
variable {D : OCtx} {cap : Nat} {m : Kn} {h : Heap} {K : Kn → Heap → Prop}
theorem CkG.checks {fr : Fr} (hf : Has fr cap m) : ∀ {l : List (Nat × Option (Nat × Bool) × AOp)}, CkG m h l → checksT (getT fr) (evT fr) h l = true
  | [], _ => rfl
  | (t, g, o) :: r, ⟨h1, hr⟩ => by
    have ih := CkG.checks hf hr
    unfold checksT
    rw [ih, Bool.and_true]
    rcases h1 with hw | ⟨hw, o', v, h2, e1, e2, e3⟩
    · rw [wantK_ok hf hw]
    · have h3 : opF o (evT fr) h = some (v, h2) := by rw [← hf.op h e1, e2.eq]
      rw [wantK_ok hf hw]
      simp only [h3, (hf.kn t v e3).2, beq_refl]

theorem stepsT_unf (n : Nat) (st : StT) (d : Option Nat) (op : AOp) (g : Option (Nat × Bool)) (ck : List (Nat × Option (Nat × Bool) × AOp)) (l : List Step) :
    stepsT D (execT D n) (⟨d, op, g, ck⟩ :: l) st = guardT g st (doT D (execT D n) op d st (chkT ck (stepsT D (execT D n) l))) (chkT ck (stepsT D (execT D n) l) (.mk (putT st.fr d (.tup [])) st.ds st.h)) := by cases g <;> rfl

/-- a condition that holds -/
theorem WS.guardC {t : Nat} {b : Bool} {op : AOp} {d : Option Nat} {l : List Step} {ck : List (Nat × Option (Nat × Bool) × AOp)} (e : m.get t = some (.bool b)) (w : WS D cap (⟨d, op, none, ck⟩ :: l) m h K) : WS D cap (⟨d, op, some (t, b), ck⟩ :: l) m h K := fun fr hf => by
  obtain ⟨st', ⟨n, hn⟩, hk⟩ := w fr hf
  refine ⟨st', ⟨n, ?_⟩, hk⟩
  rw [stepsT_unf] at hn ⊢
  have hw : wantedE (getT fr) (some (t, b)) = some true := wantK_ok hf (by unfold wantK; simp only [e]; cases b <;> rfl)
  rw [guardT_of hw]
  exact hn
/-- a condition that does not hold -/
theorem WS.passC {t : Nat} {b b' : Bool} {op : AOp} {d : Option Nat} {l : List Step} {ck : List (Nat × Option (Nat × Bool) × AOp)} (e : m.get t = some (.bool b')) (hb : b' = !b) (hx : dOk cap d = true) (hc : CkG (kput m d (.tup [])) h ck) (w : WS D cap l (kput m d (.tup [])) h K) :
    WS D cap (⟨d, op, some (t, b), ck⟩ :: l) m h K := fun fr hf => by
  have hput := hf.put hx (.tup [])
  obtain ⟨st', ⟨n, hn⟩, hk⟩ := w _ hput
  refine ⟨st', ⟨n, ?_⟩, hk⟩
  rw [stepsT_unf]
  have hw : wantedE (getT fr) (some (t, b)) = some false := wantK_ok hf (by unfold wantK; simp only [e]; subst hb; cases b <;> rfl)
  rw [guardT_of hw, cond_false, chkT_yes (hc.checks hput)]
  exact hn
/-- a call behind which is looked again, where conditions hold -/
theorem WS.callG {f : Nat} {xs xs' : List Opd} {d : Option Nat} {l : List Step} {ck : List (Nat × Option (Nat × Bool) × AOp)} {C : V → Heap → Prop} (e : gL (kop m) xs = some xs') (hx : dOk cap d = true) (he : CallW D f (xs'.map vev) h C)
    (w : ∀ v h', C v h' → CkG (kput m d v) h' ck ∧ WS D cap l (kput m d v) h' K) : WS D cap (⟨d, .call f xs, none, ck⟩ :: l) m h K := fun fr hf => by
  have he' : CallW D f (xs.map (evT fr)) h C := by rw [hf.args e]; exact he
  obtain ⟨v, h', ⟨n1, e1⟩, hq⟩ := he'
  obtain ⟨hc, w1⟩ := w v h' hq
  have hput := hf.put hx v
  obtain ⟨st', ⟨n2, hn⟩, hk⟩ := w1 _ hput
  refine ⟨st', ⟨max n1 n2, ?_⟩, hk⟩
  show mapK (evT fr) xs (fun a => outT d ⟨fr, [], h⟩ (chkT ck (stepsT D (execT D (max n1 n2)) l)) (callT D (execT D (max n1 n2)) f a h)) = _
  rw [mapK_eq, callT_le (execT_le D (Nat.le_max_left n1 n2)) e1]
  show force v (fun v => chkT ck (stepsT D (execT D (max n1 n2)) l) (.mk (putT fr d v) [] h')) = _
  rw [force_eq, chkT_yes (hc.checks hput)]
  exact stepsT_le (execT_le D (Nat.le_max_right n1 n2)) _ _ _ hn
theorem WS.puG {h0 : Heap} {bs : List (Option (List V))} (hf : h0.Fine) {f : Nat} {xs xs' : List Opd} {d : Option Nat} {l : List Step} {ck : List (Nat × Option (Nat × Bool) × AOp)} {u : V} (e : gL (kop m) xs = some xs') (hx : dOk cap d = true) (he : PuF D f (xs'.map vev) u)
    (hc : CkG (kput m d u) (hp h0 bs) ck) (w : WS D cap l (kput m d u) (hp h0 bs) K) : WS D cap (⟨d, .call f xs, none, ck⟩ :: l) m (hp h0 bs) K :=
  WS.callG e hx (he _ (hp_fine hf)) fun v h' hc' => by obtain ⟨rfl, rfl⟩ := hc'; exact ⟨hc, w⟩
end

section
variable {D : OCtx} {pl fs : Nat → Bool}
/-- what is known of a function is known one layer up -/
theorem PuF.up {f : Nat} {args p : List V} {u : V} (hf : pl f = true) (hp : ∀ h : Heap, freezes h 0 fuelF args = some p) (hu : V.atom u = true) (w : PuF D f p u) : PuF (layer D pl fs) f args u := fun h _ =>
  CallW.plain hf (hp h) hu ((w Heap.empty fine0).mono fun _ _ hc => hc.1) ⟨rfl, rfl⟩
end
/-- where a call leaves memory -/
noncomputable def heapOf (q : Option (Out × Heap)) : Heap := match q with
  | some (_, h) => h
  | none => Heap.empty
theorem evalH {D : OCtx} {n f : Nat} {a : List V} {h : Heap} {u : V} (e : out1 (callFast D n f a h) = some (.ret u)) : CallW D f a h fun v h' => v = u ∧ h' = heapOf (callFast D n f a h) := by
  unfold out1 at e
  obtain ⟨⟨o, h'⟩, h1, h2⟩ := map_some e
  cases h2
  exact ⟨u, h', ⟨n, h1⟩, rfl, by rw [h1]; rfl⟩
/-! slices that are being made, beside other blocks -/

/-- one element more: the blocks that are not the slice's are as they were -/
theorem app_all {h0 : Heap} (hf : h0.Fine) {bs : List (Option (List V))} {sz n bytes j : Nat} {v : V} {row c : List V} (hs : IsSl h0 bs sz v n row) (hj : bget bs j = some c) (hc : c.length = sz) (_ : 0 < sz) (hb : (n + 1) * bytes ≤ maxRow) :
    ∃ v' bs', Does (.app sz bytes (.v v) (.v (.msl (h0.next + j) sz 0 1 none))) (hp h0 bs) v' (hp h0 bs') ∧ IsSl h0 bs' sz v' (n + 1) (row ++ c) ∧ (∀ i l, bget bs i = some l → (∀ a b d e, v ≠ .msl (h0.next + i) a b d e) → bget bs' i = some l) ∧ (∀ i a b d e, v' = .msl (h0.next + i) a b d e → (∃ a' b' d' e', v = .msl (h0.next + i) a' b' d' e') ∨ bs.length ≤ i) ∧ bs.length ≤ bs'.length := by
  have hrow : (hp h0 bs).row sz (.msl (h0.next + j) sz 0 1 none) = some c := by
    rw [row_msl (n := 1) hj (by omega)]
    simp [← hc]
  have hmay : ∀ k vs, (hp h0 bs).mayPut (h0.next + k) vs = true := fun k vs => hp_may hf k vs
  have hmine : ∀ k, (hp h0 bs).mine (h0.next + k) = true := fun k => by
    simp only [Heap.mine, List.all_eq_true, decide_eq_true_eq]
    exact fun f m => Nat.le_trans (hf.fl f m) (Nat.le_add_right _ _)
  obtain ⟨h1, ⟨rfl, rfl⟩ | ⟨k, l, rfl, e2, e3, e4⟩⟩ := hs
  · refine ⟨.msl (h0.next + bs.length) sz 0 1 none, badd bs c, ⟨?_⟩, ⟨?_, .inr ⟨bs.length, c, rfl, bget_badd, by omega, by simp [List.length_eq_zero_iff.1 (by simpa using h1), ← hc]⟩⟩, fun i l e _ => bget_badd_lt e, fun i a b d e h => by simp only [V.msl.injEq] at h; exact .inr (by omega), by rw [badd_len]; omega⟩
    · rw [op1v]
      have hb' : 1 * bytes ≤ maxRow := by simpa using hb
      simp only [op1, ev, append, hrow, lenOf, hb', if_true]
      rw [← hp_new]
      rfl
    · simp only [List.length_append, h1, hc]; omega
  · have hk := bget_lt e2
    by_cases hroom : (n + 1) * sz ≤ l.length
    · refine ⟨.msl (h0.next + k) sz 0 (n + 1) none, bset bs k (some (l.take (n * sz) ++ c ++ l.drop ((n + 1) * sz))), ⟨?_⟩, ⟨?_, .inr ⟨k, _, rfl, bget_bset hk, ?_, ?_⟩⟩, fun i l e hne => by rw [bget_bset_ne (fun hi => by subst hi; exact hne _ _ _ _ rfl)]; exact e, fun q a b d e h => by (simp only [V.msl.injEq] at h; obtain rfl : k = q := by omega); exact .inl ⟨_, _, _, _, rfl⟩, by rw [bset_len]; omega⟩
      · rw [op1v]
        simp only [op1, ev, append, hrow, lenOf, ne_eq, not_true_eq_false, if_false, hp_cells, e2, hroom, if_true, hmay]
        rw [← hp_set h0 hk]
        rfl
      · simp only [List.length_append, h1, hc]; rw [Nat.add_mul, Nat.one_mul]
      · simp only [List.length_append, List.length_take, List.length_drop, hc]
        have : (n + 1) * sz = n * sz + sz := by rw [Nat.add_mul, Nat.one_mul]
        omega
      · have h5 : (l.take (n * sz) ++ c).length = (n + 1) * sz := by
          simp only [List.length_append, List.length_take, hc]
          have : (n + 1) * sz = n * sz + sz := by rw [Nat.add_mul, Nat.one_mul]
          omega
        rw [List.take_append_of_le_length (by omega), List.take_of_length_le (by omega), e4]
    · refine ⟨.msl (h0.next + bs.length) sz 0 (n + 1) none, badd (bset bs k none) (l.take (n * sz) ++ c), ⟨?_⟩, ⟨?_, .inr ⟨bs.length, l.take (n * sz) ++ c, rfl, ?_, ?_, ?_⟩⟩, fun i l e hne => bget_badd_lt (by rw [bget_bset_ne (fun hi => by subst hi; exact hne _ _ _ _ rfl)]; exact e), fun q a b d e h => by simp only [V.msl.injEq] at h; exact .inr (by omega), by rw [badd_len, bset_len]; omega⟩
      · rw [op1v]
        have h6 : ¬ l.length < n * sz := by omega
        simp only [op1, ev, append, hrow, lenOf, ne_eq, not_true_eq_false, if_false, hp_cells, e2, hroom, h6, hmine, hb, Bool.true_and, decide_true, if_true]
        rw [← hp_new, ← hp_set h0 hk]
        rfl
      · simp only [List.length_append, h1, hc]; rw [Nat.add_mul, Nat.one_mul]
      · have := bget_badd (bs := bset bs k none) (c := l.take (n * sz) ++ c)
        rw [bset_len] at this
        exact this
      · simp only [List.length_append, List.length_take, hc]
        have : (n + 1) * sz = n * sz + sz := by rw [Nat.add_mul, Nat.one_mul]
        omega
      · have h5 : (l.take (n * sz) ++ c).length = (n + 1) * sz := by
          simp only [List.length_append, List.length_take, hc]
          have : (n + 1) * sz = n * sz + sz := by rw [Nat.add_mul, Nat.one_mul]
          omega
        rw [List.take_of_length_le (by omega), e4]
theorem elems_sole : ∀ (l : List V), elems 1 l.length l = l
  | [] => rfl
  | v :: r => by
    simp only [List.length_cons, elems, if_true, List.headD_cons, List.drop_succ_cons, List.drop_zero, elems_sole r]
theorem lows_i64 (l : List Int) : V.lows 0 (l.map (V.int .i64)) = true := by
  induction l with
  | nil => rfl
  | cons a r ih => simp only [List.map_cons, V.lows, ih]; rfl
/-- a slice of whole numbers that was made, as it reads -/
theorem frz_ints {h0 : Heap} {bs : List (Option (List V))} {n k : Nat} {v : V} {l : List Int} (hs : IsSl h0 bs 1 v n (l.map (V.int .i64))) (hn : 0 < n) (hk : n + 2 < k) : Go.Ab.freeze (hp h0 bs) 0 (k + 1) v = some (.fsl (l.map (V.int .i64)) none) := by
  obtain ⟨h1, ⟨rfl, rfl⟩ | ⟨j, c, rfl, e2, e3, e4⟩⟩ := hs
  · omega
  · have h2 : elems 1 n c = l.map (V.int .i64) := by
      rw [← elems_take 1 n c e3, e4]
      have h3 : n = (l.map (V.int .i64)).length := by rw [h1]; omega
      rw [h3]
      exact elems_sole _
    refine frz_msl e2 (by omega) e3 ?_ (lows_i64 l)
    rw [h2]
    refine freezes_scal _ _ (by rw [h1]; omega) fun v hv => ?_
    obtain ⟨z, _, rfl⟩ := List.mem_map.1 hv
    rfl
end Go.Ab

namespace Go.Ab

/-- blocks that were there before must be the same; of newer ones those that differ are given up -/
noncomputable def meetBS : Nat → List (Option Blk) → List (Option Blk) → List V → List V → Option (List (Option Blk) × List V × List V)
  | _, [], [], a, b => some ([], a, b)
  | 0, some (.cells u) :: x, some (.cells v) :: y, a, b => (match meetBS 0 x y (.agg u :: a) (.agg v :: b) with
    | some (z, a', b') => some (some (.cells u) :: z, a', b')
    | none => none)
  | 0, none :: x, none :: y, a, b => (match meetBS 0 x y a b with
    | some (z, a', b') => some (none :: z, a', b')
    | none => none)
  | k + 1, u :: x, v :: y, a, b => (match blkBeq u v with
    | true => (match meetBS k x y a b with
      | some (z, a', b') => some (u :: z, a', b')
      | none => none)
    | false => (match meetBS k x y a b with
      | some (z, a', b') => some (none :: z, a', b')
      | none => none))
  | _, _, _, _, _ => none
theorem meetBS_ok : ∀ (k : Nat) (x y : List (Option Blk)) (a b : List V) {z : List (Option Blk)} {a' b' : List V}, meetBS k x y a b = some (z, a', b') → a' = b' → a = b ∧ meetB k x y = some z
  | 0, [], [], a, b, z, a', b', e, he => by simp only [meetBS, Option.some.injEq, Prod.mk.injEq] at e; obtain ⟨rfl, rfl, rfl⟩ := e; exact ⟨he, rfl⟩
  | k + 1, [], [], a, b, z, a', b', e, he => by simp only [meetBS, Option.some.injEq, Prod.mk.injEq] at e; obtain ⟨rfl, rfl, rfl⟩ := e; exact ⟨he, rfl⟩
  | 0, some (.cells u) :: x, some (.cells v) :: y, a, b, z, a', b', e, he => by
    simp only [meetBS] at e
    split at e
    · rename_i z1 a1 b1 h1
      simp only [Option.some.injEq, Prod.mk.injEq] at e
      obtain ⟨rfl, rfl, rfl⟩ := e
      obtain ⟨h2, h3⟩ := meetBS_ok 0 x y _ _ h1 he
      simp only [List.cons.injEq, V.agg.injEq] at h2
      obtain ⟨rfl, h4⟩ := h2
      refine ⟨h4, ?_⟩
      have : blkBeq (some (.cells u)) (some (.cells u)) = true := beqs_refl u
      simp only [meetB, this, h3, Option.map_some]
    · cases e
  | 0, none :: x, none :: y, a, b, z, a', b', e, he => by
    simp only [meetBS] at e
    split at e
    · rename_i z1 a1 b1 h1
      simp only [Option.some.injEq, Prod.mk.injEq] at e
      obtain ⟨rfl, rfl, rfl⟩ := e
      obtain ⟨h2, h3⟩ := meetBS_ok 0 x y _ _ h1 he
      refine ⟨h2, ?_⟩
      have : blkBeq none none = true := rfl
      simp only [meetB, this, h3, Option.map_some]
    · cases e
  | k + 1, u :: x, v :: y, a, b, z, a', b', e, he => by
    simp only [meetBS] at e
    split at e
    · rename_i hb
      split at e
      · rename_i z1 a1 b1 h1
        simp only [Option.some.injEq, Prod.mk.injEq] at e
        obtain ⟨rfl, rfl, rfl⟩ := e
        obtain ⟨h2, h3⟩ := meetBS_ok k x y _ _ h1 he
        exact ⟨h2, by simp only [meetB, hb, h3, Option.map_some]⟩
      · cases e
    · rename_i hb
      split at e
      · rename_i z1 a1 b1 h1
        simp only [Option.some.injEq, Prod.mk.injEq] at e
        obtain ⟨rfl, rfl, rfl⟩ := e
        obtain ⟨h2, h3⟩ := meetBS_ok k x y _ _ h1 he
        exact ⟨h2, by simp only [meetB, hb, h3, Option.map_some]⟩
      · cases e
  | 0, some (.map _) :: _, _, _, _, _, _, _, e, _ => by simp [meetBS] at e
  | 0, some (.cells _) :: _, none :: _, _, _, _, _, _, e, _ => by simp [meetBS] at e
  | 0, some (.cells _) :: _, some (.map _) :: _, _, _, _, _, _, e, _ => by simp [meetBS] at e
  | 0, some (.cells _) :: _, [], _, _, _, _, _, e, _ => by simp [meetBS] at e
  | 0, none :: _, some _ :: _, _, _, _, _, _, e, _ => by simp [meetBS] at e
  | 0, none :: _, [], _, _, _, _, _, e, _ => by simp [meetBS] at e
  | 0, [], _ :: _, _, _, _, _, _, e, _ => by simp [meetBS] at e
  | k + 1, [], _ :: _, _, _, _, _, _, e, _ => by simp [meetBS] at e
  | k + 1, _ :: _, [], _, _, _, _, _, e, _ => by simp [meetBS] at e
/-- a function that is run in two orders -/
noncomputable def twoS (o1 o2 : OFunc) (n : Nat) (args : List V) (h : Heap) (a b : List V) : Option (V × Heap × List V × List V) :=
  match bodyT D0 (execT D0 n) o1 args h with
  | some (.ret u, h1) => (match bodyT D0 (execT D0 n) o2 args h with
    | some (.ret v, h2) => (match Nat.beq h1.next h2.next with
      | true => (match meetBS (h1.next - h.next) h1.bl h2.bl (u :: a) (v :: b) with
        | some (bl, a', b') => some (u, { next := h1.next, floors := h.floors, bl := bl }, a', b')
        | none => none)
      | false => none)
    | _ => none)
  | _ => none
theorem twoS_ok {o1 o2 : OFunc} {n : Nat} {args : List V} {h h' : Heap} {v : V} {a b a' b' : List V} (e : twoS o1 o2 n args h a b = some (v, h', a', b')) (he : a' = b') : a = b ∧ bodyAny [o1, o2] n args h = some (.ret v, h') := by
  unfold twoS at e
  split at e
  · rename_i u h1 e1
    split at e
    · rename_i v2 h2 e2
      split at e
      · rename_i hn
        split at e
        · rename_i bl a2 b2 hm
          simp only [Option.some.injEq, Prod.mk.injEq] at e
          obtain ⟨rfl, rfl, rfl, rfl⟩ := e
          obtain ⟨h3, h4⟩ := meetBS_ok _ _ _ _ _ hm he
          simp only [List.cons.injEq] at h3
          obtain ⟨rfl, h5⟩ := h3
          refine ⟨h5, ?_⟩
          simp only [bodyAny, List.map_cons, List.map_nil, meetAll, e1, e2, meetR, beq_refl, hn, Bool.and_self, cond_true, h4, Option.map_some]
        · cases e
      · cases e
    · cases e
  · cases e

section
variable (D : OCtx) (two : Nat → Option (OFunc × OFunc)) (callX : Nat → List V → Heap → List V → List V → Option (V × Heap × List V × List V)) (cap : Nat)
noncomputable def checkS (m : Kn) (h : Heap) : List (Nat × Option (Nat × Bool) × AOp) → List V → List V → Option (List V × List V)
  | [], a, b => some (a, b)
  | (d, g, o) :: r, a, b => match wantK m g with
    | some true => (match mapO (kop m) o with
      | some o' => (match opF o' vev h with
        | some (v, _) => (match m.get d with
          | some u => checkS m h r (v :: a) (u :: b)
          | none => none)
        | none => none)
      | none => none)
    | some false => checkS m h r a b
    | none => none
noncomputable def doS (o : AOp) (m : Kn) (h : Heap) (a b : List V) : Option (V × Heap × List V × List V) :=
  match o with
  | .call f xs => match gL (kop m) xs with
    | some xs' => callX f (xs'.map vev) h a b
    | none => none
  | .callv g xs => match kop m g with
    | some g' => match gL (kop m) xs with
      | some xs' => match vev g' with
        | .fn f pre caps => callX f (appL pre (appL (xs'.map vev) caps)) h a b
        | _ => none
      | none => none
    | none => none
  | .panic _ | .defer _ _ | .recover => none
  | o => match mapO (kop m) o with
    | some o' => (match opF o' vev h with
      | some (v, h') => some (v, h', a, b)
      | none => none)
    | none => none
noncomputable def stepsS : List Step → Kn → Heap → List V → List V → Option (Kn × Heap × List V × List V)
  | [], m, h, a, b => some (m, h, a, b)
  | s :: l, m, h, a, b => match dOk cap s.dst with
    | false => none
    | true => match wantK m s.guard with
      | some true => (match doS callX s.op m h a b with
        | some (v, h', a', b') => force v fun v => (match checkS (kputS m s.dst v) h' s.chk a' b' with
          | some (a2, b2) => stepsS l (kputS m s.dst v) h' a2 b2
          | none => none)
        | none => none)
      | some false => (match checkS (kputS m s.dst (.tup [])) h s.chk a b with
        | some (a2, b2) => stepsS l (kputS m s.dst (.tup [])) h a2 b2
        | none => none)
      | none => none
noncomputable def codeS (self : ACode → Kn → Heap → List V → List V → Option (Ex × Kn × Heap × List V × List V)) (c : ACode) (m : Kn) (h : Heap) (a b : List V) : Option (Ex × Kn × Heap × List V × List V) :=
  match c with
  | .skip | .label _ => some (.nrm, m, h, a, b)
  | .region l => (match stepsS callX cap l m h a b with
    | some (m', h', a', b') => some (.nrm, m', h', a', b')
    | none => none)
  | .rregion _ => none
  | .seq c d => (match self c m h a b with
    | some (.nrm, m', h', a', b') => self d m' h' a' b'
    | e => e)
  | .cond x c d => (match kop m x with
    | some x' => (match vev x' with
      | .bool true => self c m h a b
      | .bool false => self d m h a b
      | _ => none)
    | none => none)
  | .block i c => (match self c m h a b with
    | some (.exit j, m', h', a', b') => (match Nat.beq j i with
      | true => some (.nrm, m', h', a', b')
      | false => some (.exit j, m', h', a', b'))
    | e => e)
  | .loop c => (match self c m h a b with
    | some (.nrm, m', h', a', b') => self (.loop c) m' h' a' b'
    | e => e)
  | .exit i => some (.exit i, m, h, a, b)
  | .scope c => self (.inscope c c) m h a b
  | .inscope r c => (match self r m h a b with
    | some (.goto l, m', h', a', b') => (match findLabel c l with
      | some rest => self (.inscope rest c) m' h' a' b'
      | none => some (.goto l, m', h', a', b'))
    | e => e)
  | .goto l => some (.goto l, m, h, a, b)
  | .ret => some (.ret, m, h, a, b)
noncomputable def execS (n : Nat) : ACode → Kn → Heap → List V → List V → Option (Ex × Kn × Heap × List V × List V) :=
  Nat.rec (motive := fun _ => ACode → Kn → Heap → List V → List V → Option (Ex × Kn × Heap × List V × List V)) (fun _ _ _ _ _ => none) (fun _ self => codeS callX cap self) n
end
def isEnd : Ex → Bool
  | .nrm | .ret => true
  | _ => false
noncomputable def callS (D : OCtx) (two : Nat → Option (OFunc × OFunc)) (n : Nat) : Nat → Nat → List V → Heap → List V → List V → Option (V × Heap × List V × List V) :=
  fun k => Nat.rec (motive := fun _ => Nat → List V → Heap → List V → List V → Option (V × Heap × List V × List V)) (fun _ _ _ _ _ => none)
    (fun _ self f args h a b => match two f with
      | some (o1, o2) => twoS o1 o2 1000 args h a b
      | none => match D.orc f with
        | some g => (match g args h with
          | some (.ret v, h') => some (v, h', a, b)
          | _ => none)
        | none => match D.code f with
          | none => none
          | some o => match Nat.beq (lenL args) o.np && Nat.ble (lenL args) 8 with
            | false => none
            | true => match D.tidy f with
              | false => (match execS self (capOfD o.dep) n o.body (argsK 0 args) h a b with
                | some (ex, m', h', a', b') => (match isEnd ex with
                  | true => (match resK m' h' o.results with
                    | some vs => some (oneOr vs, h', a', b')
                    | none => none)
                  | false => none)
                | none => none)
              | true => (match execS self (capOfD o.dep) n o.body (argsK 0 args) { h with floors := h.next :: h.floors } a b with
                | some (ex, m', h', a', b') => (match isEnd ex with
                  | true => (match resK m' h' o.results with
                    | some vs => (match Go.Ab.freeze h' h.next fuelF (oneOr vs) with
                      | some u => some (u, h'.tidied h, a', b')
                      | none => none)
                    | none => none)
                  | false => none)
                | none => none)) k

section
variable {D : OCtx} {two : Nat → Option (OFunc × OFunc)} {callX : Nat → List V → Heap → List V → List V → Option (V × Heap × List V × List V)} {cap : Nat}
/-- what the evaluator of calls must do -/
def CallsS (D : OCtx) (callX : Nat → List V → Heap → List V → List V → Option (V × Heap × List V × List V)) : Prop := ∀ f args h a b v h' a' b', callX f args h a b = some (v, h', a', b') → a' = b' → a = b ∧ CallW D f args h fun v2 h2 => v2 = v ∧ h2 = h'
theorem checkS_ok {fr : Fr} {m : Kn} (hf : Has fr cap m) {h : Heap} : ∀ {l : List (Nat × Option (Nat × Bool) × AOp)} {a b a' b' : List V}, checkS m h l a b = some (a', b') → a' = b' → a = b ∧ checksT (getT fr) (evT fr) h l = true
  | [], a, b, a', b', e, he => by cases e; exact ⟨he, rfl⟩
  | (d, g, o) :: r, a, b, a', b', e, he => by
    unfold checkS at e
    split at e
    · rename_i hw
      split at e
      · rename_i o' ho
        split at e
        · rename_i v h2 hv
          split at e
          · rename_i u hu
            obtain ⟨h3, h4⟩ := checkS_ok hf e he
            simp only [List.cons.injEq] at h3
            obtain ⟨rfl, h5⟩ := h3
            refine ⟨h5, ?_⟩
            unfold checksT
            rw [h4, Bool.and_true, wantK_ok hf hw]
            have h6 : opF o (evT fr) h = some (v, h2) := by rw [← hf.op h ho, hv]
            simp only [h6, (hf.kn d v hu).2, beq_refl]
          · cases e
        · cases e
      · cases e
    · rename_i hw
      obtain ⟨h3, h4⟩ := checkS_ok hf e he
      refine ⟨h3, ?_⟩
      unfold checksT
      rw [h4, Bool.and_true, wantK_ok hf hw]
    · cases e
theorem doS_ok (hX : CallsS D callX) {o : AOp} {m : Kn} {h h1 : Heap} {v : V} {a b a' b' : List V} (e : doS callX o m h a b = some (v, h1, a', b')) (he : a' = b') : a = b ∧ ∃ N, doK D N o m h = some (v, h1) := by
  have near : ∀ {o : AOp}, (match mapO (kop m) o with
      | some o' => (match opF o' vev h with
        | some (v, h') => some (v, h', a, b)
        | none => none)
      | none => none) = some (v, h1, a', b') → a = b ∧ (match mapO (kop m) o with
      | some o' => opF o' vev h
      | none => none) = some (v, h1) := by
    intro o e
    split at e
    · rename_i o' ho
      split at e
      · rename_i v2 h2 hv
        simp only [Option.some.injEq, Prod.mk.injEq] at e
        obtain ⟨rfl, rfl, rfl, rfl⟩ := e
        exact ⟨he, by simp only [hv]⟩
      · cases e
    · cases e
  cases o with
  | call f xs =>
    simp only [doS] at e
    split at e
    · rename_i xs' hx
      obtain ⟨h2, v2, h3, ⟨N, hc⟩, rfl, rfl⟩ := hX _ _ _ _ _ _ _ _ _ e he
      exact ⟨h2, N, by simp only [doK, hx, hc, outK]⟩
    · cases e
  | callv g xs =>
    simp only [doS] at e
    split at e
    · rename_i g' hg
      split at e
      · rename_i xs' hx
        split at e
        · rename_i f pre caps hv
          obtain ⟨h2, v2, h3, ⟨N, hc⟩, rfl, rfl⟩ := hX _ _ _ _ _ _ _ _ _ e he
          exact ⟨h2, N, by simp only [doK, hg, hx, hv, hc, outK]⟩
        · cases e
      · cases e
    · cases e
  | panic _ => cases e
  | defer _ _ => cases e
  | recover => cases e
  | alloc z =>
    obtain ⟨h2, h3⟩ := near (o := .alloc z) e
    exact ⟨h2, 0, h3⟩
  | mkmap =>
    obtain ⟨h2, h3⟩ := near (o := .mkmap) e
    exact ⟨h2, 0, h3⟩
  | _ =>
    obtain ⟨h2, h3⟩ := near e
    exact ⟨h2, 0, h3⟩
theorem stepsS_ok (hX : CallsS D callX) : ∀ {l : List Step} {m m' : Kn} {h h' : Heap} {a b a' b' : List V}, stepsS callX cap l m h a b = some (m', h', a', b') → a' = b' → a = b ∧ ∀ fr, Has fr cap m → ∃ fr', Has fr' cap m' ∧ ∃ N, ∀ n, N ≤ n → stepsT D (execT D n) l ⟨fr, [], h⟩ = some (.nrm, ⟨fr', [], h'⟩)
  | [], m, m', h, h', a, b, a', b', e, he => by cases e; exact ⟨he, fun fr hf => ⟨fr, hf, 0, fun n _ => rfl⟩⟩
  | ⟨dst, op, guard, chk⟩ :: l, m, m', h, h', a, b, a', b', e, he => by
    unfold stepsS at e
    simp only at e
    split at e
    · cases e
    · rename_i hd
      split at e
      · rename_i hw
        split at e
        · rename_i v h1 a1 b1 hv
          rw [force_eq] at e
          split at e
          · rename_i a2 b2 hc
            obtain ⟨h2, h3⟩ := stepsS_ok hX e he
            have h0 : a1 = b1 := by
              have key : ∀ (m : Kn) (h : Heap) (l : List (Nat × Option (Nat × Bool) × AOp)) (a b a' b' : List V), checkS m h l a b = some (a', b') → a' = b' → a = b := by
                intro m h l
                induction l with
                | nil => intro a b a' b' e he; cases e; exact he
                | cons x r ih =>
                  intro a b a' b' e he
                  obtain ⟨d, g, o⟩ := x
                  unfold checkS at e
                  split at e
                  · split at e
                    · split at e
                      · split at e
                        · have := ih _ _ _ _ e he
                          simp only [List.cons.injEq] at this
                          exact this.2
                        · cases e
                      · cases e
                    · cases e
                  · exact ih _ _ _ _ e he
                  · cases e
              exact key _ _ _ _ _ _ _ hc h2
            obtain ⟨h4, N1, hv'⟩ := doS_ok hX hv h0
            refine ⟨h4, fun fr hf => ?_⟩
            have hput := hf.putS hd v
            obtain ⟨fr', h5, N2, h6⟩ := h3 _ hput
            refine ⟨fr', h5, max N1 N2, fun n hn => ?_⟩
            rw [stepsT_unf, guardT_of (wantK_ok hf hw), cond_true]
            rw [doK_ok hf hv' (Nat.le_trans (Nat.le_max_left _ _) hn), chkT_yes (checkS_ok hput hc h2).2]
            exact h6 n (Nat.le_trans (Nat.le_max_right _ _) hn)
          · cases e
        · cases e
      · rename_i hw
        split at e
        · rename_i a2 b2 hc
          obtain ⟨h2, h3⟩ := stepsS_ok hX e he
          have h0 : a = b := by
            have key : ∀ (m : Kn) (h : Heap) (l : List (Nat × Option (Nat × Bool) × AOp)) (a b a' b' : List V), checkS m h l a b = some (a', b') → a' = b' → a = b := by
              intro m h l
              induction l with
              | nil => intro a b a' b' e he; cases e; exact he
              | cons x r ih =>
                intro a b a' b' e he
                obtain ⟨d, g, o⟩ := x
                unfold checkS at e
                split at e
                · split at e
                  · split at e
                    · split at e
                      · have := ih _ _ _ _ e he
                        simp only [List.cons.injEq] at this
                        exact this.2
                      · cases e
                    · cases e
                  · cases e
                · exact ih _ _ _ _ e he
                · cases e
            exact key _ _ _ _ _ _ _ hc h2
          refine ⟨h0, fun fr hf => ?_⟩
          have hput := hf.putS hd (.tup [])
          obtain ⟨fr', h5, N2, h6⟩ := h3 _ hput
          refine ⟨fr', h5, N2, fun n hn => ?_⟩
          rw [stepsT_unf, guardT_of (wantK_ok hf hw), cond_false, chkT_yes (checkS_ok hput hc h2).2]
          exact h6 n hn
        · cases e
      · cases e
theorem execS_ok (hX : CallsS D callX) : ∀ (n : Nat) (c : ACode) {m m' : Kn} {h h' : Heap} {ex : Ex} {a b a' b' : List V}, execS callX cap n c m h a b = some (ex, m', h', a', b') → a' = b' → a = b ∧ ∀ fr, Has fr cap m → ∃ fr', Has fr' cap m' ∧ Runs D c ⟨fr, [], h⟩ ex ⟨fr', [], h'⟩
  | 0, _, _, _, _, _, _, _, _, _, _, e, _ => by cases e
  | n + 1, c, m, m', h, h', ex, a, b, a', b', e, he => by
    have ih := execS_ok hX n
    have e0 : codeS callX cap (execS callX cap n) c m h a b = some (ex, m', h', a', b') := e
    clear e
    cases c with
    | skip => cases e0; exact ⟨he, fun fr hf => ⟨fr, hf, Runs.skip⟩⟩
    | label l => cases e0; exact ⟨he, fun fr hf => ⟨fr, hf, Runs.label⟩⟩
    | exit i => cases e0; exact ⟨he, fun fr hf => ⟨fr, hf, Runs.exit⟩⟩
    | goto l => cases e0; exact ⟨he, fun fr hf => ⟨fr, hf, Runs.goto⟩⟩
    | ret => cases e0; exact ⟨he, fun fr hf => ⟨fr, hf, Runs.ret⟩⟩
    | rregion l => cases e0
    | region l =>
      simp only [codeS] at e0
      split at e0
      · rename_i m1 h1 a1 b1 hs
        cases e0
        obtain ⟨h2, h3⟩ := stepsS_ok hX hs he
        refine ⟨h2, fun fr hf => ?_⟩
        obtain ⟨fr', h4, N, h5⟩ := h3 fr hf
        exact ⟨fr', h4, Runs.region ⟨N, h5 N (Nat.le_refl _)⟩ (by simp)⟩
      · cases e0
    | seq c d =>
      simp only [codeS] at e0
      split at e0
      · rename_i m1 h1 a1 b1 ha
        obtain ⟨h2, h3⟩ := ih d e0 he
        obtain ⟨h4, h5⟩ := ih c ha h2
        refine ⟨h4, fun fr hf => ?_⟩
        obtain ⟨fr1, h6, h7⟩ := h5 fr hf
        obtain ⟨fr2, h8, h9⟩ := h3 fr1 h6
        exact ⟨fr2, h8, h7.seq h9⟩
      · rename_i hne
        obtain ⟨h2, h3⟩ := ih c e0 he
        refine ⟨h2, fun fr hf => ?_⟩
        obtain ⟨fr1, h6, h7⟩ := h3 fr hf
        exact ⟨fr1, h6, h7.seq_stop fun hx => hne m' h' a' b' (by rw [e0, hx])⟩
    | cond x c d =>
      simp only [codeS] at e0
      split at e0
      · rename_i x' hx
        split at e0
        · rename_i hb
          obtain ⟨h2, h3⟩ := ih c e0 he
          refine ⟨h2, fun fr hf => ?_⟩
          have hv := hf.opd hx
          obtain ⟨fr1, h6, h7⟩ := h3 fr hf
          exact ⟨fr1, h6, h7.yes (by show evT fr x = _; rw [← hv, hb])⟩
        · rename_i hb
          obtain ⟨h2, h3⟩ := ih d e0 he
          refine ⟨h2, fun fr hf => ?_⟩
          have hv := hf.opd hx
          obtain ⟨fr1, h6, h7⟩ := h3 fr hf
          exact ⟨fr1, h6, h7.no (by show evT fr x = _; rw [← hv, hb])⟩
        · cases e0
      · cases e0
    | block i c =>
      simp only [codeS] at e0
      split at e0
      · rename_i j m1 h1 a1 b1 ha
        split at e0
        · rename_i hb
          cases e0
          have := Nat.eq_of_beq_eq_true hb
          subst this
          obtain ⟨h2, h3⟩ := ih c ha he
          refine ⟨h2, fun fr hf => ?_⟩
          obtain ⟨fr1, h6, h7⟩ := h3 fr hf
          exact ⟨fr1, h6, h7.block_exit⟩
        · rename_i hb
          cases e0
          obtain ⟨h2, h3⟩ := ih c ha he
          refine ⟨h2, fun fr hf => ?_⟩
          obtain ⟨fr1, h6, h7⟩ := h3 fr hf
          exact ⟨fr1, h6, h7.block_pass hb⟩
      · rename_i hne
        obtain ⟨h2, h3⟩ := ih c e0 he
        refine ⟨h2, fun fr hf => ?_⟩
        obtain ⟨fr1, h6, h7⟩ := h3 fr hf
        exact ⟨fr1, h6, h7.block fun j hx => hne j m' h' a' b' (by rw [e0, hx])⟩
    | loop c =>
      simp only [codeS] at e0
      split at e0
      · rename_i m1 h1 a1 b1 ha
        obtain ⟨h2, h3⟩ := ih (.loop c) e0 he
        obtain ⟨h4, h5⟩ := ih c ha h2
        refine ⟨h4, fun fr hf => ?_⟩
        obtain ⟨fr1, h6, h7⟩ := h5 fr hf
        obtain ⟨fr2, h8, h9⟩ := h3 fr1 h6
        exact ⟨fr2, h8, h7.loop h9⟩
      · rename_i hne
        obtain ⟨h2, h3⟩ := ih c e0 he
        refine ⟨h2, fun fr hf => ?_⟩
        obtain ⟨fr1, h6, h7⟩ := h3 fr hf
        exact ⟨fr1, h6, h7.loop_stop fun hx => hne m' h' a' b' (by rw [e0, hx])⟩
    | scope c =>
      obtain ⟨h2, h3⟩ := ih (.inscope c c) e0 he
      refine ⟨h2, fun fr hf => ?_⟩
      obtain ⟨fr1, h6, h7⟩ := h3 fr hf
      exact ⟨fr1, h6, h7.scope⟩
    | inscope r c =>
      simp only [codeS] at e0
      split at e0
      · rename_i l m1 h1 a1 b1 hr
        split at e0
        · rename_i rest hl
          obtain ⟨h2, h3⟩ := ih (.inscope rest c) e0 he
          obtain ⟨h4, h5⟩ := ih r hr h2
          refine ⟨h4, fun fr hf => ?_⟩
          obtain ⟨fr1, h6, h7⟩ := h5 fr hf
          obtain ⟨fr2, h8, h9⟩ := h3 fr1 h6
          exact ⟨fr2, h8, h7.inscope_goto hl h9⟩
        · rename_i hl
          cases e0
          obtain ⟨h2, h3⟩ := ih r hr he
          refine ⟨h2, fun fr hf => ?_⟩
          obtain ⟨fr1, h6, k, hk⟩ := h3 fr hf
          refine ⟨fr1, h6, k + 1, ?_⟩
          show (match execT D k r ⟨fr, [], h⟩ with
            | some (.goto l, st') => match findLabel c l with
              | some rest => execT D k (.inscope rest c) st'
              | none => some (.goto l, st')
            | e => e) = _
          rw [hk]
          simp only [hl]
      · rename_i hne
        obtain ⟨h2, h3⟩ := ih r e0 he
        refine ⟨h2, fun fr hf => ?_⟩
        obtain ⟨fr1, h6, h7⟩ := h3 fr hf
        exact ⟨fr1, h6, h7.inscope fun j hx => hne j m' h' a' b' (by rw [e0, hx])⟩
/-- the functions that are run in two orders are so in D -/
def TwoOk (D : OCtx) (two : Nat → Option (OFunc × OFunc)) : Prop := ∀ f o1 o2, two f = some (o1, o2) → D.orc f = some (bodyAny [o1, o2] 1000)
theorem callS_ok (h2 : TwoOk D two) (n : Nat) : ∀ k, CallsS D (callS D two n k)
  | 0 => fun f args h a b v h' a' b' e he => by cases e
  | k + 1 => fun f args h a b v h' a' b' e he => by
    have ih := callS_ok h2 n k
    have e0 : (match two f with
      | some (o1, o2) => twoS o1 o2 1000 args h a b
      | none => match D.orc f with
        | some g => (match g args h with
          | some (.ret v, h') => some (v, h', a, b)
          | _ => none)
        | none => match D.code f with
          | none => none
          | some o => match Nat.beq (lenL args) o.np && Nat.ble (lenL args) 8 with
            | false => none
            | true => match D.tidy f with
              | false => (match execS (callS D two n k) (capOfD o.dep) n o.body (argsK 0 args) h a b with
                | some (ex, m', h', a', b') => (match isEnd ex with
                  | true => (match resK m' h' o.results with
                    | some vs => some (oneOr vs, h', a', b')
                    | none => none)
                  | false => none)
                | none => none)
              | true => (match execS (callS D two n k) (capOfD o.dep) n o.body (argsK 0 args) { h with floors := h.next :: h.floors } a b with
                | some (ex, m', h', a', b') => (match isEnd ex with
                  | true => (match resK m' h' o.results with
                    | some vs => (match Go.Ab.freeze h' h.next fuelF (oneOr vs) with
                      | some u => some (u, h'.tidied h, a', b')
                      | none => none)
                    | none => none)
                  | false => none)
                | none => none)) = some (v, h', a', b') := e
    clear e
    split at e0
    · rename_i o1 o2 ht
      obtain ⟨h3, h4⟩ := twoS_ok e0 he
      exact ⟨h3, CallW.orc (h2 f o1 o2 ht) h4 ⟨rfl, rfl⟩⟩
    · split at e0
      · rename_i g hg
        split at e0
        · rename_i v2 h3 hc
          simp only [Option.some.injEq, Prod.mk.injEq] at e0
          obtain ⟨rfl, rfl, rfl, rfl⟩ := e0
          exact ⟨he, CallW.orc hg hc ⟨rfl, rfl⟩⟩
        · cases e0
      · rename_i hg
        split at e0
        · cases e0
        · rename_i o hc
          split at e0
          · cases e0
          · rename_i hl
            simp only [Bool.and_eq_true] at hl
            split at e0
            · rename_i ht
              split at e0
              · rename_i ex m1 h1 a1 b1 hx
                split at e0
                · rename_i hend
                  split at e0
                  · rename_i vs hr
                    simp only [Option.some.injEq, Prod.mk.injEq] at e0
                    obtain ⟨rfl, rfl, rfl, rfl⟩ := e0
                    obtain ⟨h3, h4⟩ := execS_ok ih n _ hx he
                    refine ⟨h3, CallW.open hg hc ht hl.1 hl.2 fun fr hf => ?_⟩
                    obtain ⟨fr', h5, h6⟩ := h4 fr hf
                    refine ⟨ex, _, h6, rfl, m1, h5, ?_⟩
                    cases ex with
                    | nrm => exact ⟨vs, hr, rfl, rfl⟩
                    | ret => exact ⟨vs, hr, rfl, rfl⟩
                    | _ => cases hend
                  · cases e0
                · cases e0
              · cases e0
            · rename_i ht
              split at e0
              · rename_i ex m1 h1 a1 b1 hx
                split at e0
                · rename_i hend
                  split at e0
                  · rename_i vs hr
                    split at e0
                    · rename_i u hfz
                      simp only [Option.some.injEq, Prod.mk.injEq] at e0
                      obtain ⟨rfl, rfl, rfl, rfl⟩ := e0
                      obtain ⟨h3, h4⟩ := execS_ok ih n _ hx he
                      refine ⟨h3, CallW.shut hg hc ht hl.1 hl.2 fun fr hf => ?_⟩
                      obtain ⟨fr', h5, h6⟩ := h4 fr hf
                      refine ⟨ex, _, h6, rfl, m1, h5, ?_⟩
                      cases ex with
                      | nrm => exact ⟨vs, hr, _, hfz, rfl, rfl⟩
                      | ret => exact ⟨vs, hr, _, hfz, rfl, rfl⟩
                      | _ => cases hend
                    · cases e0
                  · cases e0
                · cases e0
              · cases e0
/-- the answer and what must be equal, on one side -/
def leftS (q : Option (V × Heap × List V × List V)) : Option (V × List V) := match q with
  | some (v, _, a, _) => some (v, a)
  | none => none
def rightS (u : V) (q : Option (V × Heap × List V × List V)) : Option (V × List V) := match q with
  | some (_, _, _, b) => some (u, b)
  | none => none
/-- a call, evaluated with numbers that are not known -/
theorem evalS (h2 : TwoOk D two) {n k f : Nat} {args : List V} {h : Heap} {u : V} (e : leftS (callS D two n k f args h [] []) = rightS u (callS D two n k f args h [] [])) (hs : (callS D two n k f args h [] []).isSome = true) : CallW D f args h fun v _ => v = u := by
  obtain ⟨⟨v, h', a, b⟩, hq⟩ := Option.isSome_iff_exists.1 hs
  rw [hq] at e
  simp only [leftS, rightS, Option.some.injEq, Prod.mk.injEq] at e
  obtain ⟨rfl, rfl⟩ := e
  exact (callS_ok h2 n k f args h [] [] _ _ _ _ hq rfl).2.mono fun _ _ hc => hc.1
/-- its answer with the memory that it made, as it reads -/
def leftF (q : Option (V × Heap × List V × List V)) : Option (V × List V) := match q with
  | some (v, h, a, _) => (match V.own v with
    | true => (match Go.Ab.freeze h.clean 0 fuelF v with
      | some u => some (u, a)
      | none => none)
    | false => none)
  | none => none
def someF (q : Option (V × Heap × List V × List V)) : Bool := match q with
  | some (v, h, _, _) => (match V.own v with
    | true => (Go.Ab.freeze h.clean 0 fuelF v).isSome
    | false => false)
  | none => false
theorem evalSF (h2 : TwoOk D two) {n k f : Nat} {args : List V} {u : V} (e : leftF (callS D two n k f args Heap.empty [] []) = rightS u (callS D two n k f args Heap.empty [] [])) (hs : someF (callS D two n k f args Heap.empty [] []) = true) : CallW D f args Heap.empty fun v h1 => V.own v = true ∧ Go.Ab.freeze h1.clean 0 fuelF v = some u := by
  unfold someF at hs
  split at hs
  · rename_i v h' a b hq
    rw [hq] at e
    split at hs
    · rename_i ho
      obtain ⟨w, hw⟩ := Option.isSome_iff_exists.1 hs
      simp only [leftF, ho, hw, rightS, Option.some.injEq, Prod.mk.injEq] at e
      obtain ⟨rfl, rfl⟩ := e
      exact (callS_ok h2 n k f args Heap.empty [] [] _ _ _ _ hq rfl).2.mono fun _ _ hc => by obtain ⟨rfl, rfl⟩ := hc; exact ⟨ho, hw⟩
    · cases hs
  · cases hs
/-- the other side, so that a call without an answer makes them differ -/
def rightF (u : V) (q : Option (V × Heap × List V × List V)) : Option (V × List V) := match q with
  | some (_, _, _, b) => some (u, b)
  | none => some (u, [])
theorem evalSF2 (h2 : TwoOk D two) {n k f : Nat} {args : List V} {u : V} (e : leftF (callS D two n k f args Heap.empty [] []) = rightF u (callS D two n k f args Heap.empty [] [])) : CallW D f args Heap.empty fun v h1 => V.own v = true ∧ Go.Ab.freeze h1.clean 0 fuelF v = some u := by
  cases hq : callS D two n k f args Heap.empty [] [] with
  | none => rw [hq] at e; cases e
  | some r =>
    refine evalSF (n := n) (k := k) h2 (by rw [e, hq]; rfl) ?_
    rw [hq] at e ⊢
    obtain ⟨v, h', a, b⟩ := r
    simp only [leftF, rightF] at e
    simp only [someF]
    split at e
    · split at e
      · rename_i w hw
        simp only [hw, Option.isSome_some]
      · cases e
    · cases e
end
end Go.Ab

namespace Go.Ab

noncomputable def callA (D : OCtx) (alt : Nat → Option (List V → Heap → List V → List V → Option (V × Heap × List V × List V))) (n : Nat) : Nat → Nat → List V → Heap → List V → List V → Option (V × Heap × List V × List V) :=
  fun k => Nat.rec (motive := fun _ => Nat → List V → Heap → List V → List V → Option (V × Heap × List V × List V)) (fun _ _ _ _ _ => none)
    (fun _ self f args h a b => match alt f with
      | some g => g args h a b
      | none => match D.orc f with
        | some g => (match g args h with
          | some (.ret v, h') => some (v, h', a, b)
          | _ => none)
        | none => match D.code f with
          | none => none
          | some o => match Nat.beq (lenL args) o.np && Nat.ble (lenL args) 8 with
            | false => none
            | true => match D.tidy f with
              | false => (match execS self (capOfD o.dep) n o.body (argsK 0 args) h a b with
                | some (ex, m', h', a', b') => (match isEnd ex with
                  | true => (match resK m' h' o.results with
                    | some vs => some (oneOr vs, h', a', b')
                    | none => none)
                  | false => none)
                | none => none)
              | true => (match execS self (capOfD o.dep) n o.body (argsK 0 args) { h with floors := h.next :: h.floors } a b with
                | some (ex, m', h', a', b') => (match isEnd ex with
                  | true => (match resK m' h' o.results with
                    | some vs => (match Go.Ab.freeze h' h.next fuelF (oneOr vs) with
                      | some u => some (u, h'.tidied h, a', b')
                      | none => none)
                    | none => none)
                  | false => none)
                | none => none)) k

section
variable {D : OCtx} {alt : Nat → Option (List V → Heap → List V → List V → Option (V × Heap × List V × List V))} {cap : Nat} {a b c : ACode} {m : Kn} {h : Heap} {Q : Ex → Kn → Heap → Prop}
/-- what the given answers must be -/
def AnsOk (D : OCtx) (f : Nat) (g : List V → Heap → List V → List V → Option (V × Heap × List V × List V)) : Prop := ∀ args h a b v h' a' b', g args h a b = some (v, h', a', b') → a' = b' → a = b ∧ CallW D f args h fun v2 h2 => v2 = v ∧ h2 = h'
def AltOk (D : OCtx) (alt : Nat → Option (List V → Heap → List V → List V → Option (V × Heap × List V × List V))) : Prop := ∀ f g, alt f = some g → AnsOk D f g
theorem callA_ok (h2 : AltOk D alt) (n : Nat) : ∀ k, CallsS D (callA D alt n k)
  | 0 => fun f args h a b v h' a' b' e he => by cases e
  | k + 1 => fun f args h a b v h' a' b' e he => by
    have ih := callA_ok h2 n k
    have e0 : (match alt f with
      | some g => g args h a b
      | none => match D.orc f with
        | some g => (match g args h with
          | some (.ret v, h') => some (v, h', a, b)
          | _ => none)
        | none => match D.code f with
          | none => none
          | some o => match Nat.beq (lenL args) o.np && Nat.ble (lenL args) 8 with
            | false => none
            | true => match D.tidy f with
              | false => (match execS (callA D alt n k) (capOfD o.dep) n o.body (argsK 0 args) h a b with
                | some (ex, m', h', a', b') => (match isEnd ex with
                  | true => (match resK m' h' o.results with
                    | some vs => some (oneOr vs, h', a', b')
                    | none => none)
                  | false => none)
                | none => none)
              | true => (match execS (callA D alt n k) (capOfD o.dep) n o.body (argsK 0 args) { h with floors := h.next :: h.floors } a b with
                | some (ex, m', h', a', b') => (match isEnd ex with
                  | true => (match resK m' h' o.results with
                    | some vs => (match Go.Ab.freeze h' h.next fuelF (oneOr vs) with
                      | some u => some (u, h'.tidied h, a', b')
                      | none => none)
                    | none => none)
                  | false => none)
                | none => none)) = some (v, h', a', b') := e
    clear e
    split at e0
    · rename_i g ht
      exact h2 f g ht args h a b v h' a' b' e0 he
    · split at e0
      · rename_i g hg
        split at e0
        · rename_i v2 h3 hc
          simp only [Option.some.injEq, Prod.mk.injEq] at e0
          obtain ⟨rfl, rfl, rfl, rfl⟩ := e0
          exact ⟨he, CallW.orc hg hc ⟨rfl, rfl⟩⟩
        · cases e0
      · rename_i hg
        split at e0
        · cases e0
        · rename_i o hc
          split at e0
          · cases e0
          · rename_i hl
            simp only [Bool.and_eq_true] at hl
            split at e0
            · rename_i ht
              split at e0
              · rename_i ex m1 h1 a1 b1 hx
                split at e0
                · rename_i hend
                  split at e0
                  · rename_i vs hr
                    simp only [Option.some.injEq, Prod.mk.injEq] at e0
                    obtain ⟨rfl, rfl, rfl, rfl⟩ := e0
                    obtain ⟨h3, h4⟩ := execS_ok ih n _ hx he
                    refine ⟨h3, CallW.open hg hc ht hl.1 hl.2 fun fr hf => ?_⟩
                    obtain ⟨fr', h5, h6⟩ := h4 fr hf
                    refine ⟨ex, _, h6, rfl, m1, h5, ?_⟩
                    cases ex with
                    | nrm => exact ⟨vs, hr, rfl, rfl⟩
                    | ret => exact ⟨vs, hr, rfl, rfl⟩
                    | _ => cases hend
                  · cases e0
                · cases e0
              · cases e0
            · rename_i ht
              split at e0
              · rename_i ex m1 h1 a1 b1 hx
                split at e0
                · rename_i hend
                  split at e0
                  · rename_i vs hr
                    split at e0
                    · rename_i u hfz
                      simp only [Option.some.injEq, Prod.mk.injEq] at e0
                      obtain ⟨rfl, rfl, rfl, rfl⟩ := e0
                      obtain ⟨h3, h4⟩ := execS_ok ih n _ hx he
                      refine ⟨h3, CallW.shut hg hc ht hl.1 hl.2 fun fr hf => ?_⟩
                      obtain ⟨fr', h5, h6⟩ := h4 fr hf
                      refine ⟨ex, _, h6, rfl, m1, h5, ?_⟩
                      cases ex with
                      | nrm => exact ⟨vs, hr, _, hfz, rfl, rfl⟩
                      | ret => exact ⟨vs, hr, _, hfz, rfl, rfl⟩
                      | _ => cases hend
                    · cases e0
                  · cases e0
                · cases e0
              · cases e0
/-- a function that is run in two orders -/
theorem two_ans {f : Nat} {o1 o2 : OFunc} (h : D.orc f = some (bodyAny [o1, o2] 1000)) : AnsOk D f (twoS o1 o2 1000) := fun args h0 a b v h' a' b' e he => by
  obtain ⟨h3, h4⟩ := twoS_ok e he
  exact ⟨h3, CallW.orc h h4 ⟨rfl, rfl⟩⟩
/-- an answer that is known for arguments that read so -/
noncomputable def givenA (p0 : List V) (u0 : V) (args : List V) (h : Heap) (a b : List V) : Option (V × Heap × List V × List V) := match freezes h 0 fuelF args with
  | some p => some (u0, h, .agg p :: a, .agg p0 :: b)
  | none => none
theorem given_ans {f : Nat} {p0 : List V} {u0 : V} (hg : ∀ args h, freezes h 0 fuelF args = some p0 → CallW D f args h fun v2 h2 => v2 = u0 ∧ h2 = h) : AnsOk D f (givenA p0 u0) := fun args h0 a b v h' a' b' e he => by
  unfold givenA at e
  split at e
  · rename_i p hp
    simp only [Option.some.injEq, Prod.mk.injEq] at e
    obtain ⟨rfl, rfl, rfl, rfl⟩ := e
    simp only [List.cons.injEq, V.agg.injEq] at he
    obtain ⟨rfl, h1⟩ := he
    exact ⟨h1, hg args h0 hp⟩
  · cases e
theorem evalAF (h2 : AltOk D alt) {n k f : Nat} {args : List V} {u : V} (e : leftF (callA D alt n k f args Heap.empty [] []) = rightF u (callA D alt n k f args Heap.empty [] [])) : CallW D f args Heap.empty fun v h1 => V.own v = true ∧ Go.Ab.freeze h1.clean 0 fuelF v = some u := by
  cases hq : callA D alt n k f args Heap.empty [] [] with
  | none => rw [hq] at e; cases e
  | some r =>
    rw [hq] at e
    obtain ⟨v, h', x, y⟩ := r
    simp only [leftF, rightF] at e
    split at e
    · rename_i ho
      split at e
      · rename_i w hw
        simp only [Option.some.injEq, Prod.mk.injEq] at e
        obtain ⟨rfl, rfl⟩ := e
        exact (callA_ok h2 n k f args Heap.empty [] [] _ _ _ _ hq rfl).2.mono fun _ _ hc => by obtain ⟨rfl, rfl⟩ := hc; exact ⟨ho, hw⟩
      · cases e
    · cases e
/-- an answer without memory -/
theorem evalA (h2 : AltOk D alt) {n k f : Nat} {args : List V} {h : Heap} {u : V} (e : leftS (callA D alt n k f args h [] []) = rightF u (callA D alt n k f args h [] [])) : CallW D f args h fun v _ => v = u := by
  cases hq : callA D alt n k f args h [] [] with
  | none => rw [hq] at e; cases e
  | some r =>
    rw [hq] at e
    obtain ⟨v, h', x, y⟩ := r
    simp only [leftS, rightF, Option.some.injEq, Prod.mk.injEq] at e
    obtain ⟨rfl, rfl⟩ := e
    exact (callA_ok h2 n k f args h [] [] _ _ _ _ hq rfl).2.mono fun _ _ hc => hc.1

/-! pieces of a walk -/
theorem W.runA {callX : Nat → List V → Heap → List V → List V → Option (V × Heap × List V × List V)} (hX : CallsS D callX) (n : Nat) {ex : Ex} {m' : Kn} {h' : Heap} {x y : List V} (e : execS callX cap n c m h [] [] = some (ex, m', h', x, y)) (he : x = y) (q : Q ex m' h') : W D cap c m h Q := fun fr hf => by
  obtain ⟨_, h3⟩ := execS_ok hX n c e he
  obtain ⟨fr', h1, h2⟩ := h3 fr hf
  exact ⟨ex, _, h2, rfl, m', h1, q⟩
/-- what is looked at behind a piece -/
def lookS (ts : List Nat) (bs : List Nat) : Option (Ex × Kn × Heap × List V × List V) → Option (List (Option V) × List (Option (List V)) × List V)
  | some (.nrm, m, h, x, _) => some (ts.map m.get, bs.map h.cellsOf, x)
  | _ => none
def rightL (vs : List V) (cs : List (Option (List V))) : Option (Ex × Kn × Heap × List V × List V) → Option (List (Option V) × List (Option (List V)) × List V)
  | some (_, _, _, _, y) => some (vs.map some, cs, y)
  | none => some ([], [], [])
theorem W.lookA {callX : Nat → List V → Heap → List V → List V → Option (V × Heap × List V × List V)} (hX : CallsS D callX) (n : Nat) (ts bs : List Nat) {vs : List V} {cs : List (Option (List V))} (e : lookS ts bs (execS callX cap n a m h [] []) = rightL vs cs (execS callX cap n a m h [] [])) (w : ∀ h', bs.map h'.cellsOf = cs → W D cap b (ts.zip vs) h' Q) : W D cap (.seq a b) m h Q := by
  cases hq : execS callX cap n a m h [] [] with
  | none => rw [hq] at e; cases e
  | some r =>
    rw [hq] at e
    obtain ⟨ex, m', h', x, y⟩ := r
    unfold lookS at e
    split at e
    · rename_i heq
      simp only [Option.some.injEq, Prod.mk.injEq] at heq
      obtain ⟨rfl, rfl, rfl, rfl, rfl⟩ := heq
      simp only [rightL, Option.some.injEq, Prod.mk.injEq] at e
      exact W.seq (W.runA hX n hq e.2.2 ((w _ e.2.1).sup (look_sup e.1)))
    · cases e
end
end Go.Ab
