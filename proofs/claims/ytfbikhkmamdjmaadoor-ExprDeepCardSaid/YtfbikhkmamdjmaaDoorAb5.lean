/- The abstract machine, part 5. Reasoning about runs: more fuel does no harm; the codes' rules. Runs of codes whose frames are known in part: rules for codes, operations, calls and loops. What single operations answer, told with whole numbers, texts and blocks that are not known in full. Heaps that a call has made blocks in: which blocks, counted from the first; calls that let memory be. Calls whose answers are known, with their arguments: closed calls, evaluated once; functions that were walked. Calls that look at memory; slices that are being made; bytes; jumps back; more operations. Parameters that are slices of bytes. Parameters of any type that is made of whole numbers, bools, strings, structs and slices. Calls on frozen copies: a function whose answer is known for arguments without memory answers the same for arguments in memory that read like them. Layers: the walked functions of one layer answer calls of the next, from arguments in memory as from frozen ones. Rules for calls: with checks behind them, of function values, one layer down. Tables of facts, one layer over the other. Arguments of any types, read again behind a call that lets them be; parameters that are lists of whole numbers. Codes evaluated where a frame is known in part: from one known frame to the next. Steps that hang on a condition and are looked at again: rules with checks that hang on conditions too. Slices whose rows hold shut values: how they read; several slices that are made beside one another. Calls that panic: rules for regions and functions that end with a panic. A reader in memory: its tokens, and how far it is; calls that read on, or give up. Functions that defer a call: what runs behind the deferral runs as without it. Steps of regions that may panic; calls that read where memory is as wanted. Functions that defer one call, which recovers. -/
import Derived.Test.YtfbikhkmamdjmaaDoorAb4
import Derived.KernelRfl
import Derived.ChangeSlices
import Derived.RowKit
import Derived.Carry
import GoSem.ClaimJoined
import Derived.ReadAgain
import Derived.ChangeOld
namespace Go.Ab

def Le (s s' : ACode → StT → Option (Ex × StT)) : Prop := ∀ c st r, s c st = some r → s' c st = some r

section
variable {D : OCtx} {s s' : ACode → StT → Option (Ex × StT)}

theorem execDT_le (hS : Le s s') : ∀ (a : ACode) (m : Md) (st : StT) (r : Ex × Md × StT), execDT s a m st = some r → execDT s' a m st = some r := by
  intro a
  induction a with
  | seq x y ihx ihy =>
    intro m st r e
    simp only [execDT] at e ⊢
    cases h : execDT s x m st with
    | none => rw [h] at e; cases e
    | some q =>
      obtain ⟨ex, m1, st1⟩ := q
      rw [h] at e
      rw [ihx _ _ _ h]
      cases ex with
      | nrm => exact ihy _ _ _ e
      | _ => exact e
  | cond c x y ihx ihy =>
    intro m st r e
    simp only [execDT] at e ⊢
    split at e
    · exact ihx _ _ _ e
    · exact ihy _ _ _ e
    · cases e
  | rregion l => intro m st r e; exact e
  | _ =>
    intro m st r e
    rw [execDT_other rfl] at e ⊢
    obtain ⟨q, h, rfl⟩ := map_some e
    rw [hS _ _ _ h]
    rfl

theorem callDT_le (hS : Le s s') {f : Nat} {args : List V} {m : Md} {h : Heap} {r : Out × Md × Heap} (e : callDT D s f args m h = some r) : callDT D s' f args m h = some r := by
  unfold callDT at e ⊢
  cases hc : D.code f with
  | none => rw [hc] at e; cases e
  | some o =>
    rw [hc] at e
    simp only at e ⊢
    split at e
    · rename_i hb
      cases hx : execDT s o.body m (.mk (frameA o.dep args) [] h) with
      | none => rw [hx] at e; cases e
      | some q =>
        rw [hx] at e
        rw [execDT_le hS _ _ _ _ hx]
        exact e
    · cases e

theorem leaveT_le (hS : Le s s') : ∀ {ds : List (V × List V)} {m : Md} {h : Heap} {r : Md × Heap}, leaveT D s ds m h = some r → leaveT D s' ds m h = some r
  | [], m, h, r, e => e
  | d :: ds, m, h, r, e => by
    simp only [leaveT] at e ⊢
    split at e
    · rename_i f pre caps hd
      cases hx : callDT D s f (pre ++ d.2 ++ caps) m h with
      | none => rw [hx] at e; cases e
      | some q =>
        obtain ⟨out, m1, h1⟩ := q
        rw [hx] at e
        rw [callDT_le hS hx]
        cases out with
        | ret v => exact leaveT_le hS e
        | pan v =>
          cases m1 with
          | ret => exact leaveT_le hS e
          | pan u => cases e
          | caught u => cases e
    · cases e

theorem endedT_le {rs : List RVar} {fr : Fr} {q q' : Option (Md × Heap)} (hq : ∀ r, q = some r → q' = some r) {r : Out × Heap} (e : endedT rs fr q = some r) : endedT rs fr q' = some r := by
  cases q with
  | none => cases e
  | some x => rw [hq x rfl]; exact e

theorem bodyT_le (hS : Le s s') {o : OFunc} {args : List V} {h : Heap} {r : Out × Heap} (e : bodyT D s o args h = some r) : bodyT D s' o args h = some r := by
  obtain ⟨np, dep, rs, bd⟩ := o
  simp only [bodyT] at e ⊢
  split at e
  · rename_i hb
    cases hx : s bd (.mk (frameA dep args) [] h) with
    | none => rw [hx] at e; cases e
    | some q =>
      obtain ⟨ex, st⟩ := q
      rw [hx] at e
      rw [hS _ _ _ hx]
      cases ex with
      | nrm => exact endedT_le (fun r hr => leaveT_le hS hr) e
      | ret => exact endedT_le (fun r hr => leaveT_le hS hr) e
      | pan v => exact endedT_le (fun r hr => leaveT_le hS hr) e
      | exit i => cases e
      | goto l => cases e
  · cases e

theorem callT_le (hS : Le s s') {f : Nat} {args : List V} {h : Heap} {r : Out × Heap} (e : callT D s f args h = some r) : callT D s' f args h = some r := by
  unfold callT at e ⊢
  cases ho : D.orc f with
  | some g => rw [ho] at e; exact e
  | none =>
    rw [ho] at e
    simp only at e ⊢
    cases hc : D.code f with
    | none => rw [hc] at e; cases e
    | some o =>
      rw [hc] at e
      simp only at e ⊢
      cases ht : D.tidy f with
      | false =>
        rw [ht] at e
        simp only at e ⊢
        exact bodyT_le hS e
      | true =>
        rw [ht] at e
        simp only at e ⊢
        cases hb : bodyT D s o args { h with floors := h.next :: h.floors } with
        | none => rw [hb] at e; cases e
        | some q =>
          rw [hb] at e
          rw [bodyT_le hS hb]
          exact e

theorem outT_le {dst : Option Nat} {st : StT} {k k' : StT → Option (Ex × StT)} (hk : ∀ st r, k st = some r → k' st = some r) {q : Option (Out × Heap)} {r : Ex × StT} (e : outT dst st k q = some r) : outT dst st k' q = some r := by
  cases q with
  | none => cases e
  | some q =>
    obtain ⟨o, h'⟩ := q
    cases o with
    | ret v =>
      have e' : force v (fun v => k (.mk (putT st.fr dst v) st.ds h')) = some r := e
      show force v (fun v => k' (.mk (putT st.fr dst v) st.ds h')) = some r
      rw [force_eq] at e' ⊢
      exact hk _ _ e'
    | pan v => exact e

theorem doT_le (hS : Le s s') {o : AOp} {dst : Option Nat} {st : StT} {k k' : StT → Option (Ex × StT)} (hk : ∀ st r, k st = some r → k' st = some r) {r : Ex × StT} (e : doT D s o dst st k = some r) : doT D s' o dst st k' = some r := by
  have callS : ∀ {f : Nat} {args : List V}, outT dst st k (callT D s f args st.h) = some r → outT dst st k' (callT D s' f args st.h) = some r := by
    intro f args e
    cases hc : callT D s f args st.h with
    | none => rw [hc] at e; cases e
    | some q =>
      rw [hc] at e
      rw [callT_le hS hc]
      exact outT_le hk e
  by_cases hn : o.far = false ∧ o.isRecover = false
  · rw [doT_near D s hn.1 hn.2] at e
    rw [doT_near D s' hn.1 hn.2]
    obtain ⟨fr, ds, h⟩ := st
    simp only [nearT, force_eq] at e ⊢
    cases ho : opF o (evT fr) h with
    | none => rw [ho] at e; cases e
    | some q => rw [ho] at e; exact hk _ _ e
  · cases o with
    | call f args =>
      have e' : mapK (evT st.fr) args (fun l => outT dst st k (callT D s f l st.h)) = some r := e
      show mapK (evT st.fr) args (fun l => outT dst st k' (callT D s' f l st.h)) = some r
      rw [mapK_eq] at e' ⊢
      exact callS e'
    | callv g args =>
      have e' : t_callv D s g args dst st k = some r := e
      show t_callv D s' g args dst st k' = some r
      unfold t_callv at e' ⊢
      simp only [mapK_eq] at e' ⊢
      split at e'
      · exact callS e'
      · cases e'
    | panic x => exact e
    | defer g args =>
      have e' : t_defer g args dst st k = some r := e
      show t_defer g args dst st k' = some r
      unfold t_defer at e' ⊢
      split at e'
      · exact hk _ _ e'
      · cases e'
    | recover => cases e
    | _ => exact absurd ⟨rfl, rfl⟩ hn

theorem chkT_le {l : List (Nat × Option (Nat × Bool) × AOp)} {k k' : StT → Option (Ex × StT)} (hk : ∀ st r, k st = some r → k' st = some r) {st : StT} {r : Ex × StT} (e : chkT l k st = some r) : chkT l k' st = some r := by
  cases l with
  | nil => exact hk _ _ e
  | cons x l =>
    have e' : Bool.rec (motive := fun _ => Option (Ex × StT)) none (k st) (checksT (getT st.fr) (evT st.fr) st.h (x :: l)) = some r := e
    show Bool.rec (motive := fun _ => Option (Ex × StT)) none (k' st) (checksT (getT st.fr) (evT st.fr) st.h (x :: l)) = some r
    cases hc : checksT (getT st.fr) (evT st.fr) st.h (x :: l) with
    | true => rw [hc] at e'; exact hk _ _ e'
    | false => rw [hc] at e'; cases e'

theorem guardT_le {g : Option (Nat × Bool)} {st : StT} {y y' n n' : Option (Ex × StT)} (hy : ∀ r, y = some r → y' = some r) (hn : ∀ r, n = some r → n' = some r) {r : Ex × StT} (e : guardT g st y n = some r) : guardT g st y' n' = some r := by
  cases g with
  | none => exact hy _ e
  | some q =>
    simp only [guardT] at e ⊢
    split at e
    · split at e
      · exact hy _ e
      · exact hn _ e
    · cases e
    · exact hn _ e

theorem stepsT_le (hS : Le s s') : ∀ (l : List Step) (st : StT) (r : Ex × StT), stepsT D s l st = some r → stepsT D s' l st = some r
  | [], st, r, e => e
  | s0 :: l, st, r, e => by
    have ih := stepsT_le hS l
    obtain ⟨dst, op, guard, chk⟩ := s0
    have hk : ∀ st r, chkT chk (stepsT D s l) st = some r → chkT chk (stepsT D s' l) st = some r := fun st r h => chkT_le ih h
    have e' : guardT guard st (doT D s op dst st (chkT chk (stepsT D s l))) (chkT chk (stepsT D s l) (.mk (putT st.fr dst (.tup [])) st.ds st.h)) = some r := by cases guard <;> exact e
    have g : guardT guard st (doT D s' op dst st (chkT chk (stepsT D s' l))) (chkT chk (stepsT D s' l) (.mk (putT st.fr dst (.tup [])) st.ds st.h)) = some r :=
      guardT_le (fun r h => doT_le hS hk h) (fun r h => hk _ _ h) e'
    cases guard <;> exact g

theorem wipedT_le {l : List Step} {q q' : Option (Ex × StT)} (hq : ∀ r, q = some r → q' = some r) {r : Ex × StT} (e : wipedT l q = some r) : wipedT l q' = some r := by
  cases q with
  | none => cases e
  | some x => rw [hq x rfl]; exact e
end

theorem execT_succ (D : OCtx) : ∀ n, Le (execT D n) (execT D (n + 1))
  | 0 => fun _ _ _ e => by cases e
  | n + 1 => by
    have ih := execT_succ D n
    intro a st r e
    have two : ∀ {x : ACode} {k k' : Option (Ex × StT) → Option (Ex × StT)}, (∀ q r, k (some q) = some r → k' (some q) = some r) → k none = none → k (execT D n x st) = some r → k' (execT D (n + 1) x st) = some r := by
      intro x k k' hk h0 e
      cases hx : execT D n x st with
      | none => rw [hx, h0] at e; cases e
      | some q => rw [hx] at e; rw [ih _ _ _ hx]; exact hk q r e
    cases a with
    | region l =>
      have e' : wipedT l (stepsT D (execT D n) l st) = some r := e
      exact wipedT_le (fun r h => stepsT_le ih _ _ _ h) e'
    | seq x y =>
      exact two (x := x) (k := fun q => match q with
        | some (.nrm, st') => execT D n y st'
        | e => e) (k' := fun q => match q with
        | some (.nrm, st') => execT D (n + 1) y st'
        | e => e) (fun q r h => by
          obtain ⟨ex, st1⟩ := q
          cases ex with
          | nrm => exact ih _ _ _ h
          | _ => exact h) rfl e
    | cond c x y =>
      have e' : (match evT st.fr c with
        | .bool t => execT D n (Bool.rec y x t) st
        | _ => none) = some r := e
      show (match evT st.fr c with
        | .bool t => execT D (n + 1) (Bool.rec y x t) st
        | _ => none) = some r
      split at e'
      · rename_i t ht; exact ih _ _ _ e'
      · cases e'
    | block id x =>
      exact two (x := x) (k := fun q => match q with
        | some (.exit i, st') => some (Bool.rec (.exit i) .nrm (Nat.beq i id), st')
        | e => e) (k' := fun q => match q with
        | some (.exit i, st') => some (Bool.rec (.exit i) .nrm (Nat.beq i id), st')
        | e => e) (fun q r h => h) rfl e
    | loop x =>
      exact two (x := x) (k := fun q => match q with
        | some (.nrm, st') => execT D n (.loop x) st'
        | e => e) (k' := fun q => match q with
        | some (.nrm, st') => execT D (n + 1) (.loop x) st'
        | e => e) (fun q r h => by
          obtain ⟨ex, st1⟩ := q
          cases ex with
          | nrm => exact ih _ _ _ h
          | _ => exact h) rfl e
    | scope x => exact ih _ _ _ e
    | inscope x y =>
      exact two (x := x) (k := fun q => match q with
        | some (.goto l, st') => match findLabel y l with
          | some rest => execT D n (.inscope rest y) st'
          | none => some (.goto l, st')
        | e => e) (k' := fun q => match q with
        | some (.goto l, st') => match findLabel y l with
          | some rest => execT D (n + 1) (.inscope rest y) st'
          | none => some (.goto l, st')
        | e => e) (fun q r h => by
          obtain ⟨ex, st1⟩ := q
          cases ex with
          | goto l =>
            simp only at h ⊢
            cases hf : findLabel y l with
            | none => rw [hf] at h; exact h
            | some rest => rw [hf] at h; exact ih _ _ _ h
          | _ => exact h) rfl e
    | rregion l => cases e
    | _ => exact e

theorem execT_le (D : OCtx) {n m : Nat} (h : n ≤ m) : Le (execT D n) (execT D m) := by
  induction h with
  | refl => exact fun _ _ _ e => e
  | step _ ih => exact fun c st r e => execT_succ D _ c st r (ih c st r e)

/-! ### runs -/

def Runs (D : OCtx) (c : ACode) (st : StT) (ex : Ex) (st' : StT) : Prop := ∃ n, execT D n c st = some (ex, st')
def StepsR (D : OCtx) (l : List Step) (st : StT) (ex : Ex) (st' : StT) : Prop := ∃ n, stepsT D (execT D n) l st = some (ex, st')
def CallR (D : OCtx) (f : Nat) (args : List V) (h : Heap) (out : Out) (h' : Heap) : Prop := ∃ n, callFast D n f args h = some (out, h')

section
variable {D : OCtx} {a b c : ACode} {st st1 st2 : StT} {ex : Ex}

theorem Runs.seq (h1 : Runs D a st .nrm st1) (h2 : Runs D b st1 ex st2) : Runs D (.seq a b) st ex st2 := by
  obtain ⟨n, h1⟩ := h1
  obtain ⟨m, h2⟩ := h2
  refine ⟨max n m + 1, ?_⟩
  show (match execT D (max n m) a st with
    | some (.nrm, st') => execT D (max n m) b st'
    | e => e) = _
  rw [execT_le D (Nat.le_max_left n m) _ _ _ h1]
  exact execT_le D (Nat.le_max_right n m) _ _ _ h2
theorem Runs.seq_stop (h1 : Runs D a st ex st1) (hx : ex ≠ .nrm) : Runs D (.seq a b) st ex st1 := by
  obtain ⟨n, h1⟩ := h1
  refine ⟨n + 1, ?_⟩
  show (match execT D n a st with
    | some (.nrm, st') => execT D n b st'
    | e => e) = _
  rw [h1]
  cases ex <;> first | rfl | exact absurd rfl hx
theorem Runs.yes {x : Opd} (hc : evT st.fr x = .bool true) (h1 : Runs D a st ex st1) : Runs D (.cond x a b) st ex st1 := by
  obtain ⟨n, h1⟩ := h1
  refine ⟨n + 1, ?_⟩
  show (match evT st.fr x with
    | .bool t => execT D n (Bool.rec b a t) st
    | _ => none) = _
  rw [hc]; exact h1
theorem Runs.no {x : Opd} (hc : evT st.fr x = .bool false) (h1 : Runs D b st ex st1) : Runs D (.cond x a b) st ex st1 := by
  obtain ⟨n, h1⟩ := h1
  refine ⟨n + 1, ?_⟩
  show (match evT st.fr x with
    | .bool t => execT D n (Bool.rec b a t) st
    | _ => none) = _
  rw [hc]; exact h1
theorem Runs.skip : Runs D .skip st .nrm st := ⟨1, rfl⟩
theorem Runs.label {l : Nat} : Runs D (.label l) st .nrm st := ⟨1, rfl⟩
theorem Runs.exit {i : Nat} : Runs D (.exit i) st (.exit i) st := ⟨1, rfl⟩
theorem Runs.goto {l : Nat} : Runs D (.goto l) st (.goto l) st := ⟨1, rfl⟩
theorem Runs.ret : Runs D .ret st .ret st := ⟨1, rfl⟩
theorem Runs.block {i : Nat} (h1 : Runs D a st ex st1) (hx : ∀ j, ex ≠ .exit j) : Runs D (.block i a) st ex st1 := by
  obtain ⟨n, h1⟩ := h1
  refine ⟨n + 1, ?_⟩
  show (match execT D n a st with
    | some (.exit i', st') => some (Bool.rec (motive := fun _ => Ex) (.exit i') .nrm (Nat.beq i' i), st')
    | e => e) = _
  rw [h1]
  cases ex <;> first | rfl | exact absurd rfl (hx _)
theorem Runs.block_exit {i : Nat} (h1 : Runs D a st (.exit i) st1) : Runs D (.block i a) st .nrm st1 := by
  obtain ⟨n, h1⟩ := h1
  refine ⟨n + 1, ?_⟩
  show (match execT D n a st with
    | some (.exit i', st') => some (Bool.rec (motive := fun _ => Ex) (.exit i') .nrm (Nat.beq i' i), st')
    | e => e) = _
  rw [h1]
  simp
theorem Runs.block_pass {i j : Nat} (h1 : Runs D a st (.exit j) st1) (hij : Nat.beq j i = false) : Runs D (.block i a) st (.exit j) st1 := by
  obtain ⟨n, h1⟩ := h1
  refine ⟨n + 1, ?_⟩
  show (match execT D n a st with
    | some (.exit i', st') => some (Bool.rec (motive := fun _ => Ex) (.exit i') .nrm (Nat.beq i' i), st')
    | e => e) = _
  rw [h1]
  simp only [hij]
theorem Runs.loop (h1 : Runs D a st .nrm st1) (h2 : Runs D (.loop a) st1 ex st2) : Runs D (.loop a) st ex st2 := by
  obtain ⟨n, h1⟩ := h1
  obtain ⟨m, h2⟩ := h2
  refine ⟨max n m + 1, ?_⟩
  show (match execT D (max n m) a st with
    | some (.nrm, st') => execT D (max n m) (.loop a) st'
    | e => e) = _
  rw [execT_le D (Nat.le_max_left n m) _ _ _ h1]
  exact execT_le D (Nat.le_max_right n m) _ _ _ h2
theorem Runs.loop_stop (h1 : Runs D a st ex st1) (hx : ex ≠ .nrm) : Runs D (.loop a) st ex st1 := by
  obtain ⟨n, h1⟩ := h1
  refine ⟨n + 1, ?_⟩
  show (match execT D n a st with
    | some (.nrm, st') => execT D n (.loop a) st'
    | e => e) = _
  rw [h1]
  cases ex <;> first | rfl | exact absurd rfl hx
theorem Runs.scope (h1 : Runs D (.inscope a a) st ex st1) : Runs D (.scope a) st ex st1 := by
  obtain ⟨n, h1⟩ := h1
  exact ⟨n + 1, h1⟩
theorem Runs.inscope (h1 : Runs D a st ex st1) (hx : ∀ l, ex ≠ .goto l) : Runs D (.inscope a c) st ex st1 := by
  obtain ⟨n, h1⟩ := h1
  refine ⟨n + 1, ?_⟩
  show (match execT D n a st with
    | some (.goto l, st') => match findLabel c l with
      | some rest => execT D n (.inscope rest c) st'
      | none => some (.goto l, st')
    | e => e) = _
  rw [h1]
  cases ex <;> first | rfl | exact absurd rfl (hx _)
theorem Runs.inscope_goto {l : Nat} (h1 : Runs D a st (.goto l) st1) (hf : findLabel c l = some b) (h2 : Runs D (.inscope b c) st1 ex st2) : Runs D (.inscope a c) st ex st2 := by
  obtain ⟨n, h1⟩ := h1
  obtain ⟨m, h2⟩ := h2
  refine ⟨max n m + 1, ?_⟩
  show (match execT D (max n m) a st with
    | some (.goto l, st') => match findLabel c l with
      | some rest => execT D (max n m) (.inscope rest c) st'
      | none => some (.goto l, st')
    | e => e) = _
  rw [execT_le D (Nat.le_max_left n m) _ _ _ h1]
  simp only [hf]
  exact execT_le D (Nat.le_max_right n m) _ _ _ h2
theorem Runs.region {l : List Step} (h1 : StepsR D l st ex st1) (hx : ∀ v, ex ≠ .pan v) : Runs D (.region l) st ex st1 := by
  obtain ⟨n, h1⟩ := h1
  refine ⟨n + 1, ?_⟩
  show wipedT l (stepsT D (execT D n) l st) = _
  rw [h1]
  cases ex <;> first | rfl | exact absurd rfl (hx _)

theorem StepsR.nil : StepsR D [] st .nrm st := ⟨0, rfl⟩
theorem StepsR.near {op : AOp} {d : Option Nat} {l : List Step} {fr : Fr} {ds : List (V × List V)} {h h' : Heap} {v : V} (hf : op.far = false) (hr : op.isRecover = false) (he : opF op (evT fr) h = some (v, h')) (h2 : StepsR D l ⟨putT fr d v, ds, h'⟩ ex st2) : StepsR D (⟨d, op, none, []⟩ :: l) ⟨fr, ds, h⟩ ex st2 := by
  obtain ⟨n, h2⟩ := h2
  refine ⟨n, ?_⟩
  show doT D (execT D n) op d ⟨fr, ds, h⟩ (stepsT D (execT D n) l) = _
  rw [doT_near _ _ hf hr]
  simp only [nearT, he, force_eq]
  exact h2
theorem StepsR.call {f : Nat} {xs : List Opd} {d : Option Nat} {l : List Step} {h' : Heap} {v : V} (he : CallR D f (xs.map (evT st.fr)) st.h (.ret v) h') (h2 : StepsR D l ⟨putT st.fr d v, st.ds, h'⟩ ex st2) : StepsR D (⟨d, .call f xs, none, []⟩ :: l) st ex st2 := by
  obtain ⟨n, he⟩ := he
  obtain ⟨m, h2⟩ := h2
  refine ⟨max n m, ?_⟩
  show mapK (evT st.fr) xs (fun a => outT d st (stepsT D (execT D (max n m)) l) (callT D (execT D (max n m)) f a st.h)) = _
  rw [mapK_eq, callT_le (execT_le D (Nat.le_max_left n m)) he]
  show force v (fun v => stepsT D (execT D (max n m)) l (.mk (putT st.fr d v) st.ds h')) = _
  rw [force_eq]
  exact stepsT_le (execT_le D (Nat.le_max_right n m)) _ _ _ h2
theorem StepsR.guarded {t : Nat} {b : Bool} {op : AOp} {d : Option Nat} {l : List Step} (hg : getT st.fr t = .bool b) (h2 : StepsR D (⟨d, op, none, []⟩ :: l) st ex st2) : StepsR D (⟨d, op, some (t, b), []⟩ :: l) st ex st2 := by
  obtain ⟨n, h2⟩ := h2
  refine ⟨n, ?_⟩
  show guardT (some (t, b)) st (doT D (execT D n) op d st (stepsT D (execT D n) l)) _ = _
  simp only [guardT, hg, beq_self_eq_true]
  exact h2
theorem StepsR.passed {t : Nat} {b : Bool} {op : AOp} {d : Option Nat} {l : List Step} (hg : getT st.fr t = .bool (!b)) (h2 : StepsR D l ⟨putT st.fr d (.tup []), st.ds, st.h⟩ ex st2) : StepsR D (⟨d, op, some (t, b), []⟩ :: l) st ex st2 := by
  obtain ⟨n, h2⟩ := h2
  refine ⟨n, ?_⟩
  show guardT (some (t, b)) st _ (stepsT D (execT D n) l ⟨putT st.fr d (.tup []), st.ds, st.h⟩) = _
  have : ((!b) == b) = false := by cases b <;> rfl
  simp only [guardT, hg, this]
  exact h2

/-- a call of a function whose blocks are let be -/
theorem CallR.body {f : Nat} {o : OFunc} {args : List V} {h : Heap} {v : V} (ho : D.orc f = none) (hc : D.code f = some o) (ht : D.tidy f = false) (hn : Nat.beq (lenL args) o.np = true) (hx : ex = .nrm ∨ ex = .ret)
    (h1 : Runs D o.body ⟨frameA o.dep args, [], h⟩ ex st1) (hd : st1.ds = []) (hv : (resultsT st1.h (getT st1.fr) o.results).map oneOr = some v) : CallR D f args h (.ret v) st1.h := by
  obtain ⟨n, h1⟩ := h1
  obtain ⟨vs, hvs, rfl⟩ := map_some hv
  refine ⟨n, ?_⟩
  unfold callFast callT
  simp only [ho, hc, ht]
  obtain ⟨np, dep, rs, bd⟩ := o
  simp only [bodyT, hn]
  rw [h1]
  obtain ⟨fr1, ds1, hp1⟩ := st1
  simp only at hd
  subst hd
  rcases hx with rfl | rfl <;> (simp only [leaveT, endedT]; simp only at hvs; rw [hvs]; rfl)
end

/-! ### what holds behind a run -/

def WP (D : OCtx) (c : ACode) (st : StT) (Q : Ex → StT → Prop) : Prop := ∃ ex st', Runs D c st ex st' ∧ Q ex st'
def WPs (D : OCtx) (l : List Step) (st : StT) (Q : StT → Prop) : Prop := ∃ st', StepsR D l st .nrm st' ∧ Q st'
def CallW (D : OCtx) (f : Nat) (args : List V) (h : Heap) (Q : V → Heap → Prop) : Prop := ∃ v h', CallR D f args h (.ret v) h' ∧ Q v h'

section
variable {D : OCtx} {a b c : ACode} {st : StT} {Q : Ex → StT → Prop} {K : StT → Prop}

theorem WP.mono {Q' : Ex → StT → Prop} (h : WP D a st Q) (hq : ∀ ex st, Q ex st → Q' ex st) : WP D a st Q' := by
  obtain ⟨ex, st', h1, h2⟩ := h; exact ⟨ex, st', h1, hq _ _ h2⟩
/-- behind the first of two -/
def onward (D : OCtx) (b : ACode) (Q : Ex → StT → Prop) : Ex → StT → Prop
  | .nrm, st => WP D b st Q
  | ex, st => Q ex st
theorem WP.seq (h : WP D a st (onward D b Q)) : WP D (.seq a b) st Q := by
  obtain ⟨ex, st1, h1, h2⟩ := h
  cases ex with
  | nrm => obtain ⟨ex, st2, h3, h4⟩ := h2; exact ⟨ex, st2, h1.seq h3, h4⟩
  | _ => exact ⟨_, st1, h1.seq_stop (by simp), h2⟩
theorem WP.yes {x : Opd} (hc : evT st.fr x = .bool true) (h : WP D a st Q) : WP D (.cond x a b) st Q := by
  obtain ⟨ex, st', h1, h2⟩ := h; exact ⟨ex, st', h1.yes hc, h2⟩
theorem WP.no {x : Opd} (hc : evT st.fr x = .bool false) (h : WP D b st Q) : WP D (.cond x a b) st Q := by
  obtain ⟨ex, st', h1, h2⟩ := h; exact ⟨ex, st', h1.no hc, h2⟩
theorem WP.skip (h : Q .nrm st) : WP D .skip st Q := ⟨_, _, Runs.skip, h⟩
theorem WP.label {l : Nat} (h : Q .nrm st) : WP D (.label l) st Q := ⟨_, _, Runs.label, h⟩
theorem WP.exit {i : Nat} (h : Q (.exit i) st) : WP D (.exit i) st Q := ⟨_, _, Runs.exit, h⟩
theorem WP.goto {l : Nat} (h : Q (.goto l) st) : WP D (.goto l) st Q := ⟨_, _, Runs.goto, h⟩
theorem WP.ret (h : Q .ret st) : WP D .ret st Q := ⟨_, _, Runs.ret, h⟩
def within (i : Nat) (Q : Ex → StT → Prop) : Ex → StT → Prop
  | .exit j, st => if Nat.beq j i then Q .nrm st else Q (.exit j) st
  | ex, st => Q ex st
theorem WP.block {i : Nat} (h : WP D a st (within i Q)) : WP D (.block i a) st Q := by
  obtain ⟨ex, st1, h1, h2⟩ := h
  cases ex with
  | exit j =>
    simp only [within] at h2
    cases hb : Nat.beq j i with
    | true =>
      rw [hb] at h2
      have := Nat.eq_of_beq_eq_true hb
      subst this
      exact ⟨_, st1, h1.block_exit, h2⟩
    | false =>
      rw [hb] at h2
      exact ⟨_, st1, h1.block_pass hb, h2⟩
  | _ => exact ⟨_, st1, h1.block (by simp), h2⟩
/-- a round of a loop -/
theorem WP.loop (h : WP D a st (onward D (.loop a) Q)) : WP D (.loop a) st Q := by
  obtain ⟨ex, st1, h1, h2⟩ := h
  cases ex with
  | nrm => obtain ⟨ex, st2, h3, h4⟩ := h2; exact ⟨ex, st2, h1.loop h3, h4⟩
  | _ => exact ⟨_, st1, h1.loop_stop (by simp), h2⟩
/-- in a scope -/
def inside (D : OCtx) (c : ACode) (Q : Ex → StT → Prop) : Ex → StT → Prop
  | .goto l, st => match findLabel c l with
    | some rest => WP D (.inscope rest c) st Q
    | none => False
  | ex, st => Q ex st
theorem WP.inscope (h : WP D a st (inside D c Q)) : WP D (.inscope a c) st Q := by
  obtain ⟨ex, st1, h1, h2⟩ := h
  cases ex with
  | goto l =>
    simp only [inside] at h2
    split at h2
    · rename_i rest hr
      obtain ⟨ex, st2, h3, h4⟩ := h2
      exact ⟨ex, st2, h1.inscope_goto hr h3, h4⟩
    · exact h2.elim
  | _ => exact ⟨_, st1, h1.inscope (by simp), h2⟩
theorem WP.scope (h : WP D (.inscope a a) st Q) : WP D (.scope a) st Q := by
  obtain ⟨ex, st', h1, h2⟩ := h; exact ⟨ex, st', h1.scope, h2⟩
theorem WP.region {l : List Step} (h : WPs D l st (Q .nrm)) : WP D (.region l) st Q := by
  obtain ⟨st', h1, h2⟩ := h; exact ⟨.nrm, st', Runs.region h1 (by simp), h2⟩

theorem WPs.nil (h : K st) : WPs D [] st K := ⟨st, StepsR.nil, h⟩
theorem WPs.near {op : AOp} {d : Option Nat} {l : List Step} {h' : Heap} {v : V} (he : opF op (evT st.fr) st.h = some (v, h')) (hf : op.far = false) (hr : op.isRecover = false) (h2 : WPs D l ⟨putT st.fr d v, st.ds, h'⟩ K) : WPs D (⟨d, op, none, []⟩ :: l) st K := by
  obtain ⟨st', h1, h3⟩ := h2
  exact ⟨st', StepsR.near hf hr he h1, h3⟩
theorem WPs.call {f : Nat} {xs : List Opd} {d : Option Nat} {l : List Step} {C : V → Heap → Prop} (he : CallW D f (xs.map (evT st.fr)) st.h C) (h2 : ∀ v h', C v h' → WPs D l ⟨putT st.fr d v, st.ds, h'⟩ K) : WPs D (⟨d, .call f xs, none, []⟩ :: l) st K := by
  obtain ⟨v, h', hc, hq⟩ := he
  obtain ⟨st', h1, h3⟩ := h2 v h' hq
  exact ⟨st', StepsR.call hc h1, h3⟩
theorem WPs.guarded {t : Nat} {b : Bool} {op : AOp} {d : Option Nat} {l : List Step} (hg : getT st.fr t = .bool b) (h2 : WPs D (⟨d, op, none, []⟩ :: l) st K) : WPs D (⟨d, op, some (t, b), []⟩ :: l) st K := by
  obtain ⟨st', h1, h3⟩ := h2
  exact ⟨st', StepsR.guarded hg h1, h3⟩
theorem WPs.passed {t : Nat} {b : Bool} {op : AOp} {d : Option Nat} {l : List Step} (hg : getT st.fr t = .bool (!b)) (h2 : WPs D l ⟨putT st.fr d (.tup []), st.ds, st.h⟩ K) : WPs D (⟨d, op, some (t, b), []⟩ :: l) st K := by
  obtain ⟨st', h1, h3⟩ := h2
  exact ⟨st', StepsR.passed hg h1, h3⟩

/-- a call of a function whose blocks are let be -/
theorem CallW.body {f : Nat} {o : OFunc} {args : List V} {h : Heap} {C : V → Heap → Prop} (ho : D.orc f = none) (hc : D.code f = some o) (ht : D.tidy f = false) (hn : Nat.beq (lenL args) o.np = true)
    (h1 : WP D o.body ⟨frameA o.dep args, [], h⟩ fun ex st1 => (ex = .nrm ∨ ex = .ret) ∧ st1.ds = [] ∧ ∃ v, (resultsT st1.h (getT st1.fr) o.results).map oneOr = some v ∧ C v st1.h) : CallW D f args h C := by
  obtain ⟨ex, st1, hr, hx, hd, v, hv, hq⟩ := h1
  exact ⟨v, st1.h, CallR.body ho hc ht hn hx hr hd hv, hq⟩
theorem CallW.of {f : Nat} {args : List V} {h h' : Heap} {v : V} (e : CallR D f args h (.ret v) h') : CallW D f args h fun u g => u = v ∧ g = h' := ⟨v, h', e, rfl, rfl⟩
end
end Go.Ab

namespace Go.Ab

/-- what is known of a frame -/
abbrev Kn := List (Nat × V)
def Kn.get : Kn → Nat → Option V
  | [], _ => none
  | (i, v) :: r, n => bif Nat.beq i n then some v else Kn.get r n
def kput (m : Kn) (d : Option Nat) (v : V) : Kn :=
  match d with
  | some i => (i, v) :: m
  | none => m
def kop (m : Kn) : Opd → Option Opd
  | .t n => (m.get n).map .v
  | .v x => some (.v x)
def vev : Opd → V
  | .t _ => .undef
  | .v x => x

/-- what an operation answers -/
structure Does (o : AOp) (h : Heap) (v : V) (h' : Heap) : Prop where
  eq : opF o vev h = some (v, h')

structure Has (fr : Fr) (cap : Nat) (m : Kn) : Prop where
  size : fr.cap = cap
  kn : ∀ i v, m.get i = some v → i < cap ∧ getT fr i = v

def Sup (m : Kn) : Kn → Prop
  | [] => True
  | (i, v) :: r => m.get i = some v ∧ Sup m r

theorem get_cons (i : Nat) (v : V) (r : Kn) (n : Nat) : Kn.get ((i, v) :: r) n = if i = n then some v else Kn.get r n := by
  simp only [Kn.get, beq_dec]
  by_cases h : i = n <;> simp [h]
def dOk (cap : Nat) : Option Nat → Bool
  | none => true
  | some i => Nat.blt i cap

theorem Has.put {fr : Fr} {cap : Nat} {m : Kn} (h : Has fr cap m) {d : Option Nat} (hd : dOk cap d = true) (v : V) : Has (putT fr d v) cap (kput m d v) := by
  refine ⟨(putT_cap ..).trans h.size, fun i u e => ?_⟩
  cases d with
  | none => exact h.kn i u e
  | some j =>
    have hj : j < cap := by simpa [dOk, Nat.blt_eq] using hd
    simp only [kput, get_cons] at e
    by_cases hij : j = i
    · subst hij
      simp only [if_true] at e
      cases e
      exact ⟨hj, getT_same ..⟩
    · simp only [hij, if_false] at e
      obtain ⟨h1, h2⟩ := h.kn i u e
      exact ⟨h1, (getT_ne fr (by rw [h.size]; exact hj) (by rw [h.size]; exact h1) (Ne.symm hij) v).trans h2⟩

theorem Has.opd {fr : Fr} {cap : Nat} {m : Kn} (h : Has fr cap m) {o o' : Opd} (e : kop m o = some o') : vev o' = evT fr o := by
  cases o with
  | t n =>
    simp only [kop] at e
    obtain ⟨v, h1, rfl⟩ := map_some e
    exact (h.kn n v h1).2.symm
  | v x => cases e; rfl

theorem Has.op {fr : Fr} {cap : Nat} {m : Kn} (h : Has fr cap m) (hp : Heap) {o o' : AOp} (e : mapO (kop m) o = some o') : opF o' vev hp = opF o (evT fr) hp :=
  opF_map (g := kop m) (e := evT fr) (e' := vev) (fun _ _ hx => h.opd hx) hp e

theorem Has.sup {fr : Fr} {cap : Nat} {m m' : Kn} (h : Has fr cap m) (hs : Sup m m') : Has fr cap m' := by
  refine ⟨h.size, fun i v e => ?_⟩
  suffices hq : m.get i = some v from h.kn i v hq
  clear h
  induction m' with
  | nil => cases e
  | cons p r ih =>
    obtain ⟨j, u⟩ := p
    rw [get_cons] at e
    by_cases hj : j = i
    · subst hj
      simp only [if_true] at e
      cases e
      exact hs.1
    · simp only [hj, if_false] at e
      exact ih hs.2 e

theorem Has.args {fr : Fr} {cap : Nat} {m : Kn} (h : Has fr cap m) {xs xs' : List Opd} (e : gL (kop m) xs = some xs') : xs.map (evT fr) = xs'.map vev :=
  (gL_map (g := kop m) (e := evT fr) (e' := vev) (fun _ _ hx => h.opd hx) e).symm

section
variable (D : OCtx) (cap : Nat)

def W (c : ACode) (m : Kn) (h : Heap) (Q : Ex → Kn → Heap → Prop) : Prop :=
  ∀ fr, Has fr cap m → WP D c ⟨fr, [], h⟩ fun ex st => st.ds = [] ∧ ∃ m', Has st.fr cap m' ∧ Q ex m' st.h
def WS (l : List Step) (m : Kn) (h : Heap) (K : Kn → Heap → Prop) : Prop :=
  ∀ fr, Has fr cap m → WPs D l ⟨fr, [], h⟩ fun st => st.ds = [] ∧ ∃ m', Has st.fr cap m' ∧ K m' st.h

def thenW (b : ACode) (Q : Ex → Kn → Heap → Prop) : Ex → Kn → Heap → Prop
  | .nrm, m, h => W D cap b m h Q
  | ex, m, h => Q ex m h
def blockW (i : Nat) (Q : Ex → Kn → Heap → Prop) : Ex → Kn → Heap → Prop
  | .exit j, m, h => bif Nat.beq j i then Q .nrm m h else Q (.exit j) m h
  | ex, m, h => Q ex m h
def insideW (c : ACode) (Q : Ex → Kn → Heap → Prop) : Ex → Kn → Heap → Prop
  | .goto l, m, h => match findLabel c l with
    | some rest => W D cap (.inscope rest c) m h Q
    | none => False
  | ex, m, h => Q ex m h
end
/-- behind a round of a loop -/
def again {α : Type} (E : α → Kn) (H : α → Heap) (P : α → Prop) (μ : α → Nat) (a : α) (Q : Ex → Kn → Heap → Prop) : Ex → Kn → Heap → Prop
  | .nrm, m, h => ∃ b, P b ∧ μ b < μ a ∧ Sup m (E b) ∧ h = H b
  | ex, m, h => Q ex m h

section
variable {D : OCtx} {cap : Nat} {a b c : ACode} {m m' : Kn} {h : Heap} {Q : Ex → Kn → Heap → Prop} {K : Kn → Heap → Prop}

theorem W.mono {Q' : Ex → Kn → Heap → Prop} (w : W D cap c m h Q) (hq : ∀ ex m h, Q ex m h → Q' ex m h) : W D cap c m h Q' := fun fr hf =>
  (w fr hf).mono fun _ _ ⟨h1, m', h2, h3⟩ => ⟨h1, m', h2, hq _ _ _ h3⟩
theorem W.sup (w : W D cap c m' h Q) (hs : Sup m m') : W D cap c m h Q := fun fr hf => w fr (hf.sup hs)
theorem WS.sup {l : List Step} (w : WS D cap l m' h K) (hs : Sup m m') : WS D cap l m h K := fun fr hf => w fr (hf.sup hs)

theorem W.seq (w : W D cap a m h (thenW D cap b Q)) : W D cap (.seq a b) m h Q := fun fr hf =>
  WP.seq ((w fr hf).mono fun ex st ⟨h1, m', h2, h3⟩ => by
    obtain ⟨fr', ds', h'⟩ := st
    simp only at h1
    subst h1
    cases ex with
    | nrm => exact h3 fr' h2
    | _ => exact ⟨rfl, m', h2, h3⟩)
theorem W.region {l : List Step} (w : WS D cap l m h (Q .nrm)) : W D cap (.region l) m h Q := fun fr hf => WP.region (w fr hf)
theorem W.yes {x x' : Opd} (e : kop m x = some x') (hv : vev x' = .bool true) (w : W D cap a m h Q) : W D cap (.cond x a b) m h Q := fun fr hf =>
  WP.yes (by show evT fr x = _; rw [← hf.opd e, hv]) (w fr hf)
theorem W.no {x x' : Opd} (e : kop m x = some x') (hv : vev x' = .bool false) (w : W D cap b m h Q) : W D cap (.cond x a b) m h Q := fun fr hf =>
  WP.no (by show evT fr x = _; rw [← hf.opd e, hv]) (w fr hf)
/-- a branch on a known condition -/
theorem W.fork {p : Prop} [Decidable p] {t : Nat} (e : m.get t = some (.bool (decide p))) (ht : p → W D cap a ((t, .bool true) :: m) h Q) (hf : ¬ p → W D cap b ((t, .bool false) :: m) h Q) : W D cap (.cond (.t t) a b) m h Q := fun fr hF => by
  have hg := hF.kn t _ e
  have key : ∀ u, getT fr t = u → Has fr cap ((t, u) :: m) := fun u hu => ⟨hF.size, fun i v hi => by
    rw [get_cons] at hi
    by_cases hj : t = i
    · subst hj; simp only [if_true] at hi; cases hi; exact ⟨hg.1, hu⟩
    · simp only [hj, if_false] at hi; exact hF.kn i v hi⟩
  by_cases hp : p
  · have hv : getT fr t = .bool true := hg.2.trans (by simp [hp])
    exact WP.yes hv (ht hp fr (key _ hv))
  · have hv : getT fr t = .bool false := hg.2.trans (by simp [hp])
    exact WP.no hv (hf hp fr (key _ hv))
theorem W.skip (q : Q .nrm m h) : W D cap .skip m h Q := fun _ hf => WP.skip ⟨rfl, m, hf, q⟩
theorem W.label {l : Nat} (q : Q .nrm m h) : W D cap (.label l) m h Q := fun _ hf => WP.label ⟨rfl, m, hf, q⟩
theorem W.exit {i : Nat} (q : Q (.exit i) m h) : W D cap (.exit i) m h Q := fun _ hf => WP.exit ⟨rfl, m, hf, q⟩
theorem W.goto {i : Nat} (q : Q (.goto i) m h) : W D cap (.goto i) m h Q := fun _ hf => WP.goto ⟨rfl, m, hf, q⟩
theorem W.ret (q : Q .ret m h) : W D cap .ret m h Q := fun _ hf => WP.ret ⟨rfl, m, hf, q⟩
theorem W.block {i : Nat} (w : W D cap a m h (blockW i Q)) : W D cap (.block i a) m h Q := fun fr hf =>
  WP.block ((w fr hf).mono fun ex st ⟨h1, m', h2, h3⟩ => by
    cases ex with
    | exit j =>
      simp only [within, blockW] at h3 ⊢
      cases hb : Nat.beq j i <;> (rw [hb] at h3; exact ⟨h1, m', h2, h3⟩)
    | _ => exact ⟨h1, m', h2, h3⟩)
theorem W.loop {α : Type} (E : α → Kn) (H : α → Heap) (P : α → Prop) (μ : α → Nat) (a0 : α) (hp : P a0) (hs : Sup m (E a0)) (hh : h = H a0)
    (w : ∀ a, P a → W D cap c (E a) (H a) (again E H P μ a Q)) : W D cap (.loop c) m h Q := by
  subst hh
  refine W.sup ?_ hs
  clear hs
  have key : ∀ n a, μ a = n → P a → W D cap (.loop c) (E a) (H a) Q := by
    intro n
    induction n using Nat.strongRecOn with
    | _ n ih =>
      intro a ha hp fr hf
      refine WP.loop ((w a hp fr hf).mono fun ex st ⟨h1, m', h2, h3⟩ => ?_)
      obtain ⟨fr', ds', h'⟩ := st
      simp only at h1
      subst h1
      cases ex with
      | nrm =>
        obtain ⟨b, hb, hlt, hsup, rfl⟩ := h3
        exact ih (μ b) (ha ▸ hlt) b rfl hb fr' (h2.sup hsup)
      | _ => exact ⟨rfl, m', h2, h3⟩
  exact key _ a0 rfl hp
theorem W.inscope (w : W D cap a m h (insideW D cap c Q)) : W D cap (.inscope a c) m h Q := fun fr hf =>
  WP.inscope ((w fr hf).mono fun ex st ⟨h1, m', h2, h3⟩ => by
    obtain ⟨fr', ds', h'⟩ := st
    simp only at h1
    subst h1
    cases ex with
    | goto l =>
      simp only [inside, insideW] at h3 ⊢
      cases hf : findLabel c l with
      | some rest => rw [hf] at h3; exact h3 fr' h2
      | none => rw [hf] at h3; exact h3
    | _ => exact ⟨rfl, m', h2, h3⟩)
theorem W.scope (w : W D cap (.inscope a a) m h Q) : W D cap (.scope a) m h Q := fun fr hf => WP.scope (w fr hf)
/-- a loop by jumps back to a label -/
theorem W.jumps {α : Type} (E : α → Kn) (H : α → Heap) (P : α → Prop) (μ : α → Nat) {rest : ACode} (a0 : α) (hp : P a0) (hs : Sup m (E a0)) (hh : h = H a0)
    (w : ∀ a, P a → (∀ b m' , P b → μ b < μ a → Sup m' (E b) → W D cap (.inscope rest c) m' (H b) Q) → W D cap (.inscope rest c) (E a) (H a) Q) : W D cap (.inscope rest c) m h Q := by
  subst hh
  refine W.sup ?_ hs
  clear hs
  have key : ∀ n a, μ a = n → P a → W D cap (.inscope rest c) (E a) (H a) Q := by
    intro n
    induction n using Nat.strongRecOn with
    | _ n ih => intro a ha hp; exact w a hp fun b m' hb hlt hsup => (ih (μ b) (ha ▸ hlt) b rfl hb).sup hsup
  exact key _ a0 rfl hp

theorem WS.nil (q : K m h) : WS D cap [] m h K := fun _ hf => WPs.nil ⟨rfl, m, hf, q⟩
theorem WS.near {op op' : AOp} {d : Option Nat} {l : List Step} {h' : Heap} {v : V} (e : mapO (kop m) op = some op') (he : Does op' h v h') (hx : (op.far || op.isRecover || !dOk cap d) = false) (w : WS D cap l (kput m d v) h' K) : WS D cap (⟨d, op, none, []⟩ :: l) m h K := fun fr hf => by
  simp only [Bool.or_eq_false_iff, Bool.not_eq_false'] at hx
  exact WPs.near (st := ⟨fr, [], h⟩) (by show opF op (evT fr) h = _; rw [← hf.op h e, he.eq]) hx.1.1 hx.1.2 (w _ (hf.put hx.2 v))
/-- a plain operation whose value is told apart -/
theorem WS.near' {op op' : AOp} {d : Option Nat} {l : List Step} {h' : Heap} {v u : V} (e : mapO (kop m) op = some op') (he : Does op' h v h') (hx : (op.far || op.isRecover || !dOk cap d) = false) (hu : v = u) (w : WS D cap l (kput m d u) h' K) : WS D cap (⟨d, op, none, []⟩ :: l) m h K :=
  WS.near e he hx (hu ▸ w)
theorem WS.call {f : Nat} {xs xs' : List Opd} {d : Option Nat} {l : List Step} {C : V → Heap → Prop} (e : gL (kop m) xs = some xs') (hx : dOk cap d = true) (he : CallW D f (xs'.map vev) h C) (w : ∀ v h', C v h' → WS D cap l (kput m d v) h' K) : WS D cap (⟨d, .call f xs, none, []⟩ :: l) m h K := fun fr hf =>
  WPs.call (C := C) (by show CallW D f (xs.map (evT fr)) h C; rw [hf.args e]; exact he) fun v h' hc => w v h' hc _ (hf.put hx v)

/-- a call with a plain answer: memory is as before -/
def Pu (D : OCtx) (f : Nat) (args : List V) (u : V) : Prop := ∀ h, CallW D f args h fun v h' => v = u ∧ h' = h
theorem WS.pu {f : Nat} {xs xs' : List Opd} {d : Option Nat} {l : List Step} {u : V} (e : gL (kop m) xs = some xs') (hx : dOk cap d = true) (he : Pu D f (xs'.map vev) u) (w : WS D cap l (kput m d u) h K) : WS D cap (⟨d, .call f xs, none, []⟩ :: l) m h K :=
  WS.call e hx (he h) fun v h' hc => by obtain ⟨rfl, rfl⟩ := hc; exact w

theorem WS.guardT {t : Nat} {b : Bool} {op : AOp} {d : Option Nat} {l : List Step} (e : m.get t = some (.bool b)) (w : WS D cap (⟨d, op, none, []⟩ :: l) m h K) : WS D cap (⟨d, op, some (t, b), []⟩ :: l) m h K := fun fr hf =>
  WPs.guarded (hf.kn t _ e).2 (w fr hf)
theorem WS.guardF {t : Nat} {b b' : Bool} {op : AOp} {d : Option Nat} {l : List Step} (e : m.get t = some (.bool b')) (hb : b' = !b) (hx : dOk cap d = true) (w : WS D cap l (kput m d (.tup [])) h K) : WS D cap (⟨d, op, some (t, b), []⟩ :: l) m h K := fun fr hf =>
  WPs.passed (by show getT fr t = _; rw [(hf.kn t _ e).2, hb]) (w _ (hf.put hx _))
theorem StepsR.missed {st st2 : StT} {ex : Ex} {t : Nat} {b : Bool} {vs : List V} {op : AOp} {d : Option Nat} {l : List Step} (hg : getT st.fr t = .tup vs) (h2 : StepsR D l ⟨putT st.fr d (.tup []), st.ds, st.h⟩ ex st2) : StepsR D (⟨d, op, some (t, b), []⟩ :: l) st ex st2 := by
  obtain ⟨n, h2⟩ := h2
  refine ⟨n, ?_⟩
  show Ab.guardT (some (t, b)) st _ (stepsT D (execT D n) l ⟨putT st.fr d (.tup []), st.ds, st.h⟩) = _
  simp only [Ab.guardT, hg]
  exact h2
theorem WS.guardV {t : Nat} {b : Bool} {vs : List V} {op : AOp} {d : Option Nat} {l : List Step} (e : m.get t = some (.tup vs)) (hx : dOk cap d = true) (w : WS D cap l (kput m d (.tup [])) h K) : WS D cap (⟨d, op, some (t, b), []⟩ :: l) m h K := fun fr hf => by
  obtain ⟨st', h1, h3⟩ := w _ (hf.put hx _)
  exact ⟨st', StepsR.missed (st := ⟨fr, [], h⟩) (hf.kn t _ e).2 h1, h3⟩
/-- a guard that may hold or not -/
theorem WS.guardK {p : Prop} [Decidable p] {t : Nat} {b : Bool} {op : AOp} {d : Option Nat} {l : List Step} (e : m.get t = some (.bool (decide p))) (ht : p → WS D cap (⟨d, op, some (t, b), []⟩ :: l) ((t, .bool true) :: m) h K)
    (hf : ¬ p → WS D cap (⟨d, op, some (t, b), []⟩ :: l) ((t, .bool false) :: m) h K) : WS D cap (⟨d, op, some (t, b), []⟩ :: l) m h K := fun fr hF => by
  have hg := hF.kn t _ e
  have key : ∀ u, getT fr t = u → Has fr cap ((t, u) :: m) := fun u hu => ⟨hF.size, fun i v hi => by
    rw [get_cons] at hi
    by_cases hj : t = i
    · subst hj; simp only [if_true] at hi; cases hi; exact ⟨hg.1, hu⟩
    · simp only [hj, if_false] at hi; exact hF.kn i v hi⟩
  by_cases hp : p
  · exact ht hp fr (key _ (hg.2.trans (by simp [hp])))
  · exact hf hp fr (key _ (hg.2.trans (by simp [hp])))
/-- what a condition tells is written down -/
theorem WS.know {p : Prop} [Decidable p] {t : Nat} {l : List Step} (e : m.get t = some (.bool (decide p))) (ht : p → WS D cap l ((t, .bool true) :: m) h K) (hf : ¬ p → WS D cap l ((t, .bool false) :: m) h K) : WS D cap l m h K := fun fr hF => by
  have hg := hF.kn t _ e
  have key : ∀ u, getT fr t = u → Has fr cap ((t, u) :: m) := fun u hu => ⟨hF.size, fun i v hi => by
    rw [get_cons] at hi
    by_cases hj : t = i
    · subst hj; simp only [if_true] at hi; cases hi; exact ⟨hg.1, hu⟩
    · simp only [hj, if_false] at hi; exact hF.kn i v hi⟩
  by_cases hp : p
  · exact ht hp fr (key _ (hg.2.trans (by simp [hp])))
  · exact hf hp fr (key _ (hg.2.trans (by simp [hp])))
theorem WS.rep {t : Nat} {u v : V} {l : List Step} (e : m.get t = some u) (hu : u = v) (w : WS D cap l ((t, v) :: m) h K) : WS D cap l m h K := fun fr hF => by
  subst hu
  have hg := hF.kn t _ e
  exact w fr ⟨hF.size, fun i v hi => by
    rw [get_cons] at hi
    by_cases hj : t = i
    · subst hj; simp only [if_true] at hi; cases hi; exact hg
    · simp only [hj, if_false] at hi; exact hF.kn i v hi⟩

/-! ### calls -/

def resK (m : Kn) (h : Heap) : List RVar → Option (List V)
  | [] => some []
  | .t n :: r => (m.get n).bind fun v => (resK m h r).map (v :: ·)
  | .cell a n isAgg :: r => (m.get a).bind fun p => ((h.at p).bind (part isAgg n)).bind fun v => (resK m h r).map (v :: ·)
theorem Has.res {fr : Fr} (hf : Has fr cap m) : ∀ {rs : List RVar} {vs : List V}, resK m h rs = some vs → resultsT h (getT fr) rs = some vs
  | [], vs, e => e
  | .t n :: r, vs, e => by
    simp only [resK] at e
    obtain ⟨v, h1, e⟩ := bind_some e
    obtain ⟨l, h2, rfl⟩ := map_some e
    simp only [resultsT, hf.res h2, (hf.kn n v h1).2, Option.map_some]
  | .cell a n g :: r, vs, e => by
    simp only [resK] at e
    obtain ⟨p, h1, e⟩ := bind_some e
    obtain ⟨v, h3, e⟩ := bind_some e
    obtain ⟨l, h2, rfl⟩ := map_some e
    simp only [resultsT, hf.res h2, (hf.kn a p h1).2, h3, Option.bind_some, Option.map_some]

/-- a function's end -/
def doneW (rs : List RVar) (C : V → Heap → Prop) : Ex → Kn → Heap → Prop
  | .nrm, m, h | .ret, m, h => ∃ vs, resK m h rs = some vs ∧ C (oneOr vs) h
  | _, _, _ => False

def argsK : Nat → List V → Kn
  | _, [] => []
  | i, v :: r => (i, v) :: argsK (i + 1) r

theorem argsK_get : ∀ (l : List V) (i j : Nat) (v : V), (argsK i l).get j = some v → ∃ k, j = i + k ∧ l[k]? = some v
  | [], _, _, _, e => by cases e
  | u :: r, i, j, v, e => by
    simp only [argsK, get_cons] at e
    by_cases h : i = j
    · simp only [h, if_true] at e; cases e; exact ⟨0, by omega, rfl⟩
    · simp only [h, if_false] at e
      obtain ⟨k, h1, h2⟩ := argsK_get r (i + 1) j v e
      exact ⟨k + 1, by omega, by simpa using h2⟩

theorem frame_has {dep : Nat} {args : List V} (hn : args.length ≤ 8) : Has (frameA dep args) (capOfD dep) (argsK 0 args) := by
  refine ⟨frameA_cap .., fun i v e => ?_⟩
  obtain ⟨k, h1, h2⟩ := argsK_get args 0 i v e
  have hk : k < args.length := by
    by_cases h : k < args.length
    · exact h
    · rw [List.getElem?_eq_none (by omega)] at h2; cases h2
  have hi : i = k := by omega
  subst hi
  have hc : 8 ≤ capOfD dep := by match dep with
    | 0 | 1 | _ + 2 => simp [capOfD]
  have hic : i < capOfD dep := by omega
  refine ⟨hic, ?_⟩
  rw [frameA_get hn hic]
  simp [List.getD, h2]

/-- a call of a function whose blocks are let be -/
theorem CallW.open {f : Nat} {o : OFunc} {args : List V} {C : V → Heap → Prop} (ho : D.orc f = none) (hc : D.code f = some o) (ht : D.tidy f = false) (hn : Nat.beq (lenL args) o.np = true) (hl : Nat.ble (lenL args) 8 = true)
    (w : W D (capOfD o.dep) o.body (argsK 0 args) h (doneW o.results C)) : CallW D f args h C :=
  CallW.body ho hc ht hn ((w _ (frame_has (by rw [lenL_eq] at hl; exact Nat.le_of_ble_eq_true hl))).mono fun ex st ⟨h1, m', h2, h3⟩ => by
    cases ex with
    | nrm => obtain ⟨vs, h4, h5⟩ := h3; exact ⟨.inl rfl, h1, _, by rw [h2.res h4]; rfl, h5⟩
    | ret => obtain ⟨vs, h4, h5⟩ := h3; exact ⟨.inr rfl, h1, _, by rw [h2.res h4]; rfl, h5⟩
    | _ => exact h3.elim)

/-- a call of a function whose blocks end with it -/
theorem CallW.shut {f : Nat} {o : OFunc} {args : List V} {C : V → Heap → Prop} (ho : D.orc f = none) (hc : D.code f = some o) (ht : D.tidy f = true) (hn : Nat.beq (lenL args) o.np = true) (hl : Nat.ble (lenL args) 8 = true)
    (w : W D (capOfD o.dep) o.body (argsK 0 args) { h with floors := h.next :: h.floors } (doneW o.results fun v h' => ∃ u, freeze h' h.next fuelF v = some u ∧ C u (h'.tidied h))) : CallW D f args h C := by
  obtain ⟨ex, st1, ⟨n, hr⟩, h1, m', h2, h3⟩ := w _ (frame_has (by rw [lenL_eq] at hl; exact Nat.le_of_ble_eq_true hl))
  obtain ⟨fr1, ds1, hp1⟩ := st1
  simp only at h1 h2 h3
  subst h1
  obtain ⟨np, dep, rs, bd⟩ := o
  have fin : ∀ vs u, resK m' hp1 rs = some vs → freeze hp1 h.next fuelF (oneOr vs) = some u → (ex = .nrm ∨ ex = .ret) → callFast D n f args h = some (.ret u, hp1.tidied h) := by
    intro vs u hv hu hx
    unfold callFast callT
    simp only [ho, hc, ht]
    simp only [bodyT, hn]
    simp only at hr
    rw [hr]
    rcases hx with rfl | rfl <;> (simp only [leaveT, endedT]; rw [h2.res hv]; simp only [Option.map_some, hu])
  cases ex with
  | nrm => obtain ⟨vs, h4, u, h5, h6⟩ := h3; exact ⟨u, _, ⟨n, fin vs u h4 h5 (.inl rfl)⟩, h6⟩
  | ret => obtain ⟨vs, h4, u, h5, h6⟩ := h3; exact ⟨u, _, ⟨n, fin vs u h4 h5 (.inr rfl)⟩, h6⟩
  | _ => exact h3.elim
theorem CallW.orc {f : Nat} {g : List V → Heap → Option (Out × Heap)} {args : List V} {h' : Heap} {v : V} {C : V → Heap → Prop} (ho : D.orc f = some g) (e : g args h = some (.ret v, h')) (q : C v h') : CallW D f args h C :=
  ⟨v, h', ⟨0, by unfold callFast callT; simp only [ho]; exact e⟩, q⟩
theorem CallW.mono {f : Nat} {args : List V} {C C' : V → Heap → Prop} (w : CallW D f args h C) (hq : ∀ v h', C v h' → C' v h') : CallW D f args h C' := by
  obtain ⟨v, h', h1, h2⟩ := w; exact ⟨v, h', h1, hq _ _ h2⟩
end
end Go.Ab

namespace Go.Ab

theorem vev_eq : vev = ev [] := funext fun o => by cases o <;> rfl
theorem op1v (o : AOp) (h : Heap) : opF o vev h = op1 [] h o := by rw [vev_eq]; exact opF_ev [] h o

theorem wrap_i64 {n : Int} (h1 : -9223372036854775808 ≤ n) (h2 : n < 9223372036854775808) : IntKind.wrap .i64 n = n := by
  have e1 : (2 : Int) ^ IntKind.bits .i64 = 18446744073709551616 := by decide
  have e2 : (2 : Int) ^ (IntKind.bits .i64 - 1) = 9223372036854775808 := by decide
  have e3 : IntKind.signed .i64 = true := rfl
  simp only [IntKind.wrap, e1, e2, e3, Bool.true_and, decide_eq_true_eq]
  split <;> omega
theorem wrap_u8 {n : Int} (h1 : 0 ≤ n) (h2 : n < 256) : IntKind.wrap .u8 n = n := by
  have e1 : (2 : Int) ^ IntKind.bits .u8 = 256 := by decide
  have e3 : IntKind.signed .u8 = false := rfl
  simp only [IntKind.wrap, e1, e3, Bool.false_and, Bool.false_eq_true, if_false]
  omega

section
variable {k : IntKind} {a b : Int} {s t : List Nat} {h : Heap}

theorem o_mov {x : V} : Does (.mov (.v x)) h x h := ⟨rfl⟩
theorem o_pickT {x y : V} : Does (.pick (.v (.bool true)) (.v x) (.v y)) h x h := ⟨rfl⟩
theorem o_pickF {x y : V} : Does (.pick (.v (.bool false)) (.v x) (.v y)) h y h := ⟨rfl⟩
theorem o_notT : Does (.un .not (.v (.bool true))) h (.bool false) h := ⟨rfl⟩
theorem o_notF : Does (.un .not (.v (.bool false))) h (.bool true) h := ⟨rfl⟩
theorem o_faddr {id off o : Nat} : Does (.faddr off (.v (.mptr id o))) h (.mptr id (o + off)) h := ⟨rfl⟩
theorem o_faddrF {cs : List V} {off : Nat} (hl : off ≤ cs.length) : Does (.faddr off (.v (.fptr cs))) h (.fptr (cs.drop off)) h := by refine ⟨?_⟩; rw [op1v]; simp [op1, ev, hl]
theorem o_s2b : Does (.s2b (.v (.str s))) h (.fsl (s.map fun (b : Nat) => V.int .u8 (b : Int)) none) h := ⟨rfl⟩
theorem o_lss : Does (.bin .lss (.v (.int k a)) (.v (.int k b))) h (.bool (decide (a < b))) h := by refine ⟨?_⟩; rw [op1v]; simp [op1, ev, bin, intBin]
theorem o_leq : Does (.bin .leq (.v (.int k a)) (.v (.int k b))) h (.bool (decide (a ≤ b))) h := by refine ⟨?_⟩; rw [op1v]; simp [op1, ev, bin, intBin]
theorem o_gtr : Does (.bin .gtr (.v (.int k a)) (.v (.int k b))) h (.bool (decide (b < a))) h := by refine ⟨?_⟩; rw [op1v]; simp [op1, ev, bin, intBin]
theorem o_geq : Does (.bin .geq (.v (.int k a)) (.v (.int k b))) h (.bool (decide (b ≤ a))) h := by refine ⟨?_⟩; rw [op1v]; simp [op1, ev, bin, intBin]
theorem o_eql : Does (.bin .eql (.v (.int k a)) (.v (.int k b))) h (.bool (decide (a = b))) h := by refine ⟨?_⟩; rw [op1v]; simp [op1, ev, bin, intBin]
theorem o_neq : Does (.bin .neq (.v (.int k a)) (.v (.int k b))) h (.bool (decide (a ≠ b))) h := by refine ⟨?_⟩; rw [op1v]; simp [op1, ev, bin, intBin]
theorem o_seql : Does (.bin .eql (.v (.str s)) (.v (.str t))) h (.bool (decide (s = t))) h := by refine ⟨?_⟩; rw [op1v]; simp [op1, ev, bin]
theorem o_seql0 : Does (.bin .eql (.v (.str s)) (.v (.str []))) h (.bool (decide (s.length = 0))) h := by
  refine ⟨?_⟩; rw [op1v]
  have : decide (s = []) = decide (s.length = 0) := decide_eq_decide.2 List.length_eq_zero_iff.symm
  simp only [op1, ev, bin, Option.map_some, this]
theorem o_sneq0 : Does (.bin .neq (.v (.str s)) (.v (.str []))) h (.bool (decide (s.length ≠ 0))) h := by
  refine ⟨?_⟩; rw [op1v]
  have : (!decide (s = [])) = decide (s.length ≠ 0) := by rw [← decide_not]; exact decide_eq_decide.2 (not_congr List.length_eq_zero_iff.symm)
  simp only [op1, ev, bin, Option.map_some, this]
theorem o_sneq : Does (.bin .neq (.v (.str s)) (.v (.str t))) h (.bool (decide (s ≠ t))) h := by refine ⟨?_⟩; rw [op1v]; simp [op1, ev, bin]
theorem o_not {p : Prop} [Decidable p] : Does (.un .not (.v (.bool (decide p)))) h (.bool (decide (¬ p))) h := by refine ⟨?_⟩; rw [op1v]; simp [op1, ev, un]
theorem o_add (h1 : -9223372036854775808 ≤ a + b) (h2 : a + b < 9223372036854775808) : Does (.bin .add (.v (.int .i64 a)) (.v (.int .i64 b))) h (.int .i64 (a + b)) h := by refine ⟨?_⟩; rw [op1v]; simp [op1, ev, bin, intBin, wrap_i64 h1 h2]
theorem o_sub (h1 : -9223372036854775808 ≤ a - b) (h2 : a - b < 9223372036854775808) : Does (.bin .sub (.v (.int .i64 a)) (.v (.int .i64 b))) h (.int .i64 (a - b)) h := by refine ⟨?_⟩; rw [op1v]; simp [op1, ev, bin, intBin, wrap_i64 h1 h2]
theorem o_mul (h1 : -9223372036854775808 ≤ a * b) (h2 : a * b < 9223372036854775808) : Does (.bin .mul (.v (.int .i64 a)) (.v (.int .i64 b))) h (.int .i64 (a * b)) h := by refine ⟨?_⟩; rw [op1v]; simp [op1, ev, bin, intBin, wrap_i64 h1 h2]
theorem o_sub8 (h1 : 0 ≤ a - b) (h2 : a - b < 256) : Does (.bin .sub (.v (.int .u8 a)) (.v (.int .u8 b))) h (.int .u8 (a - b)) h := by refine ⟨?_⟩; rw [op1v]; simp [op1, ev, bin, intBin, wrap_u8 h1 h2]
theorem o_conv (h1 : -9223372036854775808 ≤ a) (h2 : a < 9223372036854775808) : Does (.conv .i64 (.v (.int k a))) h (.int .i64 a) h := by refine ⟨?_⟩; rw [op1v]; simp [op1, ev, wrap_i64 h1 h2]
theorem o_sadd (h1 : s.length + t.length < 2 ^ 62) : Does (.bin .add (.v (.str s)) (.v (.str t))) h (.str (s ++ t)) h := by refine ⟨?_⟩; rw [op1v]; simp only [op1, ev, bin, h1, if_true]; rfl

theorem idx_ok (h1 : 0 ≤ a) : idx (.int k a) = some a.toNat := by simp [idx, h1]
theorem idx_nat {n : Nat} : idx (.int k (n : Int)) = some n := by simp [idx]

def at' (s : List Nat) (n : Nat) : Nat := s.getD n 0
theorem at_get {n : Nat} (hn : n < s.length) : s[n]? = some (at' s n) := by simp [at', List.getD, hn]

theorem o_index (n : Nat) (ha : a = n) (hn : n < s.length) : Does (.index (.v (.str s)) (.v (.int k a))) h (.int .u8 (at' s n : Nat)) h := by
  refine ⟨?_⟩
  subst ha; rw [op1v]; simp only [op1, ev, idx_nat, at_get hn, Option.map_some]
theorem o_lenS : Does (.len 0 (.v (.str s))) h (.int .i64 (s.length : Nat)) h := by refine ⟨?_⟩; rw [op1v]; rfl
theorem o_sliceS (n m : Nat) {k' : IntKind} (ha : a = n) (hb : b = m) (hn : n ≤ m) (hm : m ≤ s.length) : Does (.sliceS (.v (.str s)) (some (.v (.int k a))) (some (.v (.int k' b)))) h (.str ((s.take m).drop n)) h := by
  refine ⟨?_⟩
  subst ha hb; rw [op1v]; simp [op1, ev, optIdx, idx_nat, hn, hm]
theorem o_sliceF (n : Nat) (ha : a = n) (hn : n ≤ s.length) : Does (.sliceS (.v (.str s)) (some (.v (.int k a))) none) h (.str (s.drop n)) h := by
  refine ⟨?_⟩
  subst ha; rw [op1v]; simp [op1, ev, optIdx, idx_nat, hn]
theorem o_sliceT (n : Nat) (ha : a = n) (hn : n ≤ s.length) : Does (.sliceS (.v (.str s)) none (some (.v (.int k a)))) h (.str (s.take n)) h := by
  refine ⟨?_⟩
  subst ha; rw [op1v]; simp [op1, ev, optIdx, idx_nat, hn]
end

/-! ### blocks -/

/-- a heap in order -/
structure Heap.Fine (h : Heap) : Prop where
  len : h.bl.length = h.next
  fl : ∀ f ∈ h.floors, f ≤ h.next

/-- grown out of h0: what is below is let be -/
structure Grown (h0 h : Heap) : Prop where
  le : h0.next ≤ h.next
  drop : h.bl.drop (h.next - h0.next) = h0.bl
  floors : h.floors = h0.floors
  len : h.bl.length = h.next

theorem Heap.Fine.shut {h : Heap} (hf : h.Fine) : Heap.Fine { h with floors := h.next :: h.floors } :=
  ⟨hf.len, fun f m => by
    simp only [List.mem_cons] at m
    rcases m with rfl | m
    · exact Nat.le_refl _
    · exact hf.fl f m⟩
theorem Grown.refl {h : Heap} (hf : h.Fine) : Grown h h := ⟨Nat.le_refl _, by simp, rfl, hf.len⟩
theorem Grown.fine {h0 h : Heap} (g : Grown h0 h) (h0f : h0.Fine) : h.Fine := ⟨g.len, fun f m => by rw [g.floors] at m; exact Nat.le_trans (h0f.fl f m) g.le⟩
theorem Grown.new {h0 h : Heap} (g : Grown h0 h) (b : Blk) : Grown h0 (h.new b) := by
  refine ⟨Nat.le_trans g.le (Nat.le_succ _), ?_, g.floors, by simp [Heap.new, g.len]⟩
  have : h.next + 1 - h0.next = (h.next - h0.next) + 1 := by have := g.le; omega
  simp only [Heap.new, this, List.drop_succ_cons, g.drop]
theorem Grown.put {h0 h : Heap} (g : Grown h0 h) {id : Nat} (hi : h0.next ≤ id) (hid : id < h.next) (b : Option Blk) : Grown h0 (h.put id b) := by
  refine ⟨g.le, ?_, g.floors, by simp [Heap.put, g.len]⟩
  simp only [Heap.put]
  rw [List.drop_set_of_lt (by omega), g.drop]
theorem Grown.trans {h0 h1 h2 : Heap} (g : Grown h0 h1) (g' : Grown h1 h2) : Grown h0 h2 := by
  refine ⟨Nat.le_trans g.le g'.le, ?_, g'.floors.trans g.floors, g'.len⟩
  have : h2.next - h0.next = (h2.next - h1.next) + (h1.next - h0.next) := by have := g.le; have := g'.le; omega
  rw [this, ← List.drop_drop, g'.drop, g.drop]
theorem Grown.tidied {h0 h : Heap} (g : Grown { h0 with floors := h0.next :: h0.floors } h) : h.tidied h0 = h0 := by
  have := g.drop
  simp only at this
  simp only [Heap.tidied, this]
theorem Grown.mine {h0 h : Heap} (g : Grown h0 h) (h0f : h0.Fine) {id : Nat} (hi : h0.next ≤ id) : h.mine id = true := by
  simp only [Heap.mine, List.all_eq_true, decide_eq_true_eq, g.floors]
  exact fun f m => Nat.le_trans (h0f.fl f m) hi
theorem Grown.may {h0 h : Heap} (g : Grown h0 h) (h0f : h0.Fine) {id : Nat} (hi : h0.next ≤ id) (vs : List V) : h.mayPut id vs = true := by
  simp only [Heap.mayPut, List.all_eq_true, Bool.or_eq_true, decide_eq_true_eq, g.floors]
  exact fun f m => .inl (Nat.le_trans (h0f.fl f m) hi)

theorem cells_lt {h : Heap} {id : Nat} {l : List V} (e : h.cellsOf id = some l) : id < h.next := by
  simp only [Heap.cellsOf, Heap.get] at e
  by_cases hi : id < h.next
  · exact hi
  · simp [hi] at e
theorem cells_new {h : Heap} (l : List V) : (h.new (.cells l)).cellsOf h.next = some l := by simp [Heap.cellsOf, Heap.get, Heap.new]
theorem cells_old {h : Heap} (b : Blk) {id : Nat} (hi : id < h.next) : (h.new b).cellsOf id = h.cellsOf id := by
  have h1 : id < h.next + 1 := by omega
  have h2 : h.next + 1 - 1 - id = (h.next - 1 - id) + 1 := by omega
  simp only [Heap.cellsOf, Heap.get, Heap.new, h1, hi, if_true, h2, List.getElem?_cons_succ]
theorem cells_put {h : Heap} {id : Nat} (l : List V) (hi : id < h.next) (hl : h.bl.length = h.next) : (h.put id (some (.cells l))).cellsOf id = some l := by
  have : h.next - 1 - id < h.bl.length := by omega
  simp [Heap.cellsOf, Heap.get, Heap.put, hi, this]
theorem cells_far {h : Heap} {id j : Nat} (b : Option Blk) (hj : j ≠ id) (hi : id < h.next) : (h.put id b).cellsOf j = h.cellsOf j := by
  by_cases hjn : j < h.next
  · have : h.next - 1 - id ≠ h.next - 1 - j := by omega
    simp only [Heap.cellsOf, Heap.get, Heap.put, hjn, if_true, List.getElem?_set_ne this]
  · simp only [Heap.cellsOf, Heap.get, Heap.put, hjn, if_false]
theorem put_next (h : Heap) (id : Nat) (b : Option Blk) : (h.put id b).next = h.next := rfl
theorem new_next (h : Heap) (b : Blk) : (h.new b).next = h.next + 1 := rfl

section
variable {h : Heap} {id off n : Nat} {l : List V}

theorem o_alloc (z : List V) : Does (.alloc z) h (.mptr h.next 0) (h.new (.cells z)) := ⟨rfl⟩
theorem o_load1 {v : V} {r : List V} (e : h.cellsOf id = some l) (hd : l.drop off = v :: r) : Does (.load 1 false (.v (.mptr id off))) h v h := by
  refine ⟨?_⟩
  rw [op1v]; simp [op1, ev, Heap.at, e, hd, part]
theorem o_loadN (e : h.cellsOf id = some l) (hn : off + n ≤ l.length) : Does (.load n true (.v (.mptr id off))) h (.agg ((l.drop off).take n)) h := by
  refine ⟨?_⟩
  rw [op1v]
  have : ¬ l.length - off < n := by omega
  simp [op1, ev, Heap.at, e, part, this]
theorem o_store {x : V} (e : h.cellsOf id = some l) (hx : x.cells.length = n) (hn : off + n ≤ l.length) (hm : h.mayPut id x.cells = true) :
    Does (.store n (.v (.mptr id off)) (.v x)) h .undef (h.put id (some (.cells (l.take off ++ x.cells ++ l.drop (off + n))))) := by
  refine ⟨?_⟩
  rw [op1v]; simp [op1, ev, e, hx, hn, hm]
/-- an element of a frozen slice -/
theorem o_iaddrF {es : List V} {cap : Option Nat} {k : IntKind} {a : Int} {sz : Nat} {v : V} (ha : a = n) (hv : es[n]? = some v) (hz : v.cells.length = sz) : Does (.iaddr sz (.v (.fsl es cap)) (.v (.int k a))) h (.fptr v.cells) h := by
  refine ⟨?_⟩
  subst ha; rw [op1v]; simp [op1, ev, idx_nat, hv, hz]
theorem o_iaddrM {cap : Option Nat} {k : IntKind} {a : Int} {sz len : Nat} (ha : a = n) (hn : n < len) : Does (.iaddr sz (.v (.msl id sz off len cap)) (.v (.int k a))) h (.mptr id ((off + n) * sz)) h := by
  refine ⟨?_⟩
  subst ha; rw [op1v]; simp [op1, ev, idx_nat, hn]
theorem o_lenF {es : List V} {cap : Option Nat} : Does (.len 1 (.v (.fsl es cap))) h (.int .i64 (es.length : Nat)) h := by refine ⟨?_⟩; rw [op1v]; rfl
theorem o_lenB {s : List Nat} {cap : Option Nat} : Does (.len 1 (.v (.fsl (s.map fun (b : Nat) => V.int .u8 (b : Int)) cap))) h (.int .i64 (s.length : Nat)) h := by refine ⟨?_⟩; rw [op1v]; simp [op1, ev, lenOf]
theorem o_iaddrB {s : List Nat} {cap : Option Nat} {k : IntKind} {a : Int} (n : Nat) (ha : a = n) (hn : n < s.length) : Does (.iaddr 1 (.v (.fsl (s.map fun (b : Nat) => V.int .u8 (b : Int)) cap)) (.v (.int k a))) h (.fptr [.int .u8 (at' s n : Nat)]) h :=
  o_iaddrF (v := .int .u8 (at' s n : Nat)) ha (by rw [List.getElem?_map, at_get hn]; rfl) rfl
theorem o_loadF {v : V} {r : List V} : Does (.load 1 false (.v (.fptr (v :: r)))) h v h := by refine ⟨?_⟩; rw [op1v]; simp [op1, ev, Heap.at, part]
end

end Go.Ab

namespace Go.Ab

/-- a heap with new blocks, the oldest first; none: given up -/
def hp (h0 : Heap) (bs : List (Option (List V))) : Heap := { next := h0.next + bs.length, floors := h0.floors, bl := (bs.map fun c => c.map Blk.cells).reverse ++ h0.bl }
def bget : List (Option (List V)) → Nat → Option (List V)
  | [], _ => none
  | b :: _, 0 => b
  | _ :: r, k + 1 => bget r k
def splice (l : List V) (off n : Nat) (cs : List V) : List V := l.take off ++ cs ++ l.drop (off + n)
def bset : List (Option (List V)) → Nat → Option (List V) → List (Option (List V))
  | [], _, _ => []
  | _ :: r, 0, c => c :: r
  | b :: r, k + 1, c => b :: bset r k c
def bput (bs : List (Option (List V))) (k off n : Nat) (cs : List V) : List (Option (List V)) := bset bs k ((bget bs k).map fun l => splice l off n cs)
def badd : List (Option (List V)) → List V → List (Option (List V))
  | [], c => [some c]
  | b :: r, c => b :: badd r c
def hload (bs : List (Option (List V))) (k off : Nat) : Option V := (bget bs k).bind fun l => (l.drop off).head?

theorem bget_eq : ∀ (bs : List (Option (List V))) (k : Nat), bget bs k = bs[k]?.join
  | [], _ => rfl
  | _ :: _, 0 => rfl
  | _ :: r, k + 1 => by simp only [bget, bget_eq r k, List.getElem?_cons_succ]
theorem badd_eq : ∀ (bs : List (Option (List V))) (c : List V), badd bs c = bs ++ [some c]
  | [], _ => rfl
  | b :: r, c => by simp only [badd, badd_eq r c, List.cons_append]
theorem bset_eq : ∀ (bs : List (Option (List V))) (k : Nat) (c : Option (List V)), bset bs k c = bs.set k c
  | [], _, _ => rfl
  | _ :: _, 0, _ => rfl
  | b :: r, k + 1, c => by simp only [bset, bset_eq r k c, List.set_cons_succ]
theorem bput_eq {bs : List (Option (List V))} {k off n : Nat} {cs l : List V} (e : bget bs k = some l) : bput bs k off n cs = bs.set k (some (splice l off n cs)) := by
  simp only [bput, bset_eq, e, Option.map_some]
theorem bget_lt {bs : List (Option (List V))} {k : Nat} {l : List V} (e : bget bs k = some l) : k < bs.length := by
  rcases Nat.lt_or_ge k bs.length with h | h
  · exact h
  · rw [bget_eq, List.getElem?_eq_none h] at e; cases e

theorem hp_nil {h0 : Heap} : hp h0 [] = h0 := by simp [hp]
theorem hp_new (h0 : Heap) (bs : List (Option (List V))) (c : List V) : (hp h0 bs).new (.cells c) = hp h0 (badd bs c) := by
  simp [hp, Heap.new, badd_eq, Nat.add_assoc]
theorem hp_cells (h0 : Heap) (bs : List (Option (List V))) (k : Nat) : (hp h0 bs).cellsOf (h0.next + k) = bget bs k := by
  rw [bget_eq]
  simp only [Heap.cellsOf, Heap.get, hp]
  by_cases hk : k < bs.length
  · have h1 : h0.next + k < h0.next + bs.length := by omega
    have h2 : h0.next + bs.length - 1 - (h0.next + k) = bs.length - 1 - k := by omega
    have h3 : bs.length - 1 - k < (List.map (fun c => Option.map Blk.cells c) bs).reverse.length := by simp; omega
    simp only [h1, if_true]
    rw [h2, List.getElem?_append_left h3, List.getElem?_reverse (by simp; omega)]
    have h4 : (List.map (fun c => Option.map Blk.cells c) bs).length - 1 - (bs.length - 1 - k) = k := by simp; omega
    rw [h4, List.getElem?_map]
    cases hb : bs[k]? with
    | none => rfl
    | some o => cases o <;> rfl
  · have h1 : ¬ h0.next + k < h0.next + bs.length := by omega
    simp only [h1, if_false]
    rw [List.getElem?_eq_none (by omega)]
    rfl
theorem hp_set (h0 : Heap) {bs : List (Option (List V))} {k : Nat} (hk : k < bs.length) (c : Option (List V)) : (hp h0 bs).put (h0.next + k) (c.map .cells) = hp h0 (bset bs k c) := by
  rw [bset_eq]
  simp only [hp, Heap.put, List.length_set, Heap.mk.injEq, true_and]
  have h2 : h0.next + bs.length - 1 - (h0.next + k) = bs.length - 1 - k := by omega
  rw [h2, List.set_append_left _ _ (by simp; omega), List.map_set]
  congr 1
  have key : ∀ (L : List (Option Blk)) (j : Nat) (x : Option Blk), j < L.length → L.reverse.set (L.length - 1 - j) x = (L.set j x).reverse := fun L j x hj => by
    apply List.ext_getElem?
    intro i
    rw [List.getElem?_set]
    by_cases hi : i < L.length
    · have e1 : (L.set j x).reverse[i]? = (L.set j x)[L.length - 1 - i]? := by rw [List.getElem?_reverse (by simpa using hi), List.length_set]
      rw [e1, List.getElem?_set, List.getElem?_reverse hi]
      by_cases h3 : L.length - 1 - j = i
      · have h4 : j = L.length - 1 - i := by omega
        have h6 : L.length - 1 - j < L.reverse.length := by simp; omega
        rw [if_pos h3, if_pos h6, if_pos h4, if_pos hj]
      · have h4 : ¬ j = L.length - 1 - i := by omega
        simp only [h3, if_false, h4]
    · have h5 : ¬ L.length - 1 - j = i := by omega
      simp only [h5, if_false]
      rw [List.getElem?_eq_none (by simpa using hi), List.getElem?_eq_none (by simpa using hi)]
  have := key (bs.map fun c => c.map Blk.cells) k (c.map .cells) (by simpa using hk)
  simpa using this
theorem hp_put {h0 : Heap} {bs : List (Option (List V))} {k off n : Nat} {l cs : List V} (e : bget bs k = some l) : (hp h0 bs).put (h0.next + k) (some (.cells (splice l off n cs))) = hp h0 (bput bs k off n cs) := by
  rw [bput_eq e, ← bset_eq, ← hp_set h0 (bget_lt e)]
  rfl
theorem hp_fine {h0 : Heap} (hf : h0.Fine) {bs : List (Option (List V))} : (hp h0 bs).Fine :=
  ⟨by simp [hp, hf.len]; omega, fun f m => Nat.le_trans (hf.fl f m) (Nat.le_add_right _ _)⟩
theorem hp_may {h0 : Heap} (hf : h0.Fine) {bs : List (Option (List V))} (k : Nat) (vs : List V) : (hp h0 bs).mayPut (h0.next + k) vs = true := by
  simp only [Heap.mayPut, List.all_eq_true, Bool.or_eq_true, decide_eq_true_eq]
  exact fun f m => .inl (Nat.le_trans (hf.fl f m) (Nat.le_add_right _ _))
theorem hp_tidied (h : Heap) (bs : List (Option (List V))) : (hp { h with floors := h.next :: h.floors } bs).tidied h = h := by
  simp [Heap.tidied, hp]

theorem o_seqlR {s : List Nat} {h : Heap} : Does (.bin .eql (.v (.str s)) (.v (.str s))) h (.bool true) h := by refine ⟨?_⟩; rw [op1v]; simp [op1, ev, bin]
theorem ceq0 : bin .eql (.cpx .f64 0 0) (.cpx .f64 0 0) = some (.bool true) := by kernel_rfl
theorem o_ceq0 {h : Heap} : Does (.bin .eql (.v (.cpx .f64 0 0)) (.v (.cpx .f64 0 0))) h (.bool true) h := by refine ⟨?_⟩; rw [op1v]; simp only [op1, ev, ceq0, Option.map_some]

theorem o_binB {neg a b : Bool} {h : Heap} : Does (.binB neg (.v (.bool a)) (.v (.bool b))) h (.bool ((a == b) != neg)) h := ⟨rfl⟩
theorem o_build {z cs : List V} {ps : List (Nat × Nat × Opd)} {h : Heap} (e : fill z (ps.map fun p => (p.1, p.2.1, vev p.2.2)) = some cs) : Does (.build z ps) h (.agg cs) h :=
  ⟨by show (fill z (ps.map fun p => (p.1, p.2.1, vev p.2.2))).map (fun cs => (V.agg cs, h)) = _; rw [e]; rfl⟩

section
variable {h0 : Heap} {bs : List (Option (List V))} {off n : Nat} {l : List V}

theorem o_allocH (k : Nat) (hk : Nat.beq (lenL bs) k = true) {z : List V} : Does (.alloc z) (hp h0 bs) (.mptr (h0.next + k) 0) (hp h0 (badd bs z)) := by
  have := Nat.eq_of_beq_eq_true hk
  rw [lenL_eq] at this
  subst this
  exact ⟨by rw [← hp_new]; rfl⟩
theorem o_boxH (k : Nat) (hk : Nat.beq (lenL bs) k = true) {x : V} : Does (.box (.v x)) (hp h0 bs) (.mptr (h0.next + k) 0) (hp h0 (badd bs x.cells)) := by
  have := Nat.eq_of_beq_eq_true hk
  rw [lenL_eq] at this
  subst this
  exact ⟨by rw [← hp_new]; rfl⟩
theorem o_loadH {k : Nat} {v : V} (e : hload bs k off = some v) : Does (.load 1 false (.v (.mptr (h0.next + k) off))) (hp h0 bs) v (hp h0 bs) := by
  obtain ⟨l, h1, h2⟩ := bind_some e
  cases hd : l.drop off with
  | nil => rw [hd] at h2; cases h2
  | cons a r =>
    rw [hd] at h2
    cases h2
    exact o_load1 ((hp_cells ..).trans h1) hd
theorem o_loadHN {k : Nat} (e : bget bs k = some l) (hn : Nat.ble (off + n) (lenL l) = true) : Does (.load n true (.v (.mptr (h0.next + k) off))) (hp h0 bs) (.agg ((l.drop off).take n)) (hp h0 bs) :=
  o_loadN ((hp_cells ..).trans e) (by rw [lenL_eq] at hn; exact Nat.le_of_ble_eq_true hn)
theorem o_storeH {k : Nat} {x : V} (hf : h0.Fine) (e : bget bs k = some l) (hx : (Nat.beq (lenL x.cells) n && Nat.ble (off + n) (lenL l)) = true) :
    Does (.store n (.v (.mptr (h0.next + k) off)) (.v x)) (hp h0 bs) .undef (hp h0 (bput bs k off n x.cells)) := by
  simp only [lenL_eq, Bool.and_eq_true] at hx
  rw [← hp_put e]
  exact o_store ((hp_cells ..).trans e) (Nat.eq_of_beq_eq_true hx.1) (Nat.le_of_ble_eq_true hx.2) (hp_may hf k _)
end

/-- a call with a plain answer: memory is as before -/
def PuF (D : OCtx) (f : Nat) (args : List V) (u : V) : Prop := ∀ h : Heap, h.Fine → CallW D f args h fun v h' => v = u ∧ h' = h

section
variable {D : OCtx} {cap : Nat} {m : Kn} {K : Kn → Heap → Prop} {h0 : Heap} {bs : List (Option (List V))}
theorem WS.puF (hf : h0.Fine) {f : Nat} {xs xs' : List Opd} {d : Option Nat} {l : List Step} {u : V} (e : gL (kop m) xs = some xs') (hx : dOk cap d = true) (he : PuF D f (xs'.map vev) u) (w : WS D cap l (kput m d u) (hp h0 bs) K) : WS D cap (⟨d, .call f xs, none, []⟩ :: l) m (hp h0 bs) K :=
  WS.call e hx (he _ (hp_fine hf)) fun v h' hc => by obtain ⟨rfl, rfl⟩ := hc; exact w

/-- ways that meet again -/
theorem W.meet {α : Type} (E : α → Kn) (H : α → Heap) (P : α → Prop) {a b : ACode} {h : Heap} {Q : Ex → Kn → Heap → Prop} (w1 : W D cap a m h fun ex m' h' => ex = .nrm ∧ ∃ x, P x ∧ Sup m' (E x) ∧ h' = H x) (w2 : ∀ x, P x → W D cap b (E x) (H x) Q) : W D cap (.seq a b) m h Q :=
  W.seq (w1.mono fun ex m' h' ⟨e, x, hp, hs, e2⟩ => by
    subst e; subst e2
    exact (w2 x hp).sup hs)
/-- the end of a call whose blocks end with it -/
def fin (h1 : Heap) (u : V) (v : V) (h' : Heap) : Prop := ∃ bs, h' = hp h1 bs ∧ freeze h' h1.next fuelF v = some u
theorem PuF.tidy {f : Nat} {o : OFunc} {args : List V} {u : V} (ho : D.orc f = none) (hc : D.code f = some o) (ht : D.tidy f = true) (hn : Nat.beq (lenL args) o.np = true) (hl : Nat.ble (lenL args) 8 = true)
    (w : ∀ h1 : Heap, h1.Fine → W D (capOfD o.dep) o.body (argsK 0 args) (hp h1 []) (doneW o.results (fin h1 u))) : PuF D f args u := fun h hF => by
  refine CallW.shut ho hc ht hn hl ?_
  have w1 := w _ hF.shut
  rw [hp_nil] at w1
  refine w1.mono fun ex m' h' q => ?_
  cases ex with
  | nrm => obtain ⟨vs, h4, bs, rfl, h5⟩ := q; exact ⟨vs, h4, u, h5, rfl, hp_tidied ..⟩
  | ret => obtain ⟨vs, h4, bs, rfl, h5⟩ := q; exact ⟨vs, h4, u, h5, rfl, hp_tidied ..⟩
  | _ => exact q
theorem PuF.orc {f : Nat} {g : List V → Heap → Option (Out × Heap)} {args : List V} {u : V} (ho : D.orc f = some g) (e : ∀ h, g args h = some (.ret u, h)) : PuF D f args u := fun h _ => CallW.orc ho (e h) ⟨rfl, rfl⟩
/-- a plain answer -/
theorem fin_bool {h1 : Heap} {bs : List (Option (List V))} {b c : Bool} (e : b = c) : fin h1 (.bool c) (.bool b) (hp h1 bs) := ⟨bs, rfl, by rw [e]; rfl⟩
theorem fin_int {h1 : Heap} {bs : List (Option (List V))} {k : IntKind} {a b : Int} (e : a = b) : fin h1 (.int k b) (.int k a) (hp h1 bs) := ⟨bs, rfl, by rw [e]; rfl⟩
theorem fin_str {h1 : Heap} {bs : List (Option (List V))} {a b : List Nat} (e : a = b) : fin h1 (.str b) (.str a) (hp h1 bs) := ⟨bs, rfl, by rw [e]; rfl⟩
end
end Go.Ab

namespace Go.Ab

/-- the functions in dom answer as the table says -/
def factsOrc (dom : Nat → Bool) (tbl : Nat → List V → Option V) (f : Nat) : Option (List V → Heap → Option (Out × Heap)) :=
  match dom f with
  | true => some fun a h => match tbl f a with
    | some u => some (.ret u, h)
    | none => none
  | false => none

/-- what the table says is so -/
def FactsOk (C : Ctx) (tbl : Nat → List V → Option V) : Prop := ∀ f a u, tbl f a = some u → V.lows 0 a = true ∧ V.low 0 u = true ∧ ∃ n h1, call C n f a Heap.empty = some (.ret u, h1)

theorem facts_ok {P : Program} {G : Nat → Option V} {C : Ctx} (hK : CodeOk P G C) (hG0 : ∀ g v, G g = some v → V.low 0 v = true) {dom : Nat → Bool} {tbl : Nat → List V → Option V} (ht : FactsOk C tbl) :
    ∀ f g, factsOrc dom tbl f = some g → CallsOk P G (fun f' args h => if f' = f then g args h else none) := by
  intro f g hg f' args h out h' e
  unfold factsOrc at hg
  split at hg
  · cases hg
    simp only at e
    by_cases hff : f' = f
    · rw [if_pos hff] at e
      subst hff
      split at e
      · rename_i u hu
        cases e
        obtain ⟨hla, hlu, n, h1, e0⟩ := ht f' args u hu
        obtain ⟨hfn, hc⟩ := call_calls hK draws_ok n f' args Heap.empty _ _ e0
        refine ⟨hfn, fun w R ι xs hr hG hx => ?_⟩
        have hι0 : ∀ id, id < 0 → (fun _ : Nat => (none : Option Loc)) id = ι id := fun id hid => absurd hid (Nat.not_lt_zero _)
        refine Calls.mono (hc w R (fun _ => none) xs (start_rel' hr.lt) (fun g v hv => (hG g v hv).forget (n := 0) hι0 (hG0 g v hv))
          ⟨hx.1, fun i v x ev ex => (hx.2 i v x ev ex).forget (n := 0) hι0 (low_at hla ev)⟩) fun en w' hen => ?_
        obtain ⟨R', ι', hp, ho⟩ := hen
        have hnone : ∀ id, (Heap.empty).get id = none := fun id => by simp [Heap.get, Heap.empty]
        have hkeep : ∀ b, b < w.heap.size → w'.heap[b]? = w.heap[b]? := fun b hb => hp.keep b hb fun id blk loc e' e2 => by cases e2
        have hnew : ∀ b, R' b → R b ∨ w.heap.size ≤ b := fun b hb => by
          rcases hp.news b hb with h | h | ⟨id, blk, loc, e1, e2, _⟩
          · exact .inl h
          · exact .inr h
          · cases e2
        have hmono : ∀ {v x}, Rep w R ι v x → Rep w' R' ι v x := fun hv => hv.mono hp.sub (fun b hb => hkeep b (hr.lt b hb)) (fun _ _ h => h)
        refine ⟨R', ι, ⟨⟨hr.len, hr.none, hp.rel.lt, fun id l loc e e' => ?_, fun id es loc e e' => (hr.maps id es loc e e').move (hkeep _ (hr.blk_lt e e')) hmono, hr.inj, fun id blk loc e e' hR => ?_, hr.low, hr.floor, hr.lowM⟩, hp.sub, fun _ _ => rfl, hp.size, hp.os, hp.tape, hp.output, fun b hb _ => hkeep b hb,
          fun id blk loc e e' => .inr ⟨id, blk, loc, e, e', rfl⟩, fun _ _ _ => rfl, Nat.le_refl _, rfl, fun b hb => (hnew b hb).elim .inl fun h => .inr (.inl h)⟩, ?_⟩
        · obtain ⟨cur, t, g1, g2, g3, g4, g5⟩ := hr.cells id l loc e e'
          refine ⟨cur, t, ?_, g2, g3, g4, fun i v ev => ?_⟩
          · rw [hkeep _ (Array.getElem?_eq_some_iff.1 g1).1]; exact g1
          · obtain ⟨x, h1, h2⟩ := g5 i v ev
            exact ⟨x, h1, hmono h2⟩
        · rcases hnew _ hR with h | h
          · exact hr.apart id blk loc e e' h
          · have := hr.blk_lt e e'
            omega
        · cases en with
          | returned v => exact (show Rep w' R' ι' u v from ho).forget (n := 0) (fun id hid => absurd hid (Nat.not_lt_zero _)) hlu
          | panicked ch => exact ho.elim
          | outgrown => exact ho.elim
      · cases e
    · rw [if_neg hff] at e; cases e
  · cases hg
end Go.Ab

namespace Go.Ab

/-! ### calls that look at memory -/

/-- a call with a plain answer, where memory is as wanted -/
def PuC (D : OCtx) (f : Nat) (args : List V) (u : V) (Pre : Heap → Prop) : Prop := ∀ h : Heap, h.Fine → Pre h → CallW D f args h fun v h' => v = u ∧ h' = h

section
variable {D : OCtx} {cap : Nat} {m : Kn} {K : Kn → Heap → Prop} {h0 : Heap} {bs : List (Option (List V))} {a b c : ACode} {Q : Ex → Kn → Heap → Prop}
theorem WS.puC (hf : h0.Fine) {Pre : Heap → Prop} (hp' : Pre (hp h0 bs)) {f : Nat} {xs xs' : List Opd} {d : Option Nat} {l : List Step} {u : V} (e : gL (kop m) xs = some xs') (hx : dOk cap d = true) (he : PuC D f (xs'.map vev) u Pre) (w : WS D cap l (kput m d u) (hp h0 bs) K) :
    WS D cap (⟨d, .call f xs, none, []⟩ :: l) m (hp h0 bs) K :=
  WS.call e hx (he _ (hp_fine hf) hp') fun v h' hc => by obtain ⟨rfl, rfl⟩ := hc; exact w
theorem PuC.tidy {f : Nat} {o : OFunc} {args : List V} {u : V} {Pre : Heap → Prop} (hpre : ∀ h : Heap, Pre h → Pre { h with floors := h.next :: h.floors }) (ho : D.orc f = none) (hc : D.code f = some o) (ht : D.tidy f = true) (hn : Nat.beq (lenL args) o.np = true) (hl : Nat.ble (lenL args) 8 = true)
    (w : ∀ h1 : Heap, h1.Fine → Pre h1 → W D (capOfD o.dep) o.body (argsK 0 args) (hp h1 []) (doneW o.results (fin h1 u))) : PuC D f args u Pre := fun h hF hP => by
  refine CallW.shut ho hc ht hn hl ?_
  have w1 := w _ hF.shut (hpre h hP)
  rw [hp_nil] at w1
  refine w1.mono fun ex m' h' q => ?_
  cases ex with
  | nrm => obtain ⟨vs, h4, bs, rfl, h5⟩ := q; exact ⟨vs, h4, u, h5, rfl, hp_tidied ..⟩
  | ret => obtain ⟨vs, h4, bs, rfl, h5⟩ := q; exact ⟨vs, h4, u, h5, rfl, hp_tidied ..⟩
  | _ => exact q
theorem PuF.puC {f : Nat} {args : List V} {u : V} {Pre : Heap → Prop} (h : PuF D f args u) : PuC D f args u Pre := fun g hg _ => h g hg

theorem resK_cell {a n k off : Nat} {isAgg : Bool} {l vs : List V} {v : V} {r : List RVar} (e1 : m.get a = some (.mptr (h0.next + k) off)) (e2 : bget bs k = some l) (e3 : part isAgg n (l.drop off) = some v) (e4 : resK m (hp h0 bs) r = some vs) :
    resK m (hp h0 bs) (.cell a n isAgg :: r) = some (v :: vs) := by
  simp only [resK, e1, Option.bind_some, Heap.at, hp_cells, e2, Option.map_some, e3, e4]

/-! ### steps that look again -/

mutual
theorem beq_refl : ∀ v : V, V.beq v v = true
  | .undef | .nilsl | .esl | .nilptr | .nilfn | .nilifc | .nilmp => rfl
  | .bool b => by simp [V.beq]
  | .int _ _ | .str _ | .flt _ _ | .cpx _ _ _ | .msl _ _ _ _ _ | .mptr _ _ | .mp _ => by simp [V.beq]
  | .fsl l _ => by simp [V.beq, beqs_refl l]
  | .fptr l | .agg l | .tup l => by simp [V.beq, beqs_refl l]
  | .fn _ l r => by simp [V.beq, beqs_refl l, beqs_refl r]
  | .ifc _ v => by simp [V.beq, beq_refl v]
theorem beqs_refl : ∀ l : List V, V.beqs l l = true
  | [] => rfl
  | v :: r => by simp [V.beqs, beq_refl v, beqs_refl r]
end

/-- what was looked at is still so -/
def CkOk (m : Kn) (h : Heap) : List (Nat × Option (Nat × Bool) × AOp) → Prop
  | [] => True
  | (t, none, o) :: r => (∃ o' v h2, mapO (kop m) o = some o' ∧ Does o' h v h2 ∧ m.get t = some v) ∧ CkOk m h r
  | _ => False
theorem CkOk.checks {fr : Fr} (hf : Has fr cap m) {h : Heap} : ∀ {l : List (Nat × Option (Nat × Bool) × AOp)}, CkOk m h l → checksT (getT fr) (evT fr) h l = true
  | [], _ => rfl
  | (t, none, o) :: r, ⟨⟨o', v, h2, e1, e2, e3⟩, hr⟩ => by
    have h3 : opF o (evT fr) h = some (v, h2) := by rw [← hf.op h e1, e2.eq]
    simp only [checksT, wantedE, h3, (hf.kn t v e3).2, beq_refl, Bool.true_and]
    exact CkOk.checks hf hr
  | (_, some _, _) :: _, hr => hr.elim
theorem WS.nearC {op op' : AOp} {d : Option Nat} {l : List Step} {h h' : Heap} {v : V} {ck : Nat × Option (Nat × Bool) × AOp} {chk : List (Nat × Option (Nat × Bool) × AOp)} (e : mapO (kop m) op = some op') (he : Does op' h v h') (hx : (op.far || op.isRecover || !dOk cap d) = false)
    (hc : CkOk (kput m d v) h' (ck :: chk)) (w : WS D cap l (kput m d v) h' K) : WS D cap (⟨d, op, none, ck :: chk⟩ :: l) m h K := fun fr hf => by
  simp only [Bool.or_eq_false_iff, Bool.not_eq_false'] at hx
  have hput := hf.put hx.2 v
  obtain ⟨st', ⟨n, hn⟩, hk⟩ := w _ hput
  refine ⟨st', ⟨n, ?_⟩, hk⟩
  show doT D (execT D n) op d ⟨fr, [], h⟩ (chkT (ck :: chk) (stepsT D (execT D n) l)) = _
  rw [doT_near _ _ hx.1.1 hx.1.2]
  have h3 : opF op (evT fr) h = some (v, h') := by rw [← hf.op h e, he.eq]
  simp only [nearT, h3, force_eq]
  show Bool.rec (motive := fun _ => Option (Ex × StT)) none (stepsT D (execT D n) l ⟨putT fr d v, [], h'⟩) (checksT (getT (putT fr d v)) (evT (putT fr d v)) h' (ck :: chk)) = _
  rw [hc.checks hput]
  exact hn

/-- a loop that lets memory be -/
theorem W.loopC {α : Type} (E : α → Kn) (P : α → Prop) (μ : α → Nat) (a0 : α) {h : Heap} (hp' : P a0) (hs : Sup m (E a0)) (w : ∀ a, P a → W D cap c (E a) h (again E (fun _ => h) P μ a Q)) : W D cap (.loop c) m h Q :=
  W.loop E (fun _ => h) P μ a0 hp' hs rfl w

/-! ### jumps back -/

theorem inscope_swap {st st1 st' : StT} {ex : Ex} (hab : ∀ n r, execT D n a st1 = some r → ∃ k, execT D k b st = some r) (h : Runs D (.inscope a c) st1 ex st') : Runs D (.inscope b c) st ex st' := by
  obtain ⟨n, h⟩ := h
  cases n with
  | zero => cases h
  | succ n =>
    have h' : (match execT D n a st1 with
      | some (.goto l, st') => match findLabel c l with
        | some rest => execT D n (.inscope rest c) st'
        | none => some (.goto l, st')
      | e => e) = some (ex, st') := h
    cases hr : execT D n a st1 with
    | none => rw [hr] at h'; cases h'
    | some r =>
      rw [hr] at h'
      obtain ⟨k, hk⟩ := hab n r hr
      refine ⟨max n k + 1, ?_⟩
      show (match execT D (max n k) b st with
        | some (.goto l, st') => match findLabel c l with
          | some rest => execT D (max n k) (.inscope rest c) st'
          | none => some (.goto l, st')
        | e => e) = some (ex, st')
      rw [execT_le D (Nat.le_max_right n k) _ _ _ hk]
      obtain ⟨ex1, st1'⟩ := r
      cases ex1 with
      | goto l =>
        simp only at h' ⊢
        cases hf : findLabel c l with
        | none => rw [hf] at h'; exact h'
        | some rest => rw [hf] at h'; exact execT_le D (Nat.le_max_left n k) _ _ _ h'
      | _ => exact h'
/-- to the label for the first time -/
theorem W.first {r : List Step} {l : Nat} {h : Heap} (w : WS D cap r m h fun m' h' => W D cap (.inscope (.seq .skip b) c) m' h' Q) : W D cap (.inscope (.seq (.region r) (.seq (.label l) b)) c) m h Q := fun fr hf => by
  obtain ⟨st1, hr, hd, m', hm, hw⟩ := w fr hf
  obtain ⟨fr1, ds1, h1⟩ := st1
  simp only at hd hm hw
  subst hd
  obtain ⟨ex, st2, hrun, hq⟩ := hw fr1 hm
  refine ⟨ex, st2, inscope_swap (a := .seq .skip b) (st1 := ⟨fr1, [], h1⟩) (fun n q hq => ?_) hrun, hq⟩
  cases n with
  | zero => cases hq
  | succ n =>
    have hq' : (match execT D n .skip ⟨fr1, [], h1⟩ with
      | some (.nrm, st') => execT D n b st'
      | e => e) = some q := hq
    cases n with
    | zero => cases hq'
    | succ n =>
      have hb : execT D (n + 1) b ⟨fr1, [], h1⟩ = some q := hq'
      obtain ⟨e1, s1⟩ := q
      have hR : Runs D (.region r) ⟨fr, [], h⟩ .nrm ⟨fr1, [], h1⟩ := Runs.region hr (by simp)
      obtain ⟨k, hk⟩ := hR.seq (Runs.seq (Runs.label (l := l)) ⟨n + 1, hb⟩)
      exact ⟨k, hk⟩
/-- at a label that is come back to -/
theorem W.marked {α : Type} (E : α → Kn) (H : α → Heap) (P : α → Prop) (μ : α → Nat) (a0 : α) {l : Nat} {rest : ACode} {h : Heap} (hl : findLabel c l = some (.seq .skip rest)) (hp' : P a0) (hs : Sup m (E a0)) (hh : h = H a0)
    (w : ∀ a, P a → (∀ b m' h', P b → μ b < μ a → Sup m' (E b) → h' = H b → insideW D cap c Q (.goto l) m' h') → W D cap rest (E a) (H a) (insideW D cap c Q)) : W D cap (.label l) m h (thenW D cap rest (insideW D cap c Q)) := by
  subst hh
  have key : ∀ n a, μ a = n → P a → W D cap rest (E a) (H a) (insideW D cap c Q) := by
    intro n
    induction n using Nat.strongRecOn with
    | _ n ih =>
      intro a ha hpa
      refine w a hpa fun b m' h' hb hlt hsup hh' => ?_
      subst hh'
      simp only [insideW, hl]
      exact W.inscope (W.seq (W.skip ((ih (μ b) (ha ▸ hlt) b rfl hb).sup hsup)))
  exact W.label ((key _ a0 rfl hp').sup hs)
end

/-! ### more operations -/

section
variable {h0 h : Heap} {bs : List (Option (List V))} {s : List Nat}
theorem hp_old (bs : List (Option (List V))) {id : Nat} (hi : id < h0.next) (_ : h0.Fine) : (hp h0 bs).cellsOf id = h0.cellsOf id := by
  have h1 : id < h0.next + bs.length := by omega
  have h2 : h0.next + bs.length - 1 - id = (bs.map fun c => c.map Blk.cells).reverse.length + (h0.next - 1 - id) := by simp; omega
  simp only [Heap.cellsOf, Heap.get, hp, h1, hi, if_true]
  rw [h2, List.getElem?_append_right (by omega)]
  simp
theorem o_loadOld (hf : h0.Fine) {id off : Nat} {l r : List V} {v : V} (e : h0.cellsOf id = some l) (hd : l.drop off = v :: r) : Does (.load 1 false (.v (.mptr id off))) (hp h0 bs) v (hp h0 bs) :=
  o_load1 ((hp_old bs (cells_lt e) hf).trans e) hd
theorem o_nilchk {id off : Nat} : Does (.nilchk (.v (.mptr id off))) h (.mptr id off) h := ⟨rfl⟩
theorem o_iaddrA {id o sz len n : Nat} {k : IntKind} {a : Int} (ha : a = n) (hn : n < len) : Does (.iaddrA sz len (.v (.mptr id o)) (.v (.int k a))) h (.mptr id (o + n * sz)) h := by
  subst ha; refine ⟨?_⟩; rw [op1v]; simp [op1, ev, idx_nat, hn]
theorem o_quo {a b : Int} (h0 : 0 ≤ a) (h1 : 0 < b) (h2 : a < 9223372036854775808) : Does (.bin .quo (.v (.int .i64 a)) (.v (.int .i64 b))) h (.int .i64 (a / b)) h := by
  refine ⟨?_⟩; rw [op1v]
  have hb : ¬ b = 0 := by omega
  have hq : a.tdiv b = a / b := Int.tdiv_eq_ediv_of_nonneg h0
  have q1 : 0 ≤ a / b := Int.ediv_nonneg h0 (by omega)
  have q2 : a / b ≤ a := Int.ediv_le_self b h0
  simp only [op1, ev, bin, intBin, hb, if_false, if_true, hq, Option.map_some]
  rw [wrap_i64 (by omega) (by omega)]
theorem o_rem {a b : Int} (h0 : 0 ≤ a) (h1 : 0 < b) : Does (.bin .rem (.v (.int .i64 a)) (.v (.int .i64 b))) h (.int .i64 (a % b)) h := by
  refine ⟨?_⟩; rw [op1v]
  have hb : ¬ b = 0 := by omega
  have hq : a.tmod b = a % b := Int.tmod_eq_emod_of_nonneg h0
  simp only [op1, ev, bin, intBin, hb, if_false, if_true, hq, Option.map_some]
theorem o_extract {vs : List V} {v : V} {i : Nat} (e : vs[i]? = some v) : Does (.extract (.v (.tup vs)) i) h v h := ⟨by rw [op1v]; simp [op1, ev, e]⟩
theorem o_ixb {c : Nat} {a : Int} (ha : a = c) (hc : c < 256) : Does (.ixb (.v (.str s)) (.v (.int .u8 a))) h (.int .i64 (ixFrom c 0 s)) h := by
  subst ha
  refine ⟨?_⟩; rw [op1v]
  have h1 : (0 : Int) ≤ c ∧ (c : Int) < 256 := by omega
  simp only [op1, ev, h1, and_self, if_true, Int.toNat_natCast]

def strAt (l : List (List Nat)) (n : Nat) : List Nat := l.getD n []
theorem strAt_get {l : List (List Nat)} {n : Nat} (hn : n < l.length) : l[n]? = some (strAt l n) := by simp [strAt, List.getD, hn]
theorem o_lenL {l : List (List Nat)} {cap : Option Nat} : Does (.len 1 (.v (.fsl (l.map V.str) cap))) h (.int .i64 (l.length : Nat)) h := by refine ⟨?_⟩; rw [op1v]; simp [op1, ev, lenOf]
theorem o_iaddrL {l : List (List Nat)} {cap : Option Nat} {k : IntKind} {a : Int} (n : Nat) (ha : a = n) (hn : n < l.length) : Does (.iaddr 1 (.v (.fsl (l.map V.str) cap)) (.v (.int k a))) h (.fptr [.str (strAt l n)]) h :=
  o_iaddrF (v := .str (strAt l n)) ha (by rw [List.getElem?_map, strAt_get hn]; rfl) rfl

/-- a value whose bytes are these -/
structure Bytes (h : Heap) (v : V) (s : List Nat) : Prop where
  row : h.row 1 v = some (s.map fun (b : Nat) => V.int .u8 (b : Int))
  len : lenOf v = some s.length
  byte : ∀ b ∈ s, b < 256
  sl : v = .nilsl ∨ v = .esl ∨ (∃ es c, v = .fsl es c) ∨ ∃ id sz off len c, v = .msl id sz off len c
theorem bytesOf_map : ∀ {s : List Nat}, (∀ b ∈ s, b < 256) → bytesOf (s.map fun (b : Nat) => V.int .u8 (b : Int)) = some s
  | [], _ => rfl
  | b :: r, hb => by
    have h1 : (0 : Int) ≤ b ∧ (b : Int) < 256 := by have := hb b List.mem_cons_self; omega
    simp only [List.map_cons, bytesOf, byteOf, h1, and_self, if_true, bytesOf_map fun c hc => hb c (List.mem_cons_of_mem _ hc), Int.toNat_natCast]
theorem o_b2s {v : V} (hb : Bytes h v s) : Does (.b2s (.v v)) h (.str s) h := by
  refine ⟨?_⟩; rw [op1v]
  have hr := hb.row
  rcases hb.sl with rfl | rfl | ⟨es, c, rfl⟩ | ⟨id, sz, off, len, c, rfl⟩ <;> simp only [op1, ev, hr, bytesOf_map hb.byte, Option.map_some]
theorem o_lenY {v : V} (hb : Bytes h v s) : Does (.len 1 (.v v)) h (.int .i64 (s.length : Nat)) h := by
  refine ⟨?_⟩; rw [op1v]
  have hr := hb.len
  rcases hb.sl with rfl | rfl | ⟨es, c, rfl⟩ | ⟨id, sz, off, len, c, rfl⟩ <;> (simp only [op1, ev, hr, if_true]; rfl)
theorem Bytes.shut {v : V} (hb : Bytes h v s) : Bytes { h with floors := h.next :: h.floors } v s := ⟨hb.row, hb.len, hb.byte, hb.sl⟩
theorem cells_map : ∀ (s : List Nat), (s.map fun (b : Nat) => V.int .u8 (b : Int)).flatMap V.cells = s.map fun (b : Nat) => V.int .u8 (b : Int)
  | [] => rfl
  | b :: r => by simp only [List.map_cons, List.flatMap_cons, cells_map r]; rfl
theorem bytes_str (hs : ∀ b ∈ s, b < 256) {c : Option Nat} : Bytes h (.fsl (s.map fun (b : Nat) => V.int .u8 (b : Int)) c) s := by
  refine ⟨?_, by simp [lenOf], hs, .inr (.inr (.inl ⟨_, _, rfl⟩))⟩
  have h1 : (s.map fun (b : Nat) => V.int .u8 (b : Int)).all (fun e => decide (e.cells.length = 1)) = true := by simp [List.all_map, Function.comp_def, V.cells]
  simp only [Heap.row, h1, if_true, cells_map]
theorem bytes_nil : Bytes h .nilsl [] := ⟨rfl, rfl, (fun _ h => by cases h), .inl rfl⟩
end

section
variable {h : Heap} {s : List Nat} {k : IntKind} {a b : Int}
theorem o_sliceB (n m : Nat) {k' : IntKind} (ha : a = n) (hb : b = m) (hn : n ≤ m) (hm : m ≤ s.length) :
    Does (.slice 1 (.v (.fsl (s.map fun (b : Nat) => V.int .u8 (b : Int)) none)) (some (.v (.int k a))) (some (.v (.int k' b))) none) h (.fsl (((s.take m).drop n).map fun (b : Nat) => V.int .u8 (b : Int)) none) h := by
  subst ha hb
  refine ⟨?_⟩; rw [op1v]
  have hz : headSz 1 (s.map fun (b : Nat) => V.int .u8 (b : Int)) = true := by cases s <;> rfl
  simp [op1, ev, optIdx, idx_nat, hn, hm, hz]
theorem o_b2sB (hs : ∀ b ∈ s, b < 256) : Does (.b2s (.v (.fsl (s.map fun (b : Nat) => V.int .u8 (b : Int)) none))) h (.str s) h := o_b2s (bytes_str hs)
end

/-! ### slices that are being made -/

/-- a slice of n elements of sz cells, whose cells are row -/
def IsSl (h0 : Heap) (bs : List (Option (List V))) (sz : Nat) (v : V) (n : Nat) (row : List V) : Prop :=
  row.length = n * sz ∧ ((v = .nilsl ∧ n = 0) ∨ ∃ k l, v = .msl (h0.next + k) sz 0 n none ∧ bget bs k = some l ∧ n * sz ≤ l.length ∧ l.take (n * sz) = row)

theorem bget_badd {bs : List (Option (List V))} {c : List V} : bget (badd bs c) bs.length = some c := by rw [bget_eq, badd_eq]; simp
theorem bget_badd_lt {bs : List (Option (List V))} {c l : List V} {k : Nat} (e : bget bs k = some l) : bget (badd bs c) k = some l := by
  have hk := bget_lt e
  rw [bget_eq] at e ⊢
  rw [badd_eq, List.getElem?_append_left hk]; exact e
theorem badd_len {bs : List (Option (List V))} {c : List V} : (badd bs c).length = bs.length + 1 := by rw [badd_eq]; simp
theorem bset_len {bs : List (Option (List V))} {c : Option (List V)} {k : Nat} : (bset bs k c).length = bs.length := by rw [bset_eq]; simp
theorem bget_bset {bs : List (Option (List V))} {c : Option (List V)} {k : Nat} (hk : k < bs.length) : bget (bset bs k c) k = c := by rw [bget_eq, bset_eq]; simp [hk]
theorem bget_bset_ne {bs : List (Option (List V))} {c : Option (List V)} {k j : Nat} (hj : j ≠ k) : bget (bset bs k c) j = bget bs j := by
  rw [bget_eq, bget_eq, bset_eq, List.getElem?_set_ne (Ne.symm hj)]

theorem IsSl.nil {h0 : Heap} {bs : List (Option (List V))} {sz : Nat} : IsSl h0 bs sz .nilsl 0 [] := ⟨by simp, .inl ⟨rfl, rfl⟩⟩
theorem IsSl.badd {h0 : Heap} {bs : List (Option (List V))} {sz n : Nat} {v : V} {row c : List V} (hs : IsSl h0 bs sz v n row) : IsSl h0 (badd bs c) sz v n row := by
  obtain ⟨h1, h2 | ⟨k, l, e1, e2, e3, e4⟩⟩ := hs
  · exact ⟨h1, .inl h2⟩
  · exact ⟨h1, .inr ⟨k, l, e1, bget_badd_lt e2, e3, e4⟩⟩
theorem IsSl.len {h0 : Heap} {bs : List (Option (List V))} {sz n : Nat} {v : V} {row : List V} (hs : IsSl h0 bs sz v n row) : lenOf v = some n := by
  obtain ⟨h1, ⟨rfl, rfl⟩ | ⟨k, l, rfl, e2, e3, e4⟩⟩ := hs <;> rfl

theorem IsSl.keep {h0 : Heap} {bs bs' : List (Option (List V))} {sz n : Nat} {v : V} {row : List V} (hs : IsSl h0 bs sz v n row) (hk : ∀ k l, bget bs k = some l → bget bs' k = some l) : IsSl h0 bs' sz v n row := by
  obtain ⟨h1, h2 | ⟨k, l, e1, e2, e3, e4⟩⟩ := hs
  · exact ⟨h1, .inl h2⟩
  · exact ⟨h1, .inr ⟨k, l, e1, hk k l e2, e3, e4⟩⟩
theorem bget_bput {bs : List (Option (List V))} {k off n : Nat} {cs l : List V} (e : bget bs k = some l) : bget (bput bs k off n cs) k = some (splice l off n cs) := by
  rw [bput_eq e, ← bset_eq, bget_bset (bget_lt e)]
theorem bget_bput_ne {bs : List (Option (List V))} {k j off n : Nat} {cs : List V} (hj : j ≠ k) : bget (bput bs k off n cs) j = bget bs j := by
  unfold bput; rw [bget_bset_ne hj]
theorem bput_len {bs : List (Option (List V))} {k off n : Nat} {cs : List V} : (bput bs k off n cs).length = bs.length := by unfold bput; rw [bset_len]
theorem o_allocS {h0 : Heap} {bs : List (Option (List V))} {z : List V} : Does (.alloc z) (hp h0 bs) (.mptr (h0.next + bs.length) 0) (hp h0 (badd bs z)) := ⟨by rw [← hp_new]; rfl⟩
theorem o_litS {h0 : Heap} {bs : List (Option (List V))} {sz n : Nat} {z cs : List V} {ps : List (Nat × Nat × Opd)} (e : fill z (ps.map fun p => (p.1, p.2.1, vev p.2.2)) = some cs) : Does (.lit sz z n ps) (hp h0 bs) (.msl (h0.next + bs.length) sz 0 n none) (hp h0 (badd bs cs)) :=
  ⟨by
    show (fill z (ps.map fun p => (p.1, p.2.1, vev p.2.2))).map (fun cs => (V.msl (hp h0 bs).next sz 0 n none, (hp h0 bs).new (.cells cs))) = _
    rw [e, ← hp_new]; rfl⟩
theorem o_litH {h0 : Heap} {bs : List (Option (List V))} (k : Nat) (hk : Nat.beq (lenL bs) k = true) {sz n : Nat} {z cs : List V} {ps : List (Nat × Nat × Opd)} (e : fill z (ps.map fun p => (p.1, p.2.1, vev p.2.2)) = some cs) :
    Does (.lit sz z n ps) (hp h0 bs) (.msl (h0.next + k) sz 0 n none) (hp h0 (badd bs cs)) := by
  have := Nat.eq_of_beq_eq_true hk
  rw [lenL_eq] at this
  subst this
  exact o_litS e
theorem o_lenM {h : Heap} {id sz off len : Nat} {c : Option Nat} : Does (.len 1 (.v (.msl id sz off len c))) h (.int .i64 (len : Nat)) h := by refine ⟨?_⟩; rw [op1v]; rfl
theorem o_lenN {h : Heap} : Does (.len 1 (.v .nilsl)) h (.int .i64 (0 : Nat)) h := ⟨rfl⟩
theorem o_lenE {h : Heap} : Does (.len 1 (.v .esl)) h (.int .i64 (0 : Nat)) h := ⟨rfl⟩
theorem o_load4 {h : Heap} {a b c d : V} : Does (.load 4 true (.v (.fptr [a, b, c, d]))) h (.agg [a, b, c, d]) h := ⟨rfl⟩
theorem freeze_tup3 {h : Heap} {n : Nat} {v u : V} {ka kb : IntKind} {a b : Int} (hv : ∀ k, 70000 < k → freeze h n k v = some u) : freeze h n fuelF (.tup [v, .int ka a, .int kb b]) = some (.tup [u, .int ka a, .int kb b]) := by
  show (((freeze h n 999999999999998 v).bind fun v' => (freezes h n 999999999999998 [.int ka a, .int kb b]).map (v' :: ·)).map V.tup) = _
  rw [hv _ (by omega)]
  rfl

theorem row_msl {h0 : Heap} {bs : List (Option (List V))} {sz n k : Nat} {l : List V} (e2 : bget bs k = some l) (e3 : n * sz ≤ l.length) : (hp h0 bs).row sz (.msl (h0.next + k) sz 0 n none) = some (l.take (n * sz)) := by
  simp only [Heap.row, if_true, hp_cells, e2]
  simp [e3]

/-- a cell that holds no slice -/
def V.scal : V → Bool
  | .int _ _ | .str _ | .bool _ => true
  | _ => false
theorem freeze_scal {h : Heap} {n k : Nat} {v : V} (hv : v.scal = true) : freeze h n (k + 1) v = some v := by
  cases v <;> first | rfl | cases hv
theorem freezes_scal {h : Heap} {n : Nat} : ∀ (l : List V) (k : Nat), l.length < k → (∀ v ∈ l, v.scal = true) → freezes h n k l = some l
  | [], k, _, _ => by cases k <;> rfl
  | v :: r, k + 1, hk, hv => by
    simp only [List.length_cons] at hk
    obtain ⟨j, rfl⟩ : ∃ j, k = j + 1 := ⟨k - 1, by omega⟩
    simp only [freezes, freeze_scal (hv v List.mem_cons_self), Option.bind_some, freezes_scal r (j + 1) (by omega) fun u hu => hv u (List.mem_cons_of_mem _ hu), Option.map_some]
theorem elems_take (sz : Nat) : ∀ (n : Nat) (l : List V), n * sz ≤ l.length → elems sz n (l.take (n * sz)) = elems sz n l
  | 0, _, _ => rfl
  | n + 1, l, h => by
    have h1 : (n + 1) * sz = n * sz + sz := by rw [Nat.add_mul, Nat.one_mul]
    have h2 : (l.take ((n + 1) * sz)).take sz = l.take sz := by rw [List.take_take]; congr 1; omega
    have h3 : (l.take ((n + 1) * sz)).drop sz = (l.drop sz).take (n * sz) := by rw [List.drop_take]; congr 1; omega
    simp only [elems, h2, h3]
    rw [elems_take sz n (l.drop sz) (by rw [List.length_drop]; omega)]
    by_cases hz : sz = 1
    · subst hz
      simp only [if_true]
      congr 1
      cases l with
      | nil => simp at h
      | cons a r => simp
    · simp only [hz, if_false]
theorem freezes_elems {h : Heap} {n : Nat} (sz : Nat) (hz : 1 < sz) : ∀ (m : Nat) (l : List V) (k : Nat), m + sz + 2 < k → (∀ v ∈ l, v.scal = true) → freezes h n k (elems sz m l) = some (elems sz m l)
  | 0, l, k, _, _ => by cases k <;> rfl
  | m + 1, l, k + 1, hk, hv => by
    have h1 : ¬ sz = 1 := by omega
    obtain ⟨j, rfl⟩ : ∃ j, k = j + 1 := ⟨k - 1, by omega⟩
    have h2 : freezes h n j (l.take sz) = some (l.take sz) := freezes_scal _ _ (by have := List.length_take_le sz l; omega) fun v hm => hv v (List.mem_of_mem_take hm)
    simp only [elems, h1, if_false, freezes, freeze, h2, Option.map_some, Option.bind_some, freezes_elems sz hz m (l.drop sz) (j + 1) (by omega) fun v hm => hv v (List.mem_of_mem_drop hm)]
theorem lows_elems {sz : Nat} (hz : 1 < sz) : ∀ (m : Nat) (l : List V), (∀ v ∈ l, v.scal = true) → V.lows 0 (elems sz m l) = true
  | 0, _, _ => rfl
  | m + 1, l, hv => by
    have h1 : ¬ sz = 1 := by omega
    have h2 : ∀ (r : List V), (∀ v ∈ r, v.scal = true) → V.lows 0 r = true := fun r => by
      induction r with
      | nil => intro _; rfl
      | cons a r ih =>
        intro hr
        have ha := hr a List.mem_cons_self
        have : V.low 0 a = true := by cases a <;> first | rfl | cases ha
        simp only [V.lows, this, ih fun u hu => hr u (List.mem_cons_of_mem _ hu), Bool.and_self]
    simp only [elems, h1, if_false, V.lows, V.low, h2 _ fun v hm => hv v (List.mem_of_mem_take hm), lows_elems hz m (l.drop sz) fun v hm => hv v (List.mem_of_mem_drop hm), Bool.and_self]
/-- a slice that was made, let go -/
theorem freeze_sl {h0 : Heap} {bs : List (Option (List V))} {sz n k : Nat} {v : V} {row : List V} (hs : IsSl h0 bs sz v n row) (hn : 0 < n) (hz : 1 < sz) (hk : n + sz + 3 < k) (hv : ∀ u ∈ row, u.scal = true) : freeze (hp h0 bs) h0.next k v = some (.fsl (elems sz n row) none) := by
  obtain ⟨h1, ⟨rfl, rfl⟩ | ⟨j, l, rfl, e2, e3, e4⟩⟩ := hs
  · omega
  · obtain ⟨k, rfl⟩ : ∃ j, k = j + 1 := ⟨k - 1, by omega⟩
    have h2 : ¬ h0.next + j < h0.next := by omega
    have h3 : (0 + n) * sz ≤ l.length := by simpa using e3
    have h4 : 0 < sz := by omega
    have h5 : elems sz n l = elems sz n row := by rw [← e4, elems_take sz n l e3]
    have h6 : (l.drop (0 * sz)) = l := by simp
    simp only [freeze, h2, if_false, hp_cells, e2, h3, decide_true, h4, Bool.and_self, if_true, h6, h5]
    rw [freezes_elems sz hz n row k (by omega) hv]
    simp only [Option.bind_some, lows_elems hz n row hv, if_true]

/-- one element more -/
theorem app_one {h0 : Heap} (hf : h0.Fine) {bs : List (Option (List V))} {sz n bytes j : Nat} {v : V} {row c : List V} (hs : IsSl h0 bs sz v n row) (hj : bget bs j = some c) (hc : c.length = sz) (_ : 0 < sz) (hb : (n + 1) * bytes ≤ maxRow) :
    ∃ v' bs', Does (.app sz bytes (.v v) (.v (.msl (h0.next + j) sz 0 1 none))) (hp h0 bs) v' (hp h0 bs') ∧ IsSl h0 bs' sz v' (n + 1) (row ++ c) ∧ bs.length ≤ bs'.length := by
  have hrow : (hp h0 bs).row sz (.msl (h0.next + j) sz 0 1 none) = some c := by
    rw [row_msl (n := 1) hj (by omega)]
    simp [← hc]
  have hmay : ∀ k vs, (hp h0 bs).mayPut (h0.next + k) vs = true := fun k vs => hp_may hf k vs
  have hmine : ∀ k, (hp h0 bs).mine (h0.next + k) = true := fun k => by
    simp only [Heap.mine, List.all_eq_true, decide_eq_true_eq]
    exact fun f m => Nat.le_trans (hf.fl f m) (Nat.le_add_right _ _)
  obtain ⟨h1, ⟨rfl, rfl⟩ | ⟨k, l, rfl, e2, e3, e4⟩⟩ := hs
  · refine ⟨.msl (h0.next + bs.length) sz 0 1 none, badd bs c, ⟨?_⟩, ⟨?_, .inr ⟨bs.length, c, rfl, bget_badd, by omega, by simp [List.length_eq_zero_iff.1 (by simpa using h1), ← hc]⟩⟩, by rw [badd_len]; omega⟩
    · rw [op1v]
      have hb' : 1 * bytes ≤ maxRow := by simpa using hb
      simp only [op1, ev, append, hrow, lenOf, hb', if_true]
      rw [← hp_new]
      rfl
    · simp only [List.length_append, h1, hc]; omega
  · have hk := bget_lt e2
    by_cases hroom : (n + 1) * sz ≤ l.length
    · refine ⟨.msl (h0.next + k) sz 0 (n + 1) none, bset bs k (some (l.take (n * sz) ++ c ++ l.drop ((n + 1) * sz))), ⟨?_⟩, ⟨?_, .inr ⟨k, _, rfl, bget_bset hk, ?_, ?_⟩⟩, by rw [bset_len]; omega⟩
      · rw [op1v]
        simp only [op1, ev, append, hrow, lenOf, ne_eq, not_true_eq_false, if_false, hp_cells, e2, hroom, if_true, hmay]
        rw [← hp_set h0 hk]
        rfl
      · simp only [List.length_append, h1, hc]; rw [Nat.add_mul, Nat.one_mul]
      · simp only [List.length_append, List.length_take, List.length_drop, hc]
        have : (n + 1) * sz = n * sz + sz := by rw [Nat.add_mul, Nat.one_mul]
        omega
      · have h5 : (l.take (n * sz) ++ c).length = (n + 1) * sz := by
          simp only [List.length_append, List.length_take, hc]
          have : (n + 1) * sz = n * sz + sz := by rw [Nat.add_mul, Nat.one_mul]
          omega
        rw [List.take_append_of_le_length (by omega), List.take_of_length_le (by omega), e4]
    · refine ⟨.msl (h0.next + bs.length) sz 0 (n + 1) none, badd (bset bs k none) (l.take (n * sz) ++ c), ⟨?_⟩, ⟨?_, .inr ⟨bs.length, l.take (n * sz) ++ c, rfl, ?_, ?_, ?_⟩⟩, by rw [badd_len, bset_len]; omega⟩
      · rw [op1v]
        have h6 : ¬ l.length < n * sz := by omega
        simp only [op1, ev, append, hrow, lenOf, ne_eq, not_true_eq_false, if_false, hp_cells, e2, hroom, h6, hmine, hb, Bool.true_and, decide_true, if_true]
        rw [← hp_new, ← hp_set h0 hk]
        rfl
      · simp only [List.length_append, h1, hc]; rw [Nat.add_mul, Nat.one_mul]
      · have := bget_badd (bs := bset bs k none) (c := l.take (n * sz) ++ c)
        rw [bset_len] at this
        exact this
      · simp only [List.length_append, List.length_take, hc]
        have : (n + 1) * sz = n * sz + sz := by rw [Nat.add_mul, Nat.one_mul]
        omega
      · have h5 : (l.take (n * sz) ++ c).length = (n + 1) * sz := by
          simp only [List.length_append, List.length_take, hc]
          have : (n + 1) * sz = n * sz + sz := by rw [Nat.add_mul, Nat.one_mul]
          omega
        rw [List.take_of_length_le (by omega), e4]
end Go.Ab

namespace Go.Ab
open Go.ChangeShapes Go.WideShapes

theorem cell_some {w : World} {a : Addr} {v : Value} (h : w.cell? a = some v) : a.block < w.heap.size ∧ a.spot = none := by
  unfold World.cell? at h
  split at h
  · rename_i c t f hb
    split at h
    · cases h
    · rename_i hs
      exact ⟨(Array.getElem?_eq_some_iff.1 hb).1, by simpa using hs⟩
  · cases h
theorem cell_keep {w w' : World} {a : Addr} (h : w'.heap[a.block]? = w.heap[a.block]?) : w'.cell? a = w.cell? a := by
  unfold World.cell?; rw [h]

/-- a slice of bytes, as the machine sees it -/
theorem open_bytes {H : Type} {enc : TypeId × Value → H} {P : Program} {W : World} {t e : TypeId} {v : Value} {d : DataW H} {ps : List MemPlace} (ht : P.underlying t = some (.slice e)) (he : P.underlying e = some (.int .u8)) (hc : P.cellsOf e = 1)
    (hval : Value.okWide P W .any 0 t v) (hd : DataW.Trod enc P W 0 (fun _ => true) true t v d ps) :
    ∃ (u : V) (s : List Nat), ((u = .nilsl ∧ s = []) ∨ (u = .esl ∧ s = []) ∨ u = .fsl (s.map fun (b : Nat) => V.int .u8 (b : Int)) none) ∧ (∀ b ∈ s, b < 256) ∧ s.length ≤ maxLen ∧ Rep W (fun b => b < W.heap.size) (fun _ => none) u v ∧
      ∀ W' : World, (∀ b, b < W.heap.size → W'.heap[b]? = W.heap[b]?) → ∃ ps', DataW.Trod enc P W' 0 (fun b => decide (b < W.heap.size)) true t v d ps' := by
  obtain ⟨a0, len, cap, rfl⟩ := okWide_slice ht hval
  obtain ⟨fuel, hf⟩ := hd
  rcases open_ints ht he hc hf with ⟨hcs, hx⟩ | ⟨a, len', cap', zs, hcs, _, hl, hm, hz, hx, hcell, hwz⟩
  · simp [Value.cells] at hcs
    obtain ⟨rfl, rfl, rfl⟩ := hcs
    simp only [Prod.mk.injEq] at hx
    obtain ⟨rfl, rfl⟩ := hx
    exact ⟨.nilsl, [], .inl ⟨rfl, rfl⟩, (fun b hb => by cases hb), Nat.zero_le _, .nilsl, fun W' _ => ⟨[], RowKit.shut_slice_nil ht⟩⟩
  · simp [Value.cells] at hcs
    obtain ⟨rfl, rfl, rfl⟩ := hcs
    simp only [Prod.mk.injEq] at hx
    obtain ⟨rfl, rfl⟩ := hx
    simp only [if_true] at hz
    have hblk : 0 < zs.length → a.block < W.heap.size ∧ a.spot = none := fun h0 => by
      have := cell_some (hcell 0 h0)
      simpa [Addr.add] using this
    have hadd : ∀ i, (a.add i).block = a.block := fun i => by unfold Addr.add; split <;> rfl
    have close : ∀ W' : World, (∀ b, b < W.heap.size → W'.heap[b]? = W.heap[b]?) → ∃ ps', DataW.Trod enc P W' 0 (fun b => decide (b < W.heap.size)) true t (.slice (some a) len cap) (.slice (lits .u8 (zs.take len)) (lits .u8 (zs.drop len))) ps' := fun W' hk =>
      ⟨MemPlace.row a zs.length, 2, shut_ints 0 ht he hc (Nat.zero_le _) hl hm (by
        by_cases h0 : 0 < zs.length
        · rw [if_pos (by simpa using (hblk h0).1)]; exact hz
        · split <;> omega) (fun i hi => by rw [cell_keep (hk _ (by rw [hadd]; exact (hblk (by omega)).1))]; exact hcell i hi) hwz⟩
    by_cases h0 : len = 0
    · subst h0
      exact ⟨.esl, [], .inr (.inl ⟨rfl, rfl⟩), (fun b hb => by cases hb), Nat.zero_le _, .esl a cap, close⟩
    · have hw : ∀ n ∈ zs, 0 ≤ n ∧ n < 256 := fun n hn => by
        have := hwz n hn
        simp only [Lit.wf, Bool.and_eq_true, decide_eq_true_eq] at this
        have e1 : IntKind.min .u8 = 0 := by decide
        have e2 : IntKind.max .u8 = 255 := by decide
        rw [e1, e2] at this
        omega
      have hlen : ((zs.take len).map Int.toNat).length = len := by rw [List.length_map, List.length_take]; omega
      have hes : (((zs.take len).map Int.toNat).map fun (b : Nat) => V.int .u8 (b : Int)) = (zs.take len).map fun n => V.int .u8 n := by
        rw [List.map_map]
        apply List.map_congr_left
        intro n hn
        have := hw n (List.mem_of_mem_take hn)
        show V.int .u8 ((n.toNat : Nat) : Int) = _
        rw [Int.toNat_of_nonneg this.1]
      have hcl : ∀ l : List Int, (l.map fun n => V.int .u8 n).flatMap V.cells = l.map fun n => V.int .u8 n := fun l => by
        induction l with
        | nil => rfl
        | cons a r ih => simp only [List.map_cons, List.flatMap_cons, ih]; rfl
      have hget : ∀ (i : Nat) v, ((zs.take len).map fun n => V.int .u8 n)[i]? = some v → i < len ∧ v = .int .u8 (zs.getD i 0) := fun i v ev => by
        rw [List.getElem?_map] at ev
        obtain ⟨n, hn, rfl⟩ := map_some ev
        have hi : i < (zs.take len).length := (List.getElem?_eq_some_iff.1 hn).1
        rw [List.length_take] at hi
        have hil : i < len := by omega
        rw [List.getElem?_take, if_pos hil] at hn
        exact ⟨hil, by simp [List.getD, hn]⟩
      refine ⟨_, (zs.take len).map Int.toNat, .inr (.inr rfl), fun b hb => ?_, by rw [hlen]; omega, ?_, close⟩
      · obtain ⟨n, hn, rfl⟩ := List.mem_map.1 hb
        have := hw n (List.mem_of_mem_take hn)
        omega
      · rw [hes]
        have hl2 : ((zs.take len).map fun n => V.int .u8 n).length = len := by rw [List.length_map, List.length_take]; omega
        have hb := hblk (by omega)
        have key : Rep W (fun b => b < W.heap.size) (fun _ => none) (.fsl ((zs.take len).map fun n => V.int .u8 n) none) (.slice (some a) ((zs.take len).map fun n => V.int .u8 n).length cap) := by
          refine .fsl _ none a cap 1 (fun i => .int .u8 (zs.getD i 0)) hb.2 hb.1 (by rw [hl2]; exact hl) (fun c' h => by cases h) (fun e he => ?_) (fun v hv => ?_) ?_ (fun i v ev => ?_) (fun i v ev => ?_)
          · obtain ⟨n, _, rfl⟩ := List.mem_map.1 he; rfl
          · rw [hcl] at hv; obtain ⟨n, _, rfl⟩ := List.mem_map.1 hv; rfl
          · rw [hcl]
            have : ∀ l : List Int, V.lows 0 (l.map fun n => V.int .u8 n) = true := fun l => by
              induction l with
              | nil => rfl
              | cons a r ih => simp only [List.map_cons, V.lows, V.low, ih, Bool.and_self]
            exact this _
          · rw [hcl] at ev
            obtain ⟨hi, rfl⟩ := hget i v ev
            have := hcell i (by omega)
            have e : a.add i = ⟨a.block, a.off + i, none⟩ := by
              obtain ⟨bl, off, sp⟩ := a
              simp only at hb
              unfold Addr.add
              split
              · rename_i hi0; subst hi0; rw [hb.2]; rfl
              · rfl
            rw [e] at this
            exact this
          · rw [hcl] at ev
            obtain ⟨_, rfl⟩ := hget i v ev
            exact .int _ _
        rw [hl2] at key
        exact key
end Go.Ab

namespace Go.Ab
open Go.ChangeShapes Go.WideShapes

def offsEnd (P : Program) : List Field → Nat → Option Nat
  | [], o => some o
  | f :: r, o => if f.offset = o then offsEnd P r (o + P.cellsOf f.type) else none

/-- a type that can be opened, if those of S can -/
def goodIn (P : Program) (S : List TypeId) (t : TypeId) : Bool :=
  match P.underlying t with
  | some .bool | some (.int _) | some .string => P.cellsOf t == 1
  | some (.slice e) => P.cellsOf t == 1 && (Nat.blt 0 (P.cellsOf e) && S.contains e)
  | some (.struct fs) => (offsEnd P fs.toList 0 == some (P.cellsOf t)) && fs.toList.all fun f => S.contains f.type
  | _ => false

def elemOf (sz : Nat) (r : List V) : V := if sz = 1 then r.headD .undef else .agg r

def FitsF (P : Program) (F : TypeId → List V → Prop) : List Field → List V → Prop
  | [], us => us = []
  | f :: r, us => F f.type (us.take (P.cellsOf f.type)) ∧ FitsF P F r (us.drop (P.cellsOf f.type))

/-- the cells of a value of a type -/
def Fits (P : Program) : Nat → TypeId → List V → Prop
  | 0, _, _ => False
  | n + 1, t, us => match P.underlying t with
    | some .bool => ∃ b, us = [.bool b]
    | some (.int k) => ∃ z, us = [.int k z] ∧ (Lit.int k z).wf = true
    | some .string => ∃ s : List Nat, us = [.str s] ∧ s.length ≤ maxLen ∧ ∀ b ∈ s, b < 256
    | some (.slice e) => us = [.nilsl] ∨ us = [.esl] ∨ ∃ rows : List (List V), us = [.fsl (rows.map (elemOf (P.cellsOf e))) none] ∧ rows ≠ [] ∧ rows.length ≤ maxLen ∧ ∀ r ∈ rows, r.length = P.cellsOf e ∧ Fits P n e r
    | some (.struct fs) => FitsF P (Fits P n) fs.toList us
    | _ => False

theorem elemOf_cells {sz : Nat} {r : List V} (hl : r.length = sz) (ho : ∀ v ∈ r, v.one = true) : (elemOf sz r).cells = r := by
  unfold elemOf
  split
  · rename_i h1
    match r, hl.trans h1 with
    | [v], _ => exact one_cells' (ho v List.mem_cons_self)
  · rfl

theorem rows_flat {sz : Nat} : ∀ {rows : List (List V)}, (∀ r ∈ rows, r.length = sz ∧ ∀ v ∈ r, v.one = true) → (rows.map (elemOf sz)).flatMap V.cells = rows.flatten
  | [], _ => rfl
  | r :: rows, h => by
    simp only [List.map_cons, List.flatMap_cons, List.flatten_cons]
    rw [elemOf_cells (h r List.mem_cons_self).1 (h r List.mem_cons_self).2, rows_flat fun q hq => h q (List.mem_cons_of_mem _ hq)]

theorem rows_at {sz : Nat} (hs : 0 < sz) : ∀ {rows : List (List V)}, (∀ r ∈ rows, r.length = sz) → ∀ {i : Nat} {v : V}, rows.flatten[i]? = some v → ∃ r, rows[i / sz]? = some r ∧ r[i % sz]? = some v
  | [], _, i, v, e => by simp at e
  | r :: rows, h, i, v, e => by
    have hr := h r List.mem_cons_self
    simp only [List.flatten_cons] at e
    rcases Nat.lt_or_ge i sz with hi | hi
    · rw [List.getElem?_append_left (by omega)] at e
      exact ⟨r, by rw [Nat.div_eq_of_lt hi]; rfl, by rw [Nat.mod_eq_of_lt hi]; exact e⟩
    · rw [List.getElem?_append_right (by omega), hr] at e
      obtain ⟨q, h1, h2⟩ := rows_at hs (fun q hq => h q (List.mem_cons_of_mem _ hq)) e
      have e1 : i / sz = (i - sz) / sz + 1 := by
        conv => lhs; rw [show i = (i - sz) + sz by omega]
        rw [Nat.add_div_right _ hs]
      have e2 : i % sz = (i - sz) % sz := by
        conv => lhs; rw [show i = (i - sz) + sz by omega]
        rw [Nat.add_mod_right]
      exact ⟨q, by rw [e1, List.getElem?_cons_succ]; exact h1, by rw [e2]; exact h2⟩

theorem build_rows {α : Type} {Q : Nat → α → Prop} : ∀ (n : Nat), (∀ i, i < n → ∃ r, Q i r) → ∃ rows : List α, rows.length = n ∧ ∀ (i : Nat) (r : α), rows[i]? = some r → Q i r
  | 0, _ => ⟨[], rfl, fun i r e => by simp at e⟩
  | n + 1, h => by
    obtain ⟨rows, h1, h2⟩ := build_rows n fun i hi => h i (by omega)
    obtain ⟨r, hr⟩ := h n (by omega)
    refine ⟨rows ++ [r], by simp [h1], fun i q e => ?_⟩
    rcases Nat.lt_or_ge i n with hi | hi
    · rw [List.getElem?_append_left (by omega)] at e; exact h2 i q e
    · have hlt := (List.getElem?_eq_some_iff.1 e).1
      simp only [List.length_append, List.length_singleton, h1] at hlt
      have : i = n := by omega
      subst this
      rw [List.getElem?_append_right (by omega), h1] at e
      simp at e
      subst e
      exact hr

mutual
/-- how much there is of a value -/
def V.sz : V → Nat
  | .str s => s.length + 1
  | .fsl es _ => V.szs es + 1
  | .agg cs => V.szs cs
  | _ => 1
def V.szs : List V → Nat
  | [] => 0
  | v :: r => V.sz v + V.szs r
end
theorem szs_app : ∀ (l r : List V), V.szs (l ++ r) = V.szs l + V.szs r
  | [], r => by simp [V.szs]
  | v :: l, r => by simp only [List.cons_append, V.szs, szs_app l r]; omega
def sumB {H : Type} (bk : DataW H → Nat) : List (DataW H) → Nat
  | [] => 0
  | d :: r => bk d + sumB bk r
/-- a measure of what is read that counts all of it -/
structure BulkOk {H : Type} (bk : DataW H → Nat) : Prop where
  one : ∀ d, 1 ≤ bk d
  str : ∀ s : List UInt8, s.length + 1 ≤ bk (.lit (.string s))
  sl : ∀ es sp, sumB bk es + 1 ≤ bk (.slice es sp)
  agg : ∀ es, sumB bk es ≤ bk (.agg es)
/-- the same, and nothing longer than a machine bears -/
def FitsR (P : Program) : Nat → TypeId → List V → Prop
  | 0, _, _ => False
  | n + 1, t, us => match P.underlying t with
    | some .bool => ∃ b, us = [.bool b]
    | some (.int k) => ∃ z, us = [.int k z] ∧ (Lit.int k z).wf = true
    | some .string => ∃ s : List Nat, us = [.str s] ∧ s.length ≤ reachBytes ∧ ∀ b ∈ s, b < 256
    | some (.slice e) => us = [.nilsl] ∨ us = [.esl] ∨ ∃ rows : List (List V), us = [.fsl (rows.map (elemOf (P.cellsOf e))) none] ∧ rows ≠ [] ∧ rows.length * P.bytesOf e ≤ reachBytes ∧ ∀ r ∈ rows, r.length = P.cellsOf e ∧ FitsR P n e r
    | some (.struct fs) => FitsF P (FitsR P n) fs.toList us
    | _ => False
theorem weightsAll_mem {H : Type} {P : Program} {e : TypeId} : ∀ {l : List (DataW H)} {d : DataW H}, d ∈ l → ∀ w ∈ d.weights P e, w ∈ DataW.weightsAll P e l
  | x :: r, d, h, w, hw => by
    unfold DataW.weightsAll
    rcases List.mem_cons.1 h with rfl | h
    · exact List.mem_append_left _ hw
    · exact List.mem_append_right _ (weightsAll_mem h w hw)
structure Opened {H : Type} (P : Program) (W : World) (n : Nat) (t : TypeId) (us : List V) (cs : List Value) (d : DataW H) : Prop where
  sz : ∀ bk : DataW H → Nat, BulkOk bk → V.szs us ≤ bk d
  fitsR : (∀ w ∈ d.weights P t, w ≤ reachBytes) → FitsR P n t us
  rep : RepL W (fun b => b < W.heap.size) (fun _ => none) us cs
  fits : Fits P n t us
  one : ∀ u ∈ us, u.one = true
  low : V.lows 0 us = true
  len : cs.length = P.cellsOf t

theorem szs_rows {H : Type} (bk : DataW H → Nat) {sz : Nat} : ∀ (rows : List (List V)) (es : List (DataW H × List MemPlace)), rows.length = es.length → (∀ (i : Nat) r y, rows[i]? = some r → es[i]? = some y → r.length = sz ∧ V.szs r ≤ bk y.1) → V.szs (rows.map (elemOf sz)) ≤ sumB bk (es.map (·.1))
  | [], [], _, _ => Nat.le_refl _
  | r :: rows, y :: es, hl, h => by
    obtain ⟨h1, h2⟩ := h 0 r y rfl rfl
    have h3 := szs_rows bk rows es (by simpa using hl) fun i r y hr hy => h (i + 1) r y (by simpa using hr) (by simpa using hy)
    have h4 : V.sz (elemOf sz r) = V.szs r := by
      unfold elemOf
      split
      · rename_i h5
        match r, h1.trans h5 with
        | [v], _ => simp [V.szs]
      · rfl
    simp only [List.map_cons, V.szs, sumB, h4]
    omega
  | [], _ :: _, hl, _ => by simp at hl
  | _ :: _, [], hl, _ => by simp at hl
theorem repL_one {w : World} {R : Nat → Prop} {ι : Nat → Option Loc} {u : V} {x : Value} (h : Rep w R ι u x) : RepL w R ι [u] [x] :=
  ⟨rfl, fun i v y e e' => by
    cases i with
    | zero => simp at e e'; subst e; subst e'; exact h
    | succ i => simp at e⟩

theorem open_fit {H : Type} {enc : TypeId × Value → H} {P : Program} {W : World} {spare : Nat → Bool} {held : Bool} {S : List TypeId} (hS : ∀ t ∈ S, goodIn P S t = true) : ∀ (fuel : Nat) (t : TypeId) (cs : List Value) (x : DataW H × List MemPlace), t ∈ S →
    DataW.trod enc P W 0 spare held fuel t cs = some x → ∃ us, Opened P W fuel t us cs x.1
  | 0, _, _, _, _, h => by simp [DataW.trod] at h
  | n + 1, t, cs, x, ht, h => by
    have hg := hS t ht
    unfold goodIn at hg
    split at hg
    · rename_i hu
      obtain ⟨b, rfl, _⟩ := DataW.trod_bool hu h
      exact ⟨[.bool b], fun bk hb => hb.one _, fun _ => by simp only [FitsR, hu]; exact ⟨b, rfl⟩, repL_one (.bool b), by simp only [Fits, hu]; exact ⟨b, rfl⟩, by simp [V.one], rfl, (eq_of_beq hg).symm⟩
    · rename_i k hu
      obtain ⟨z, rfl, _, hw⟩ := DataW.trod_int hu h
      exact ⟨[.int k z], fun bk hb => hb.one _, fun _ => by simp only [FitsR, hu]; exact ⟨z, rfl, hw⟩, repL_one (.int k z), by simp only [Fits, hu]; exact ⟨z, rfl, hw⟩, by simp [V.one], rfl, (eq_of_beq hg).symm⟩
    · rename_i hu
      obtain ⟨s, rfl, rfl, hw⟩ := DataW.trod_string hu h
      refine ⟨[.str (s.data.toList.map UInt8.toNat)], fun bk hb => by have := hb.str s.data.toList; simpa [V.szs, V.sz] using this, fun hR => by
        unfold FitsR; rw [hu]
        refine ⟨_, rfl, ?_, fun b hb => ?_⟩
        · rw [List.length_map]
          exact hR _ (by unfold DataW.weights; exact List.mem_cons_self)
        · obtain ⟨c, _, rfl⟩ := List.mem_map.1 hb
          exact c.toNat_lt, repL_one (.str s), ?_, by simp [V.one], rfl, (eq_of_beq hg).symm⟩
      unfold Fits; rw [hu]
      refine ⟨_, rfl, by rw [List.length_map, Array.length_toList]; exact hw, fun b hb => ?_⟩
      obtain ⟨c, _, rfl⟩ := List.mem_map.1 hb
      exact c.toNat_lt
    · rename_i e hu
      simp only [Bool.and_eq_true, beq_iff_eq] at hg
      obtain ⟨hg1, hg2, hg3⟩ := hg
      have hsz : 0 < P.cellsOf e := by simpa [Nat.blt_eq] using hg2
      have heS : e ∈ S := by simpa using hg3
      rcases DataW.trod_slice hu h with ⟨rfl, _⟩ | ⟨a, len, cap, elems, rest, m, hm, rfl, hx, hb, hl, hmx, hlen, hel, _, _⟩
      · exact ⟨[.nilsl], fun bk hb => hb.one _, fun _ => by unfold FitsR; rw [hu]; exact .inl rfl, repL_one .nilsl, by unfold Fits; rw [hu]; exact .inl rfl, by simp [V.one], rfl, hg1.symm⟩
      · obtain rfl : n = m := by omega
        by_cases h0 : len = 0
        · subst h0
          exact ⟨[.esl], fun bk hb => hb.one _, fun _ => by unfold FitsR; rw [hu]; exact .inr (.inl rfl), repL_one (.esl a cap), by unfold Fits; rw [hu]; exact .inr (.inl rfl), by simp [V.one], rfl, hg1.symm⟩
        · obtain ⟨rows, hrl, hrows⟩ := build_rows (Q := fun i r => ∃ ci y, elems[i]? = some y ∧ W.cells? 0 (a.add (i * P.cellsOf e)) (P.cellsOf e) = some ci ∧ Opened P W n e r ci y.1) len fun i hi => by
            have h1 := hel i hi
            rw [List.getElem?_eq_getElem (by omega)] at h1
            obtain ⟨ci, h2, h3⟩ := bind_some h1
            obtain ⟨us, h4⟩ := open_fit hS n e ci _ heS h3
            exact ⟨us, ci, _, List.getElem?_eq_getElem (by omega), h2, h4⟩
          have hat : ∀ r ∈ rows, r.length = P.cellsOf e ∧ (∀ v ∈ r, v.one = true) ∧ V.lows 0 r = true ∧ Fits P n e r := fun r hr => by
            obtain ⟨i, hi⟩ := List.getElem?_of_mem hr
            obtain ⟨ci, _, _, _, h5⟩ := hrows i r hi
            exact ⟨h5.rep.1.trans h5.len, h5.one, h5.low, h5.fits⟩
          have hne : rows ≠ [] := fun h1 => h0 (by rw [← hrl, h1]; rfl)
          have hflat := rows_flat (sz := P.cellsOf e) (rows := rows) fun r hr => ⟨(hat r hr).1, (hat r hr).2.1⟩
          -- the first cell
          obtain ⟨r0, hr0⟩ : ∃ r0, rows[0]? = some r0 := ⟨rows[0]'(by omega), List.getElem?_eq_getElem _⟩
          obtain ⟨c0, _, _, hc0, ho0⟩ := hrows 0 r0 hr0
          have ha0 : a.add (0 * P.cellsOf e) = a := by simp [Addr.add]
          rw [ha0] at hc0
          have hblk : a.block < W.heap.size ∧ a.spot = none := by
            obtain ⟨_, hl0, hc⟩ := World.cells?_some hc0
            have h1 := hc 0 hsz
            rw [show a.add 0 = a by simp [Addr.add], List.getElem?_eq_getElem (by omega)] at h1
            unfold World.cell? at h1
            split at h1
            · rename_i c t' f hbk
              split at h1
              · cases h1
              · rename_i hs
                exact ⟨(Array.getElem?_eq_some_iff.1 hbk).1, by simpa using hs⟩
            · cases h1
          have hadd : ∀ i, a.add i = ⟨a.block, a.off + i, none⟩ := fun i => by
            obtain ⟨b, o, sp⟩ := a
            simp only at hblk
            unfold Addr.add
            split
            · rename_i h1; subst h1; rw [hblk.2]; rfl
            · rfl
          have hcell : ∀ (i : Nat) v, rows.flatten[i]? = some v → ∃ y, W.cell? ⟨a.block, a.off + i, none⟩ = some y ∧ Rep W (fun b => b < W.heap.size) (fun _ => none) v y := fun i v ev => by
            obtain ⟨r, h1, h2⟩ := rows_at hsz (fun r hr => (hat r hr).1) ev
            obtain ⟨ci, _, _, h3, h4⟩ := hrows _ r h1
            obtain ⟨_, h5, h6⟩ := World.cells?_some h3
            have hlt : i % P.cellsOf e < P.cellsOf e := Nat.mod_lt _ hsz
            have h7 := h6 _ hlt
            have h8 : i % P.cellsOf e < ci.length := by omega
            rw [List.getElem?_eq_getElem h8] at h7
            refine ⟨_, ?_, h4.rep.2 _ v _ h2 (List.getElem?_eq_getElem h8)⟩
            rw [← h7]
            congr 1
            rw [hadd]
            unfold Addr.add
            split
            · rename_i h9
              have := Nat.div_add_mod i (P.cellsOf e)
              rw [h9, Nat.mul_comm] at this
              simp only [Addr.mk.injEq, true_and, and_true]
              omega
            · have := Nat.div_add_mod i (P.cellsOf e)
              rw [Nat.mul_comm] at this
              simp only [Addr.mk.injEq, true_and, and_true]
              omega
          have hlen2 : (rows.map (elemOf (P.cellsOf e))).length = len := by simp [hrl]
          have key : Rep W (fun b => b < W.heap.size) (fun _ => none) (.fsl (rows.map (elemOf (P.cellsOf e))) none) (.slice (some a) (rows.map (elemOf (P.cellsOf e))).length cap) := by
            refine .fsl _ none a cap (P.cellsOf e) (fun i => (W.cell? ⟨a.block, a.off + i, none⟩).getD undef) hblk.2 hblk.1 (by rw [hlen2]; exact hl) (fun c' h => by cases h) (fun q hq => ?_) (fun v hv => ?_) ?_ (fun i v ev => ?_) (fun i v ev => ?_)
            · obtain ⟨r, hr, rfl⟩ := List.mem_map.1 hq
              rw [elemOf_cells (hat r hr).1 (hat r hr).2.1]
              exact (hat r hr).1
            · rw [hflat] at hv
              obtain ⟨r, hr, hv⟩ := List.mem_flatten.1 hv
              exact (hat r hr).2.1 v hv
            · rw [hflat]
              refine lows_spec.2 fun v hv => ?_
              obtain ⟨r, hr, hv⟩ := List.mem_flatten.1 hv
              exact lows_spec.1 (hat r hr).2.2.1 v hv
            · rw [hflat] at ev
              obtain ⟨y, h1, _⟩ := hcell i v ev
              simp only [h1, Option.getD_some]
            · rw [hflat] at ev
              obtain ⟨y, h1, h2⟩ := hcell i v ev
              simp only [h1, Option.getD_some]
              exact h2
          rw [hlen2] at key
          refine ⟨[.fsl (rows.map (elemOf (P.cellsOf e))) none], fun bk hbk => ?_, fun hR => ?_, repL_one key, ?_, by simp [V.one], rfl, hg1.symm⟩
          · rw [hx]
            have h1 := hbk.sl (elems.map (·.1)) (rest.map (·.1))
            have h2 : V.szs (rows.map (elemOf (P.cellsOf e))) ≤ sumB bk (elems.map (·.1)) := szs_rows bk rows elems (by omega) fun i r y hr hy => by
              obtain ⟨ci, y', h3, _, h5⟩ := hrows i r hr
              rw [hy] at h3
              cases h3
              exact ⟨(hat r (List.mem_of_getElem? hr)).1, h5.sz bk hbk⟩
            show V.szs (rows.map (elemOf (P.cellsOf e))) + 1 + 0 ≤ bk (.slice (elems.map (·.1)) (rest.map (·.1)))
            omega
          · rw [hx] at hR
            have hw : DataW.weights P t (DataW.slice (elems.map (·.1)) (rest.map (·.1))) = ((elems.map (·.1)).length + (rest.map (·.1)).length) * P.bytesOf e :: (DataW.weightsAll P e (elems.map (·.1)) ++ DataW.weightsAll P e (rest.map (·.1))) := by
              rw [DataW.weights, hu]
            simp only at hR
            rw [hw] at hR
            have h1 := hR _ List.mem_cons_self
            unfold FitsR; rw [hu]
            refine .inr (.inr ⟨rows, rfl, hne, ?_, fun r hr => ?_⟩)
            · refine Nat.le_trans (Nat.mul_le_mul_right _ ?_) h1
              simp only [List.length_map]; omega
            · obtain ⟨i, hi⟩ := List.getElem?_of_mem hr
              obtain ⟨ci, y, h3, _, h5⟩ := hrows i r hi
              exact ⟨(hat r hr).1, h5.fitsR fun w hw => hR w (List.mem_cons_of_mem _ (List.mem_append_left _ (weightsAll_mem (List.mem_map.2 ⟨y, List.mem_of_getElem? h3, rfl⟩) w hw)))⟩
          unfold Fits; rw [hu]
          exact .inr (.inr ⟨rows, rfl, hne, by omega, fun r hr => ⟨(hat r hr).1, (hat r hr).2.2.2⟩⟩)
    · rename_i fs hu
      simp only [Bool.and_eq_true, beq_iff_eq, List.all_eq_true] at hg
      obtain ⟨hg1, hg2⟩ := hg
      obtain ⟨xs, m, hm, hx, hcl, hxl, hxs⟩ := DataW.trod_struct hu h
      obtain rfl : n = m := by omega
      have key : ∀ (fl : List Field) (xl : List (DataW H × List MemPlace)) (o : Nat), xl.length = fl.length → offsEnd P fl o = some cs.length → (∀ (i : Nat) f y, fl[i]? = some f → xl[i]? = some y → f.type ∈ S ∧ DataW.trod enc P W 0 spare held n f.type ((cs.drop f.offset).take (P.cellsOf f.type)) = some y) → o ≤ cs.length →
          ∃ us, RepL W (fun b => b < W.heap.size) (fun _ => none) us (cs.drop o) ∧ FitsF P (Fits P n) fl us ∧ (∀ u ∈ us, u.one = true) ∧ V.lows 0 us = true ∧ (∀ bk : DataW H → Nat, BulkOk bk → V.szs us ≤ sumB bk (xl.map (·.1))) ∧ ((∀ w ∈ DataW.weightsEach P (fl.map (·.type)) (xl.map (·.1)), w ≤ reachBytes) → FitsF P (FitsR P n) fl us) := by
        intro fl
        induction fl with
        | nil =>
          intro xl o _ ho _ _
          cases ho
          exact ⟨[], ⟨by simp, fun i v y e => by simp at e⟩, rfl, (fun u hu => by cases hu), rfl, fun bk _ => Nat.zero_le _, fun _ => rfl⟩
        | cons f fl ih =>
          intro xl o hxl ho hf hle
          match xl, hxl with
          | y :: xl, hxl =>
          simp only [offsEnd] at ho
          split at ho
          · rename_i hoff
            subst hoff
            obtain ⟨hfS, hy⟩ := hf 0 f y rfl rfl
            obtain ⟨uf, hof⟩ := open_fit hS n f.type _ y hfS hy
            have hlf := hof.len
            rw [List.length_take, List.length_drop] at hlf
            have hlen : uf.length = P.cellsOf f.type := hof.rep.1.trans hof.len
            have hle2 : f.offset + P.cellsOf f.type ≤ cs.length := by omega
            obtain ⟨ur, h1, h2, h3, h4, h5, h8⟩ := ih xl (f.offset + P.cellsOf f.type) (by simpa using hxl) ho (fun i g y hg hy => hf (i + 1) g y (by simpa using hg) (by simpa using hy)) hle2
            refine ⟨uf ++ ur, ?_, ⟨?_, ?_⟩, ?_, ?_, ?_, fun hR => ⟨?_, ?_⟩⟩
            · have := RepL.append hof.rep h1
              rwa [← List.drop_drop, List.take_append_drop] at this
            · rw [List.take_left' hlen]; exact hof.fits
            · rw [List.drop_left' hlen]; exact h2
            · intro u hu
              rcases List.mem_append.1 hu with hu | hu
              · exact hof.one u hu
              · exact h3 u hu
            · refine lows_spec.2 fun u hu => ?_
              rcases List.mem_append.1 hu with hu | hu
              · exact lows_spec.1 hof.low u hu
              · exact lows_spec.1 h4 u hu
            · intro bk hbk
              have h6 := hof.sz bk hbk
              have h7 := h5 bk hbk
              rw [szs_app]
              simp only [List.map_cons, sumB]
              omega
            · rw [List.take_left' hlen]
              exact hof.fitsR fun w hw => hR w (by simp only [List.map_cons]; unfold DataW.weightsEach; exact List.mem_append_left _ hw)
            · rw [List.drop_left' hlen]
              exact h8 fun w hw => hR w (by simp only [List.map_cons]; unfold DataW.weightsEach; exact List.mem_append_right _ hw)
          · cases ho
      obtain ⟨us, h1, h2, h3, h4, h5, h8⟩ := key fs.toList xs 0 (by simpa using hxl) (by rw [hcl]; exact hg1) (fun i f y hf hy => by
        refine ⟨by simpa using hg2 f (List.mem_of_getElem? hf), ?_⟩
        rw [Array.getElem?_toList] at hf
        have h5 := hxs i f hf
        rw [hy] at h5
        exact h5) (Nat.zero_le _)
      rw [List.drop_zero] at h1
      exact ⟨us, fun bk hbk => by rw [hx]; exact Nat.le_trans (h5 bk hbk) (hbk.agg _), fun hR => by
        rw [hx] at hR
        have hw : DataW.weights P t (DataW.agg (xs.map (·.1))) = DataW.weightsEach P (fs.toList.map (·.type)) (xs.map (·.1)) := by rw [DataW.weights, hu]
        simp only at hR
        rw [hw] at hR
        simp only [FitsR, hu]
        exact h8 hR, h1, by simp only [Fits, hu]; exact h2, h3, h4, hcl⟩
    · cases hg

/-- a parameter of a struct type, and how much it holds -/
theorem open_structB {H : Type} {enc : TypeId × Value → H} {P : Program} {W : World} {S : List TypeId} (hS : ∀ t ∈ S, goodIn P S t = true) {t : TypeId} (ht : t ∈ S) {fs : Array Field} (hu : P.underlying t = some (.struct fs)) {v : Value} {d : DataW H} {ps : List MemPlace}
    (hval : Value.okWide P W .any 0 t v) (hd : DataW.Trod enc P W 0 (fun _ => true) true t v d ps) :
    ∃ n us, Fits P n t us ∧ Rep W (fun b => b < W.heap.size) (fun _ => none) (.agg us) v ∧ (∀ bk : DataW H → Nat, BulkOk bk → V.szs us ≤ bk d) ∧ ((∀ w ∈ d.weights P t, w ≤ reachBytes) → FitsR P n t us) := by
  unfold Value.okWide at hval
  rw [hu] at hval
  obtain ⟨cs, rfl, _, _⟩ := hval
  obtain ⟨fuel, hf⟩ := hd
  obtain ⟨us, ho⟩ := open_fit hS fuel t _ _ ht hf
  exact ⟨fuel, us, ho.fits, by
    have := ho.rep
    simp only [Value.cells] at this
    have e : cs = cs.toList.toArray := by simp
    rw [e]
    exact .agg us cs.toList this.1 ho.one this.2, ho.sz, ho.fitsR⟩
/-- a parameter of a struct type -/
theorem open_struct {H : Type} {enc : TypeId × Value → H} {P : Program} {W : World} {S : List TypeId} (hS : ∀ t ∈ S, goodIn P S t = true) {t : TypeId} (ht : t ∈ S) {fs : Array Field} (hu : P.underlying t = some (.struct fs)) {v : Value} {d : DataW H} {ps : List MemPlace}
    (hval : Value.okWide P W .any 0 t v) (hd : DataW.Trod enc P W 0 (fun _ => true) true t v d ps) :
    ∃ n us, Fits P n t us ∧ Rep W (fun b => b < W.heap.size) (fun _ => none) (.agg us) v := by
  obtain ⟨n, us, h1, h2, _⟩ := open_structB hS ht hu hval hd
  exact ⟨n, us, h1, h2⟩
/-- a parameter that is a slice, and how much it holds -/
theorem open_sliceB {H : Type} {enc : TypeId × Value → H} {P : Program} {W : World} {S : List TypeId} (hS : ∀ t ∈ S, goodIn P S t = true) {t e : TypeId} (ht : t ∈ S) (hu : P.underlying t = some (.slice e)) {v : Value} {d : DataW H} {ps : List MemPlace}
    (hval : Value.okWide P W .any 0 t v) (hd : DataW.Trod enc P W 0 (fun _ => true) true t v d ps) :
    ∃ n u, Fits P n t [u] ∧ Rep W (fun b => b < W.heap.size) (fun _ => none) u v ∧ (∀ bk : DataW H → Nat, BulkOk bk → V.sz u ≤ bk d) ∧ ((∀ w ∈ d.weights P t, w ≤ reachBytes) → FitsR P n t [u]) := by
  obtain ⟨a0, len, cap, rfl⟩ := okWide_slice hu hval
  obtain ⟨fuel, hf⟩ := hd
  obtain ⟨us, ho⟩ := open_fit hS fuel t _ _ ht hf
  have h1 := ho.rep
  simp only [Value.cells] at h1
  match us, h1, ho.fits, ho.sz, ho.fitsR with
  | [u], h1, h2, h3, h4 => exact ⟨fuel, u, h2, h1.2 0 u _ rfl rfl, fun bk hbk => by have := h3 bk hbk; simpa [V.szs] using this, h4⟩
  | [], h1, _, _, _ => have := h1.1; simp at this
  | _ :: _ :: _, h1, _, _, _ => have := h1.1; simp at this
/-- a parameter that is a slice -/
theorem open_slice {H : Type} {enc : TypeId × Value → H} {P : Program} {W : World} {S : List TypeId} (hS : ∀ t ∈ S, goodIn P S t = true) {t e : TypeId} (ht : t ∈ S) (hu : P.underlying t = some (.slice e)) {v : Value} {d : DataW H} {ps : List MemPlace}
    (hval : Value.okWide P W .any 0 t v) (hd : DataW.Trod enc P W 0 (fun _ => true) true t v d ps) :
    ∃ n u, Fits P n t [u] ∧ Rep W (fun b => b < W.heap.size) (fun _ => none) u v := by
  obtain ⟨n, u, h1, h2, _⟩ := open_sliceB hS ht hu hval hd
  exact ⟨n, u, h1, h2⟩
end Go.Ab

namespace Go.Ab

mutual
/-- a value without any memory -/
def V.atom : V → Bool
  | .bool _ | .int .. | .str _ | .flt .. | .cpx .. | .nilsl | .nilptr | .nilfn | .nilifc | .nilmp => true
  | .agg cs | .tup cs => V.atoms cs
  | .ifc _ v => V.atom v
  | .fn _ a b => V.atoms a && V.atoms b
  | .undef | .esl | .fsl .. | .msl .. | .fptr _ | .mptr .. | .mp _ => false
def V.atoms : List V → Bool
  | [] => true
  | v :: r => V.atom v && V.atoms r
end

theorem atoms_spec {l : List V} : V.atoms l = true ↔ ∀ v ∈ l, V.atom v = true := by
  induction l with
  | nil => simp [V.atoms]
  | cons v r ih => simp [V.atoms, ih]

theorem atom_at {cs : List V} (hl : V.atoms cs = true) {i : Nat} {v : V} (e : cs[i]? = some v) : V.atom v = true :=
  atoms_spec.1 hl v (List.mem_of_getElem? e)

/-- such a value is the same in every world -/
theorem Rep.atom {w w' : World} {R R' : Nat → Prop} {ι ι' : Nat → Option Loc} {v : V} {x : Value} (h : Rep w R ι v x) : V.atom v = true → Rep w' R' ι' v x := by
  induction h with
  | bool b => exact fun _ => .bool b
  | int k n => exact fun _ => .int k n
  | str x => exact fun _ => .str x
  | flt k b => exact fun _ => .flt k b
  | cpx k a b => exact fun _ => .cpx k a b
  | nilsl => exact fun _ => .nilsl
  | nilptr => exact fun _ => .nilptr
  | nilfn => exact fun _ => .nilfn
  | nilifc => exact fun _ => .nilifc
  | nilmp => exact fun _ => .nilmp
  | agg cs xs hl hone hr ih =>
    intro h; simp only [V.atom] at h
    exact .agg cs xs hl hone fun i v x ev ex => ih i v x ev ex (atom_at h ev)
  | tup cs xs hl hr ih =>
    intro h; simp only [V.atom] at h
    exact .tup cs xs hl fun i v x ev ex => ih i v x ev ex (atom_at h ev)
  | fn f pre caps xs ys hl hl' hr hr' ih ih' =>
    intro h; simp only [V.atom, Bool.and_eq_true] at h
    exact .fn f pre caps xs ys hl hl' (fun i v x ev ex => ih i v x ev ex (atom_at h.1 ev)) (fun i v x ev ex => ih' i v x ev ex (atom_at h.2 ev))
  | ifc t v x h ih =>
    intro h; simp only [V.atom] at h
    exact .ifc t v x (ih h)
  | _ => exact fun h => by simp [V.atom] at h

/-- the functions in dom answer as the table says for the arguments as they read -/
def frozenOrc (dom : Nat → Bool) (tbl : Nat → List V → Option V) (f : Nat) : Option (List V → Heap → Option (Out × Heap)) :=
  match dom f with
  | true => some fun a h => match freezes h 0 fuelF a with
    | some p => match tbl f p with
      | some u => some (.ret u, h)
      | none => none
    | none => none
  | false => none

/-- what the table says is so -/
def FrozenOk (C : Ctx) (tbl : Nat → List V → Option V) : Prop := ∀ f a u, tbl f a = some u → V.atom u = true ∧ ∃ n h1, call C n f a Heap.empty = some (.ret u, h1)

theorem frozen_ok {P : Program} {G : Nat → Option V} {C : Ctx} (hK : CodeOk P G C) (hG0 : ∀ g v, G g = some v → V.low 0 v = true) {dom : Nat → Bool} {tbl : Nat → List V → Option V} (ht : FrozenOk C tbl) :
    ∀ f g, frozenOrc dom tbl f = some g → CallsOk P G (fun f' args h => if f' = f then g args h else none) := by
  intro f g hg f' args h out h' e
  unfold frozenOrc at hg
  split at hg
  · cases hg
    simp only at e
    by_cases hff : f' = f
    · rw [if_pos hff] at e
      subst hff
      split at e
      · rename_i p hp0
        split at e
        · rename_i u hu
          cases e
          obtain ⟨hlu, n, h1, e0⟩ := ht f' p u hu
          obtain ⟨hfn, hc⟩ := call_calls hK draws_ok n f' p Heap.empty _ _ e0
          refine ⟨hfn, fun w R ι xs hr hG hx => ?_⟩
          have hι0 : ∀ id, id < 0 → (fun _ : Nat => (none : Option Loc)) id = ι id := fun id hid => absurd hid (Nat.not_lt_zero _)
          -- the blocks that are named, shut for this call
          have hR2 : ∀ b, R b → (fun b => R b ∨ ∃ id blk loc, h.get id = some blk ∧ ι id = some loc ∧ loc.b = b) b := fun b hb => .inl hb
          have hlt2 : ∀ b, (fun b => R b ∨ ∃ id blk loc, h.get id = some blk ∧ ι id = some loc ∧ loc.b = b) b → b < w.heap.size := fun b hb => by
            rcases hb with hb | ⟨id, blk, loc, e1, e2, rfl⟩
            · exact hr.lt b hb
            · exact hr.blk_lt e1 e2
          have hxs : RepL w (fun b => R b ∨ ∃ id blk loc, h.get id = some blk ∧ ι id = some loc ∧ loc.b = b) (fun _ => none) p xs.toList := by
            obtain ⟨g1, g2⟩ := freezes_at hp0
            refine ⟨g1.trans hx.1, fun i v x ev ex => ?_⟩
            have hi : i < args.length := by rw [← g1]; exact (List.getElem?_eq_some_iff.1 ev).1
            obtain ⟨k, _, hk⟩ := g2 i _ v (List.getElem?_eq_getElem hi) ev
            exact freeze_ok hr hR2 (fun id blk loc _ e1 e2 => .inr ⟨id, blk, loc, e1, e2, rfl⟩) hι0 k _ v x hk (hx.2 i _ x (List.getElem?_eq_getElem hi) ex)
          refine Calls.mono (hc w _ (fun _ => none) xs (start_rel' hlt2) (fun g v hv => ((hG g v hv).forget (n := 0) hι0 (hG0 g v hv)).mono hR2 (fun _ _ => rfl) (fun _ _ h => h)) hxs) fun en w' hen => ?_
          obtain ⟨R', ι', hp, ho⟩ := hen
          have hkeep : ∀ b, b < w.heap.size → w'.heap[b]? = w.heap[b]? := fun b hb => hp.keep b hb fun id blk loc e' e2 => by cases e2
          have hmono : ∀ {v x}, Rep w R ι v x → Rep w' R ι v x := fun hv => hv.mono (fun _ h => h) (fun b hb => hkeep b (hr.lt b hb)) (fun _ _ h => h)
          refine ⟨R, ι, ⟨⟨hr.len, hr.none, fun b hb => Nat.lt_of_lt_of_le (hr.lt b hb) hp.size, fun id l loc e e' => ?_, fun id es loc e e' => (hr.maps id es loc e e').move (hkeep _ (hr.blk_lt e e')) hmono, hr.inj, hr.apart, hr.low, hr.floor, hr.lowM⟩, fun _ h => h, fun _ _ => rfl, hp.size, hp.os, hp.tape, hp.output, fun b hb _ => hkeep b hb,
            fun id blk loc e e' => .inr ⟨id, blk, loc, e, e', rfl⟩, fun _ _ _ => rfl, Nat.le_refl _, rfl, fun b hb => .inl hb⟩, ?_⟩
          · obtain ⟨cur, t, g1, g2, g3, g4, g5⟩ := hr.cells id l loc e e'
            refine ⟨cur, t, ?_, g2, g3, g4, fun i v ev => ?_⟩
            · rw [hkeep _ (Array.getElem?_eq_some_iff.1 g1).1]; exact g1
            · obtain ⟨x, h1, h2⟩ := g5 i v ev
              exact ⟨x, h1, hmono h2⟩
          · cases en with
            | returned v => exact (show Rep w' R' ι' u v from ho).atom hlu
            | panicked ch => exact ho.elim
            | outgrown => exact ho.elim
        · cases e
      · cases e
    · rw [if_neg hff] at e; cases e
  · cases hg

mutual
/-- a value whose memory is named -/
def V.own : V → Bool
  | .bool _ | .int .. | .str _ | .flt .. | .cpx .. | .nilsl | .nilptr | .nilfn | .nilifc | .nilmp | .msl .. | .mptr .. | .mp _ => true
  | .agg cs | .tup cs => V.owns cs
  | .ifc _ v => V.own v
  | .fn _ a b => V.owns a && V.owns b
  | .undef | .esl | .fsl .. | .fptr _ => false
def V.owns : List V → Bool
  | [] => true
  | v :: r => V.own v && V.owns r
end

theorem owns_spec {l : List V} : V.owns l = true ↔ ∀ v ∈ l, V.own v = true := by
  induction l with
  | nil => simp [V.owns]
  | cons v r ih => simp [V.owns, ih]

theorem own_at {cs : List V} (hl : V.owns cs = true) {i : Nat} {v : V} (e : cs[i]? = some v) : V.own v = true :=
  owns_spec.1 hl v (List.mem_of_getElem? e)

theorem Rep.own {w : World} {R R' : Nat → Prop} {ι : Nat → Option Loc} {v : V} {x : Value} (h : Rep w R ι v x) : V.own v = true → Rep w R' ι v x := by
  induction h with
  | bool b => exact fun _ => .bool b
  | int k n => exact fun _ => .int k n
  | str x => exact fun _ => .str x
  | flt k b => exact fun _ => .flt k b
  | cpx k a b => exact fun _ => .cpx k a b
  | nilsl => exact fun _ => .nilsl
  | nilptr => exact fun _ => .nilptr
  | nilfn => exact fun _ => .nilfn
  | nilifc => exact fun _ => .nilifc
  | nilmp => exact fun _ => .nilmp
  | msl id sz off len cap loc c h1 h2 h3 h4 => exact fun _ => .msl id sz off len cap loc c h1 h2 h3 h4
  | mptr id off loc h1 => exact fun _ => .mptr id off loc h1
  | mp id loc h1 => exact fun _ => .mp id loc h1
  | agg cs xs hl hone hr ih =>
    intro h; simp only [V.own] at h
    exact .agg cs xs hl hone fun i v x ev ex => ih i v x ev ex (own_at h ev)
  | tup cs xs hl hr ih =>
    intro h; simp only [V.own] at h
    exact .tup cs xs hl fun i v x ev ex => ih i v x ev ex (own_at h ev)
  | fn f pre caps xs ys hl hl' hr hr' ih ih' =>
    intro h; simp only [V.own, Bool.and_eq_true] at h
    exact .fn f pre caps xs ys hl hl' (fun i v x ev ex => ih i v x ev ex (own_at h.1 ev)) (fun i v x ev ex => ih' i v x ev ex (own_at h.2 ev))
  | ifc t v x h ih =>
    intro h; simp only [V.own] at h
    exact .ifc t v x (ih h)
  | _ => exact fun h => by simp [V.own] at h

/-- a block without shut memory, or none -/
def Blk.clean : Option Blk → Option Blk
  | some (.cells l) => match V.owns l with
    | true => some (.cells l)
    | false => none
  | _ => none
/-- the heap without the blocks that have shut memory -/
def Heap.clean (h : Heap) : Heap := { h with bl := h.bl.map Blk.clean }

theorem Heap.clean_get {h : Heap} {id : Nat} {b : Blk} (e : h.clean.get id = some b) : h.get id = some b ∧ ∃ l, b = .cells l ∧ V.owns l = true := by
  unfold Heap.get Heap.clean at e
  unfold Heap.get
  simp only at e
  split at e
  · rename_i hlt
    simp only [hlt, if_true]
    rw [List.getElem?_map] at e
    cases hb : h.bl[h.next - 1 - id]? with
    | none => rw [hb] at e; cases e
    | some x =>
      rw [hb] at e
      simp only [Option.map_some] at e
      cases x with
      | none => cases e
      | some y =>
        cases y with
        | cells l =>
          simp only [Blk.clean] at e
          cases ho : V.owns l with
          | true => rw [ho] at e; cases e; exact ⟨rfl, l, rfl, ho⟩
          | false => rw [ho] at e; cases e
        | map es => cases e
  · cases e

/-- the functions in dom answer as the table says, with memory that is theirs and is shut from then on -/
def FreshOk (C : Ctx) (tbl : Nat → List V → Option V) : Prop := ∀ f a u, tbl f a = some u → ∃ n h1 u0 k, call C n f a Heap.empty = some (.ret u0, h1) ∧ V.own u0 = true ∧ freeze h1.clean 0 k u0 = some u

theorem fresh_ok {P : Program} {G : Nat → Option V} {C : Ctx} (hK : CodeOk P G C) (hG0 : ∀ g v, G g = some v → V.low 0 v = true) {dom : Nat → Bool} {tbl : Nat → List V → Option V} (ht : FreshOk C tbl) :
    ∀ f g, frozenOrc dom tbl f = some g → CallsOk P G (fun f' args h => if f' = f then g args h else none) := by
  intro f g hg f' args h out h' e
  unfold frozenOrc at hg
  split at hg
  · cases hg
    simp only at e
    by_cases hff : f' = f
    · rw [if_pos hff] at e
      subst hff
      split at e
      · rename_i p hp0
        split at e
        · rename_i u hu
          cases e
          obtain ⟨n, h1, u0, k0, e0, hu0, hfz⟩ := ht f' p u hu
          obtain ⟨hfn, hc⟩ := call_calls hK draws_ok n f' p Heap.empty _ _ e0
          refine ⟨hfn, fun w R ι xs hr hG hx => ?_⟩
          have hι0 : ∀ id, id < 0 → (fun _ : Nat => (none : Option Loc)) id = ι id := fun id hid => absurd hid (Nat.not_lt_zero _)
          have hR2 : ∀ b, R b → (fun b => R b ∨ ∃ id blk loc, h.get id = some blk ∧ ι id = some loc ∧ loc.b = b) b := fun b hb => .inl hb
          have hlt2 : ∀ b, (fun b => R b ∨ ∃ id blk loc, h.get id = some blk ∧ ι id = some loc ∧ loc.b = b) b → b < w.heap.size := fun b hb => by
            rcases hb with hb | ⟨id, blk, loc, e1, e2, rfl⟩
            · exact hr.lt b hb
            · exact hr.blk_lt e1 e2
          have hxs : RepL w (fun b => R b ∨ ∃ id blk loc, h.get id = some blk ∧ ι id = some loc ∧ loc.b = b) (fun _ => none) p xs.toList := by
            obtain ⟨g1, g2⟩ := freezes_at hp0
            refine ⟨g1.trans hx.1, fun i v x ev ex => ?_⟩
            have hi : i < args.length := by rw [← g1]; exact (List.getElem?_eq_some_iff.1 ev).1
            obtain ⟨k, _, hk⟩ := g2 i _ v (List.getElem?_eq_getElem hi) ev
            exact freeze_ok hr hR2 (fun id blk loc _ e1 e2 => .inr ⟨id, blk, loc, e1, e2, rfl⟩) hι0 k _ v x hk (hx.2 i _ x (List.getElem?_eq_getElem hi) ex)
          refine Calls.mono (hc w _ (fun _ => none) xs (start_rel' hlt2) (fun g v hv => ((hG g v hv).forget (n := 0) hι0 (hG0 g v hv)).mono hR2 (fun _ _ => rfl) (fun _ _ h => h)) hxs) fun en w' hen => ?_
          obtain ⟨R', ι', hp, ho⟩ := hen
          have hkeep : ∀ b, b < w.heap.size → w'.heap[b]? = w.heap[b]? := fun b hb => hp.keep b hb fun id blk loc e' e2 => by cases e2
          have hnew : ∀ id blk loc, h1.get id = some blk → ι' id = some loc → w.heap.size ≤ loc.b := fun id blk loc e1 e2 => by
            rcases hp.own id blk loc e1 e2 with h | ⟨id0, blk0, loc0, e3, e4, _⟩
            · exact h
            · cases e4
          have hsub : ∀ b, R b → (fun b => R b ∨ ∃ id blk loc, h1.get id = some blk ∧ ι' id = some loc ∧ loc.b = b) b := fun b hb => .inl hb
          have hmono : ∀ {v x}, Rep w R ι v x → Rep w' (fun b => R b ∨ ∃ id blk loc, h1.get id = some blk ∧ ι' id = some loc ∧ loc.b = b) ι v x := fun hv => hv.mono hsub (fun b hb => hkeep b (hr.lt b hb)) (fun _ _ h => h)
          refine ⟨fun b => R b ∨ ∃ id blk loc, h1.get id = some blk ∧ ι' id = some loc ∧ loc.b = b, ι, ⟨⟨hr.len, hr.none, fun b hb => ?_, fun id l loc e e' => ?_, fun id es loc e e' => (hr.maps id es loc e e').move (hkeep _ (hr.blk_lt e e')) hmono, hr.inj, fun id blk loc e e' hR => ?_, hr.low, hr.floor, hr.lowM⟩, hsub, fun _ _ => rfl, hp.size, hp.os, hp.tape, hp.output, fun b hb _ => hkeep b hb,
            fun id blk loc e e' => .inr ⟨id, blk, loc, e, e', rfl⟩, fun _ _ _ => rfl, Nat.le_refl _, rfl, fun b hb => ?_⟩, ?_⟩
          · rcases hb with hb | ⟨id, blk, loc, e1, e2, rfl⟩
            · exact Nat.lt_of_lt_of_le (hr.lt b hb) hp.size
            · exact hp.rel.blk_lt e1 e2
          · obtain ⟨cur, t, g1, g2, g3, g4, g5⟩ := hr.cells id l loc e e'
            refine ⟨cur, t, ?_, g2, g3, g4, fun i v ev => ?_⟩
            · rw [hkeep _ (Array.getElem?_eq_some_iff.1 g1).1]; exact g1
            · obtain ⟨x, h1, h2⟩ := g5 i v ev
              exact ⟨x, h1, hmono h2⟩
          · rcases hR with h | ⟨id2, blk2, loc2, e1, e2, e3⟩
            · exact hr.apart id blk loc e e' h
            · have h3 := hr.blk_lt e e'
              have h4 := hnew id2 blk2 loc2 e1 e2
              omega
          · rcases hb with hb | ⟨id, blk, loc, e1, e2, rfl⟩
            · exact .inl hb
            · exact .inr (.inl (hnew id blk loc e1 e2))
          · cases en with
            | returned v =>
              have hv : Rep w' R' ι' u0 v := ho
              have hz : HRel w' (fun _ => False) ι' h1.clean := by
                have q := hp.rel
                refine ⟨by simp only [Heap.clean, List.length_map]; exact q.len, q.none, fun _ h => h.elim, fun id l loc e1 e2 => ?_, fun id es loc e1 e2 => ?_, fun id id' blk blk' loc loc' e1 e2 => q.inj id id' blk blk' loc loc' (Heap.clean_get e1).1 (Heap.clean_get e2).1, fun _ _ _ _ _ h => h,
                  fun f hf id l loc hid e1 => q.low f hf id l loc hid (Heap.clean_get e1).1, q.floor, fun f hf id es loc hid e1 => q.lowM f hf id es loc hid (Heap.clean_get e1).1⟩
                · obtain ⟨e3, l', hl', hol⟩ := Heap.clean_get e1
                  cases hl'
                  obtain ⟨cur, t, g1, g2, g3, g4, g5⟩ := q.cells id l loc e3 e2
                  refine ⟨cur, t, g1, g2, g3, g4, fun i v ev => ?_⟩
                  obtain ⟨x, h1, h2⟩ := g5 i v ev
                  exact ⟨x, h1, h2.own (own_at hol ev)⟩
                · obtain ⟨_, l', hl', _⟩ := Heap.clean_get e1
                  cases hl'
              exact freeze_ok hz (fun _ h => h.elim) (fun id blk loc _ e1 e2 => .inr ⟨id, blk, loc, (Heap.clean_get e1).1, e2, rfl⟩) (fun id hid => absurd hid (Nat.not_lt_zero _)) k0 u0 u v hfz (hv.own hu0)
            | panicked ch => exact ho.elim
            | outgrown => exact ho.elim
        · cases e
      · cases e
    · rw [if_neg hff] at e; cases e
  · cases hg
end Go.Ab

namespace Go.Ab

/-- a function's plain answer at the empty heap -/
def Plain (D : OCtx) (f : Nat) (a : List V) (u : V) : Prop := V.atom u = true ∧ ∃ n h1, callFast D n f a Heap.empty = some (.ret u, h1)
/-- a function's answer at the empty heap, with the memory that it made -/
def Fresh (D : OCtx) (f : Nat) (a : List V) (u : V) : Prop := ∃ n h1 u0, callFast D n f a Heap.empty = some (.ret u0, h1) ∧ V.own u0 = true ∧ freeze h1.clean 0 fuelF u0 = some u

theorem callFast_le {D : OCtx} {n m f : Nat} {a : List V} {h : Heap} {r : Out × Heap} (hnm : n ≤ m) (e : callFast D n f a h = some r) : callFast D m f a h = some r :=
  callT_le (execT_le D hnm) e

theorem callFast_det {D : OCtx} {n m f : Nat} {a : List V} {h : Heap} {r r' : Out × Heap} (e : callFast D n f a h = some r) (e' : callFast D m f a h = some r') : r = r' := by
  have h1 := callFast_le (Nat.le_max_left n m) e
  have h2 := callFast_le (Nat.le_max_right n m) e'
  rw [h1] at h2
  exact Option.some.inj h2

open Classical in
noncomputable def plainTbl (D : OCtx) (f : Nat) (a : List V) : Option V := if h : ∃ u, Plain D f a u then some (Classical.choose h) else none
open Classical in
noncomputable def freshTbl (D : OCtx) (f : Nat) (a : List V) : Option V := if h : ∃ u, Fresh D f a u then some (Classical.choose h) else none

theorem plainTbl_eq {D : OCtx} {f : Nat} {a : List V} {u : V} (hu : Plain D f a u) : plainTbl D f a = some u := by
  unfold plainTbl
  have hx : ∃ u, Plain D f a u := ⟨u, hu⟩
  rw [dif_pos hx]
  obtain ⟨_, n, h1, e1⟩ := Classical.choose_spec hx
  obtain ⟨_, m, h2, e2⟩ := hu
  have := callFast_det e1 e2
  cases this
  rfl
theorem freshTbl_eq {D : OCtx} {f : Nat} {a : List V} {u : V} (hu : Fresh D f a u) : freshTbl D f a = some u := by
  unfold freshTbl
  have hx : ∃ u, Fresh D f a u := ⟨u, hu⟩
  rw [dif_pos hx]
  obtain ⟨n, h1, u1, e1, _, f1⟩ := Classical.choose_spec hx
  obtain ⟨m, h2, u2, e2, _, f2⟩ := hu
  have := callFast_det e1 e2
  cases this
  rw [f1] at f2
  exact f2

theorem plainT_ok {C : Ctx} {D : OCtx} (hD : DFine C D) : FrozenOk C (plainTbl D) := by
  intro f a u h
  unfold plainTbl at h
  split at h
  · rename_i hx
    cases h
    obtain ⟨h1, n, h2, e⟩ := Classical.choose_spec hx
    exact ⟨h1, n, h2, callFast_eq hD e⟩
  · cases h
theorem freshT_ok {C : Ctx} {D : OCtx} (hD : DFine C D) : FreshOk C (freshTbl D) := by
  intro f a u h
  unfold freshTbl at h
  split at h
  · rename_i hx
    cases h
    obtain ⟨n, h1, u0, e, h2, h3⟩ := Classical.choose_spec hx
    exact ⟨n, h1, u0, fuelF, callFast_eq hD e, h2, h3⟩
  · cases h

/-- the functions in pl answer with plain values, those in fs with memory of their own, as they do one layer below -/
noncomputable def layOrc (D : OCtx) (pl fs : Nat → Bool) (f : Nat) : Option (List V → Heap → Option (Out × Heap)) :=
  match frozenOrc pl (plainTbl D) f with
  | some g => some g
  | none => match frozenOrc fs (freshTbl D) f with
    | some g => some g
    | none => D.orc f
noncomputable def layer (D : OCtx) (pl fs : Nat → Bool) : OCtx := { code := D.code, tidy := D.tidy, orc := layOrc D pl fs }

theorem layOrc_ok {P : Program} {G : Nat → Option V} {D : OCtx} {pl fs : Nat → Bool} (hK : CodeOk P G (ctxOf P G D.tidy D.orc)) (hD : DFine (ctxOf P G D.tidy D.orc) D) (hG0 : ∀ g v, G g = some v → V.low 0 v = true) :
    ∀ f g, layOrc D pl fs f = some g → CallsOk P G (fun f' args h => if f' = f then g args h else none) := by
  intro f g h
  unfold layOrc at h
  split at h
  · rename_i g' hg
    cases h
    exact frozen_ok hK hG0 (plainT_ok hD) f g hg
  · split at h
    · rename_i g' hg
      cases h
      exact fresh_ok hK hG0 (freshT_ok hD) f g hg
    · exact hK.orc f g h
theorem layer_ok {P : Program} {G : Nat → Option V} {D : OCtx} {pl fs : Nat → Bool} (hK : CodeOk P G (ctxOf P G D.tidy D.orc)) (hD : DFine (ctxOf P G D.tidy D.orc) D) (hG0 : ∀ g v, G g = some v → V.low 0 v = true) :
    CodeOk P G (ctxOf P G (layer D pl fs).tidy (layer D pl fs).orc) := ctxOf_ok (layOrc_ok hK hD hG0)

/-- a call one layer up: with a plain answer -/
theorem CallW.plain {D : OCtx} {pl fs : Nat → Bool} {f : Nat} {args p : List V} {h : Heap} {u : V} {C : V → Heap → Prop} (hf : pl f = true) (hp : freezes h 0 fuelF args = some p) (hu : V.atom u = true)
    (w : CallW D f p Heap.empty fun v _ => v = u) (q : C u h) : CallW (layer D pl fs) f args h C := by
  obtain ⟨v, h1, ⟨n, e⟩, hv⟩ := w
  rw [hv] at e
  have hg : ∃ g, frozenOrc pl (plainTbl D) f = some g ∧ g args h = some (.ret u, h) := by
    unfold frozenOrc
    rw [hf]
    exact ⟨_, rfl, by simp only [hp, plainTbl_eq ⟨hu, n, h1, e⟩]⟩
  obtain ⟨g, h2, h3⟩ := hg
  exact CallW.orc (show layOrc D pl fs f = some g by unfold layOrc; rw [h2]) h3 q
/-- a call one layer up: with memory that is shut from then on -/
theorem CallW.fresh {D : OCtx} {pl fs : Nat → Bool} {f : Nat} {args p : List V} {h : Heap} {u : V} {C : V → Heap → Prop} (hn : pl f = false) (hf : fs f = true) (hp : freezes h 0 fuelF args = some p)
    (w : CallW D f p Heap.empty fun v h1 => V.own v = true ∧ freeze h1.clean 0 fuelF v = some u) (q : C u h) : CallW (layer D pl fs) f args h C := by
  obtain ⟨v, h1, ⟨n, e⟩, h2, h4⟩ := w
  have hg : ∃ g, frozenOrc fs (freshTbl D) f = some g ∧ g args h = some (.ret u, h) := by
    unfold frozenOrc
    rw [hf]
    exact ⟨_, rfl, by simp only [hp, freshTbl_eq ⟨n, h1, v, e, h2, h4⟩]⟩
  obtain ⟨g, h5, h6⟩ := hg
  have h7 : frozenOrc pl (plainTbl D) f = none := by unfold frozenOrc; rw [hn]
  exact CallW.orc (show layOrc D pl fs f = some g by unfold layOrc; rw [h7, h5]) h6 q
end Go.Ab

namespace Go.Ab
section
variable {D : OCtx} {cap : Nat} {m : Kn} {h : Heap} {K : Kn → Heap → Prop}

/-- a call behind which is looked again -/
theorem WS.callC {f : Nat} {xs xs' : List Opd} {d : Option Nat} {l : List Step} {ck : Nat × Option (Nat × Bool) × AOp} {chk : List (Nat × Option (Nat × Bool) × AOp)} {C : V → Heap → Prop} (e : gL (kop m) xs = some xs') (hx : dOk cap d = true) (he : CallW D f (xs'.map vev) h C)
    (w : ∀ v h', C v h' → CkOk (kput m d v) h' (ck :: chk) ∧ WS D cap l (kput m d v) h' K) : WS D cap (⟨d, .call f xs, none, ck :: chk⟩ :: l) m h K := fun fr hf => by
  have he' : CallW D f (xs.map (evT fr)) h C := by rw [hf.args e]; exact he
  obtain ⟨v, h', ⟨n1, e1⟩, hq⟩ := he'
  obtain ⟨hc, w1⟩ := w v h' hq
  have hput := hf.put hx v
  obtain ⟨st', ⟨n2, hn⟩, hk⟩ := w1 _ hput
  refine ⟨st', ⟨max n1 n2, ?_⟩, hk⟩
  show mapK (evT fr) xs (fun a => outT d ⟨fr, [], h⟩ (chkT (ck :: chk) (stepsT D (execT D (max n1 n2)) l)) (callT D (execT D (max n1 n2)) f a h)) = _
  rw [mapK_eq, callT_le (execT_le D (Nat.le_max_left n1 n2)) e1]
  show force v (fun v => chkT (ck :: chk) (stepsT D (execT D (max n1 n2)) l) (.mk (putT fr d v) [] h')) = _
  rw [force_eq]
  show Bool.rec (motive := fun _ => Option (Ex × StT)) none (stepsT D (execT D (max n1 n2)) l ⟨putT fr d v, [], h'⟩) (checksT (getT (putT fr d v)) (evT (putT fr d v)) h' (ck :: chk)) = _
  rw [hc.checks hput]
  exact stepsT_le (execT_le D (Nat.le_max_right n1 n2)) _ _ _ hn

/-- a call of a function value -/
theorem WS.callv {g g' : Opd} {f : Nat} {pre caps : List V} {xs xs' : List Opd} {d : Option Nat} {l : List Step} {C : V → Heap → Prop} (eg : kop m g = some g') (hg : vev g' = .fn f pre caps) (e : gL (kop m) xs = some xs') (hx : dOk cap d = true)
    (he : CallW D f (appL pre (appL (xs'.map vev) caps)) h C) (w : ∀ v h', C v h' → WS D cap l (kput m d v) h' K) : WS D cap (⟨d, .callv g xs, none, []⟩ :: l) m h K := fun fr hf => by
  have he' : CallW D f (appL pre (appL (xs.map (evT fr)) caps)) h C := by rw [hf.args e]; exact he
  have hgv : evT fr g = .fn f pre caps := (hf.opd eg).symm.trans hg
  obtain ⟨v, h', ⟨n1, e1⟩, hq⟩ := he'
  obtain ⟨st', ⟨n2, hn⟩, hk⟩ := w v h' hq _ (hf.put hx v)
  refine ⟨st', ⟨max n1 n2, ?_⟩, hk⟩
  show t_callv D (execT D (max n1 n2)) g xs d ⟨fr, [], h⟩ (stepsT D (execT D (max n1 n2)) l) = _
  unfold t_callv
  simp only [hgv]
  rw [mapK_eq, callT_le (execT_le D (Nat.le_max_left n1 n2)) e1]
  show force v (fun v => stepsT D (execT D (max n1 n2)) l (.mk (putT fr d v) [] h')) = _
  rw [force_eq]
  exact stepsT_le (execT_le D (Nat.le_max_right n1 n2)) _ _ _ hn
end

section
variable {D : OCtx} {pl fs : Nat → Bool} {cap : Nat} {m : Kn} {h : Heap} {K : Kn → Heap → Prop}
/-- a call one layer down, with a plain answer -/
theorem WS.plain {f : Nat} {xs xs' : List Opd} {d : Option Nat} {l : List Step} {p : List V} {u : V} (e : gL (kop m) xs = some xs') (hx : dOk cap d = true) (hf : pl f = true) (hp : freezes h 0 fuelF (xs'.map vev) = some p) (hu : V.atom u = true)
    (he : CallW D f p Heap.empty fun v _ => v = u) (w : WS (layer D pl fs) cap l (kput m d u) h K) : WS (layer D pl fs) cap (⟨d, .call f xs, none, []⟩ :: l) m h K :=
  WS.call (C := fun v h' => v = u ∧ h' = h) e hx (CallW.plain hf hp hu he ⟨rfl, rfl⟩) fun v h' hc => by obtain ⟨rfl, rfl⟩ := hc; exact w
theorem WS.plainC {f : Nat} {xs xs' : List Opd} {d : Option Nat} {l : List Step} {ck : Nat × Option (Nat × Bool) × AOp} {chk : List (Nat × Option (Nat × Bool) × AOp)} {p : List V} {u : V} (e : gL (kop m) xs = some xs') (hx : dOk cap d = true) (hf : pl f = true) (hp : freezes h 0 fuelF (xs'.map vev) = some p) (hu : V.atom u = true)
    (he : CallW D f p Heap.empty fun v _ => v = u) (hc : CkOk (kput m d u) h (ck :: chk)) (w : WS (layer D pl fs) cap l (kput m d u) h K) : WS (layer D pl fs) cap (⟨d, .call f xs, none, ck :: chk⟩ :: l) m h K :=
  WS.callC (C := fun v h' => v = u ∧ h' = h) e hx (CallW.plain hf hp hu he ⟨rfl, rfl⟩) fun v h' hc' => by obtain ⟨rfl, rfl⟩ := hc'; exact ⟨hc, w⟩
/-- a call one layer down, with memory that is shut from then on -/
theorem WS.fresh {f : Nat} {xs xs' : List Opd} {d : Option Nat} {l : List Step} {p : List V} {u : V} (e : gL (kop m) xs = some xs') (hx : dOk cap d = true) (hn : pl f = false) (hf : fs f = true) (hp : freezes h 0 fuelF (xs'.map vev) = some p)
    (he : CallW D f p Heap.empty fun v h1 => V.own v = true ∧ freeze h1.clean 0 fuelF v = some u) (w : WS (layer D pl fs) cap l (kput m d u) h K) : WS (layer D pl fs) cap (⟨d, .call f xs, none, []⟩ :: l) m h K :=
  WS.call (C := fun v h' => v = u ∧ h' = h) e hx (CallW.fresh hn hf hp he ⟨rfl, rfl⟩) fun v h' hc => by obtain ⟨rfl, rfl⟩ := hc; exact w
end
theorem o_load5 {h : Heap} {a b c d e : V} : Does (.load 5 true (.v (.fptr [a, b, c, d, e]))) h (.agg [a, b, c, d, e]) h := ⟨rfl⟩
theorem CallW.openE {D : OCtx} {f : Nat} {o : OFunc} {args : List V} {C : V → Heap → Prop} (ho : D.orc f = none) (hc : D.code f = some o) (ht : D.tidy f = false) (hn : Nat.beq (lenL args) o.np = true) (hl : Nat.ble (lenL args) 8 = true)
    (w : W D (capOfD o.dep) o.body (argsK 0 args) (hp Heap.empty []) (doneW o.results C)) : CallW D f args Heap.empty C := by
  rw [hp_nil] at w
  exact CallW.open ho hc ht hn hl w
theorem fine0 : Heap.empty.Fine := ⟨rfl, fun f m => by cases m⟩
def out1 (q : Option (Out × Heap)) : Option Out := q.map (·.1)
theorem evalW {D : OCtx} {n f : Nat} {a : List V} {h : Heap} {u : V} (e : out1 (callFast D n f a h) = some (.ret u)) : CallW D f a h fun v _ => v = u := by
  unfold out1 at e
  obtain ⟨⟨o, h'⟩, h1, h2⟩ := map_some e
  cases h2
  exact ⟨u, h', ⟨n, h1⟩, rfl⟩
/-- a call's answer with the memory that it made, as it reads -/
def outF (q : Option (Out × Heap)) : Option V := match q with
  | some (.ret v, h1) => (match V.own v with
    | true => freeze h1.clean 0 fuelF v
    | false => none)
  | _ => none
theorem evalF {D : OCtx} {n f : Nat} {a : List V} {u : V} (e : outF (callFast D n f a Heap.empty) = some u) : CallW D f a Heap.empty fun v h1 => V.own v = true ∧ freeze h1.clean 0 fuelF v = some u := by
  unfold outF at e
  split at e
  · rename_i v h1 hq
    split at e
    · rename_i ho
      exact ⟨v, h1, ⟨n, hq⟩, ho, e⟩
    · cases e
  · cases e
end Go.Ab

namespace Go.Ab

/-- what a table of facts must say -/
def Said (D : OCtx) (f : Nat) (e : List V → Option V) : Prop := ∀ a u, e a = some u → V.lows 0 a = true ∧ V.low 0 u = true ∧ CallW D f a Heap.empty fun v _ => v = u
/-- what a table of calls on frozen copies must say -/
def SaidF (D : OCtx) (f : Nat) (e : List V → Option V) : Prop := ∀ a u, e a = some u → V.atom u = true ∧ CallW D f a Heap.empty fun v _ => v = u
/-- tables of some functions -/
def rows : List (Nat × (List V → Option V)) → Nat → List V → Option V
  | [], _, _ => none
  | p :: r, f, a => match Nat.beq f p.1 with
    | true => p.2 a
    | false => rows r f a
def names : List (Nat × (List V → Option V)) → Nat → Bool
  | [], _ => false
  | p :: r, f => Nat.beq f p.1 || names r f
theorem rows_ok {T : Nat → List V → V → Prop} : ∀ {l : List (Nat × (List V → Option V))}, (∀ p ∈ l, ∀ a u, p.2 a = some u → T p.1 a u) → ∀ f a u, rows l f a = some u → T f a u
  | [], _, f, a, u, e => by cases e
  | p :: r, h, f, a, u, e => by
    unfold rows at e
    split at e
    · rename_i hb
      have := Nat.eq_of_beq_eq_true hb
      subst this
      exact h p (List.mem_cons_self ..) a u e
    · exact rows_ok (fun q hq => h q (List.mem_cons_of_mem _ hq)) f a u e
/-- a layer of facts -/
def over (D : OCtx) (l : List (Nat × (List V → Option V))) : OCtx := { D with orc := fun f => match factsOrc (names l) (rows l) f with
  | some g => some g
  | none => D.orc f }
/-- a layer of calls on frozen copies -/
def overF (D : OCtx) (l : List (Nat × (List V → Option V))) : OCtx := { D with orc := fun f => match frozenOrc (names l) (rows l) f with
  | some g => some g
  | none => D.orc f }
theorem over_ok {P : Program} {G : Nat → Option V} {D : OCtx} {l : List (Nat × (List V → Option V))} (hK : CodeOk P G (ctxOf P G D.tidy D.orc)) (hD : DFine (ctxOf P G D.tidy D.orc) D) (hG0 : ∀ g v, G g = some v → V.low 0 v = true)
    (h : ∀ p ∈ l, Said D p.1 p.2) : CodeOk P G (ctxOf P G (over D l).tidy (over D l).orc) := ctxOf_ok fun f g hg => by
  simp only [over] at hg
  split at hg
  · rename_i g' hg'
    cases hg
    refine facts_ok hK hG0 (fun f a u e => ?_) f g hg'
    obtain ⟨h1, h2, v, h', ⟨n, e1⟩, rfl⟩ := rows_ok (T := fun f a u => V.lows 0 a = true ∧ V.low 0 u = true ∧ CallW D f a Heap.empty fun v _ => v = u) h f a u e
    exact ⟨h1, h2, n, h', callFast_eq hD e1⟩
  · exact hK.orc f g hg
theorem overF_ok {P : Program} {G : Nat → Option V} {D : OCtx} {l : List (Nat × (List V → Option V))} (hK : CodeOk P G (ctxOf P G D.tidy D.orc)) (hD : DFine (ctxOf P G D.tidy D.orc) D) (hG0 : ∀ g v, G g = some v → V.low 0 v = true)
    (h : ∀ p ∈ l, SaidF D p.1 p.2) : CodeOk P G (ctxOf P G (overF D l).tidy (overF D l).orc) := ctxOf_ok fun f g hg => by
  simp only [overF] at hg
  split at hg
  · rename_i g' hg'
    cases hg
    refine frozen_ok hK hG0 (fun f a u e => ?_) f g hg'
    obtain ⟨h1, v, h', ⟨n, e1⟩, rfl⟩ := rows_ok (T := fun f a u => V.atom u = true ∧ CallW D f a Heap.empty fun v _ => v = u) h f a u e
    exact ⟨h1, n, h', callFast_eq hD e1⟩
  · exact hK.orc f g hg

/-- what a table of calls on frozen copies, with memory of their own, must say -/
def SaidN (D : OCtx) (f : Nat) (e : List V → Option V) : Prop := ∀ a u, e a = some u → CallW D f a Heap.empty fun v h1 => V.own v = true ∧ freeze h1.clean 0 fuelF v = some u
theorem overN_ok {P : Program} {G : Nat → Option V} {D : OCtx} {l : List (Nat × (List V → Option V))} (hK : CodeOk P G (ctxOf P G D.tidy D.orc)) (hD : DFine (ctxOf P G D.tidy D.orc) D) (hG0 : ∀ g v, G g = some v → V.low 0 v = true)
    (h : ∀ p ∈ l, SaidN D p.1 p.2) : CodeOk P G (ctxOf P G (overF D l).tidy (overF D l).orc) := ctxOf_ok fun f g hg => by
  simp only [overF] at hg
  split at hg
  · rename_i g' hg'
    cases hg
    refine fresh_ok hK hG0 (fun f a u e => ?_) f g hg'
    obtain ⟨v, h', ⟨n, e1⟩, h1, h2⟩ := rows_ok (T := fun f a u => CallW D f a Heap.empty fun v h1 => V.own v = true ∧ freeze h1.clean 0 fuelF v = some u) h f a u e
    exact ⟨n, h', v, fuelF, callFast_eq hD e1, h1, h2⟩
  · exact hK.orc f g hg

/-- a fact that is looked up -/
def FactIn (D : OCtx) (f : Nat) (a : List V) (u : V) : Prop := ∃ g, D.orc f = some g ∧ ∀ h, g a h = some (.ret u, h)
theorem FactIn.top {D : OCtx} {l : List (Nat × (List V → Option V))} {f : Nat} {a : List V} {u : V} (hn : names l f = true) (hr : rows l f a = some u) : FactIn (over D l) f a u := by
  have h1 : ∃ g, factsOrc (names l) (rows l) f = some g ∧ ∀ h, g a h = some (.ret u, h) := by
    unfold factsOrc
    rw [hn]
    exact ⟨_, rfl, fun h => by simp only [hr]⟩
  obtain ⟨g, h2, h3⟩ := h1
  exact ⟨g, by simp only [over, h2], h3⟩
theorem FactIn.under {D : OCtx} {l : List (Nat × (List V → Option V))} {f : Nat} {a : List V} {u : V} (hn : names l f = false) (h : FactIn D f a u) : FactIn (over D l) f a u := by
  obtain ⟨g, h1, h2⟩ := h
  exact ⟨g, by simp only [over, factsOrc, hn, h1], h2⟩
theorem FactIn.pu {D : OCtx} {f : Nat} {a : List V} {u : V} (h : FactIn D f a u) : PuF D f a u := by
  obtain ⟨g, h1, h2⟩ := h
  exact PuF.orc h1 h2
end Go.Ab

namespace Go.Ab
open Go.ChangeShapes Go.WideShapes

theorem same_kept {w w' : World} (hk : ∀ b, b < w.heap.size → w'.heap[b]? = w.heap[b]?) {p : MemPlace} (hp : p.block < w.heap.size) : w.sameAt w' p := by
  cases p with
  | cell b off => exact cell_keep (hk b hp)
  | map b => exact hk b hp

section
variable {H : Type} {enc : TypeId × Value → H} {P : Program} {W W' : World}
theorem trodAll_carry {base : Nat} {spare : Nat → Bool} {held : Bool} : ∀ {ts : List TypeId} {vs : List Value} {ds : List (DataW H)} {ps : List MemPlace}, DataW.TrodAll enc P W base spare held ts vs ds ps → (∀ p ∈ ps, W.sameAt W' p) → DataW.TrodAll enc P W' base spare held ts vs ds ps
  | [], [], [], _, h, _ => h
  | _ :: _, _ :: _, _ :: _, _, ⟨p, q, ⟨n, h1⟩, h2, e⟩, hs => ⟨p, q, ⟨n, DataW.trod_carry n _ _ _ h1 fun x hx => hs x (by rw [e]; exact List.mem_append_left _ hx)⟩, trodAll_carry h2 (fun x hx => hs x (by rw [e]; exact List.mem_append_right _ hx)), e⟩
theorem trodAll_again (K : Kids P (· < P.types.size)) (hz : ∀ t e, t < P.types.size → P.underlying t = some (.slice e) → 0 < P.cellsOf e) (hk : ∀ b, b < W.heap.size → W'.heap[b]? = W.heap[b]?) {ts : List TypeId} {vs : List Value} {ds : List (DataW H)} {ps : List MemPlace} (hts : ∀ t ∈ ts, t < P.types.size)
    (h : DataW.TrodAll enc P W 0 (fun _ => true) true ts vs ds ps) : DataW.TrodAll enc P W' 0 (fun b => decide (b < W.heap.size)) true ts vs ds ps := by
  have hlt := DataW.TrodAll.lt h
  exact trodAll_carry (DataW.TrodAll.respare K hz hts h fun p hp => decide_eq_true (hlt p hp)) fun p hp => same_kept hk (hlt p hp)

/-- a list of whole numbers, as the machine sees it -/
def intsV (l : List Int) : List V := l.map (V.int .i64)
/-- the value of a slice of whole numbers that is shut -/
def IsInts (u : V) (l : List Int) : Prop := (u = .nilsl ∧ l = []) ∨ (u = .esl ∧ l = []) ∨ (u = .fsl (intsV l) none ∧ l ≠ [])
theorem IsInts.len {u : V} {l : List Int} (h : IsInts u l) : lenOf u = some l.length := by
  rcases h with ⟨rfl, rfl⟩ | ⟨rfl, rfl⟩ | ⟨rfl, _⟩ <;> simp [lenOf, intsV]
theorem IsInts.row {u : V} {l : List Int} {h0 : Heap} (h : IsInts u l) : h0.row 1 u = some (intsV l) := by
  rcases h with ⟨rfl, rfl⟩ | ⟨rfl, rfl⟩ | ⟨rfl, _⟩
  · rfl
  · rfl
  · have h1 : (intsV l).all (fun e => decide (e.cells.length = 1)) = true := by simp [intsV, List.all_map, Function.comp_def, V.cells]
    have h2 : ∀ l : List Int, (intsV l).flatMap V.cells = intsV l := fun l => by
      induction l with
      | nil => rfl
      | cons a r ih => show V.cells (.int .i64 a) ++ (intsV r).flatMap V.cells = _; rw [ih]; rfl
    simp only [Heap.row, h1, if_true, h2]
theorem o_lenI {u : V} {l : List Int} {h0 : Heap} (h : IsInts u l) : Does (.len 1 (.v u)) h0 (.int .i64 (l.length : Nat)) h0 := by
  refine ⟨?_⟩; rw [op1v]
  have hr := h.len
  rcases h with ⟨rfl, rfl⟩ | ⟨rfl, rfl⟩ | ⟨rfl, _⟩ <;> (simp only [op1, ev, hr, if_true]; rfl)
theorem o_iaddrI {u : V} {l : List Int} {h0 : Heap} {k : IntKind} {i : Int} (n : Nat) (h : IsInts u l) (hi : i = n) (hn : n < l.length) : Does (.iaddr 1 (.v u) (.v (.int k i))) h0 (.fptr [.int .i64 (l.getD n 0)]) h0 := by
  subst hi
  refine ⟨?_⟩; rw [op1v]
  rcases h with ⟨rfl, rfl⟩ | ⟨rfl, rfl⟩ | ⟨rfl, _⟩
  · simp at hn
  · simp at hn
  · have h2 : (intsV l)[n]? = some (.int .i64 (l.getD n 0)) := by simp [intsV, List.getD, List.getElem?_eq_getElem hn]
    simp only [op1, ev, idx_nat, h2, Option.bind_some]
    rfl
theorem o_and {a : Int} {h0 : Heap} : ∃ r : Int, 0 ≤ r ∧ r ≤ 1023 ∧ Does (.bin .and (.v (.int .i64 a)) (.v (.int .i64 1023))) h0 (.int .i64 r) h0 := by
  have e0 : (BitVec.ofInt 64 1023).toNat = 1023 := by decide
  have h1 : (BitVec.ofInt 64 a &&& BitVec.ofInt 64 1023).toNat ≤ 1023 := by
    rw [BitVec.toNat_and, e0]
    exact Nat.and_le_right
  refine ⟨((BitVec.ofInt 64 a &&& BitVec.ofInt 64 1023).toNat : Nat), by omega, by omega, ⟨?_⟩⟩
  rw [op1v]
  have h2 : IntKind.wrap .i64 ((BitVec.ofInt 64 a &&& BitVec.ofInt 64 1023).toNat : Nat) = ((BitVec.ofInt 64 a &&& BitVec.ofInt 64 1023).toNat : Nat) := wrap_i64 (by omega) (by omega)
  show (((evS (Op.intBits .and .i64 a 1023)).bind ofLit).map fun v => (v, h0)) = _
  show (((evS (pure (Value.int .i64 (IntKind.wrap .i64 ((BitVec.ofInt 64 a &&& BitVec.ofInt 64 1023).toNat : Nat))) : Sem Value)).bind ofLit).map fun v => (v, h0)) = _
  rw [h2]
  rfl
theorem o_shr10 {a : Int} {h0 : Heap} : Does (.bin .shr (.v (.int .i64 a)) (.v (.int .u64 10))) h0 (.int .i64 (a.fdiv 1024)) h0 := ⟨by rw [op1v]; rfl⟩
/-- a slice that is shut -/
def IsFz (u : V) (rows : List V) : Prop := (u = .nilsl ∧ rows = []) ∨ (u = .esl ∧ rows = []) ∨ (∃ c, u = .fsl rows c)
theorem o_lenZ {u : V} {rows : List V} {h0 : Heap} (h : IsFz u rows) : Does (.len 1 (.v u)) h0 (.int .i64 (rows.length : Nat)) h0 := by
  refine ⟨?_⟩; rw [op1v]
  rcases h with ⟨rfl, rfl⟩ | ⟨rfl, rfl⟩ | ⟨c, rfl⟩ <;> rfl
theorem o_iaddrZ {u r : V} {rows : List V} {h0 : Heap} {sz : Nat} {k : IntKind} {i : Int} (n : Nat) (h : IsFz u rows) (hi : i = n) (hr : rows[n]? = some r) (hc : r.cells.length = sz) : Does (.iaddr sz (.v u) (.v (.int k i))) h0 (.fptr r.cells) h0 := by
  subst hi
  refine ⟨?_⟩; rw [op1v]
  rcases h with ⟨rfl, rfl⟩ | ⟨rfl, rfl⟩ | ⟨c, rfl⟩
  · simp at hr
  · simp at hr
  · simp only [op1, ev, idx_nat, hr, Option.bind_some, hc, if_true]
theorem IsInts.fz {u : V} {l : List Int} (h : IsInts u l) : IsFz u (intsV l) := by
  rcases h with ⟨rfl, rfl⟩ | ⟨rfl, rfl⟩ | ⟨rfl, _⟩
  · exact .inl ⟨rfl, rfl⟩
  · exact .inr (.inl ⟨rfl, rfl⟩)
  · exact .inr (.inr ⟨_, rfl⟩)
/-- a parameter that is a slice of whole numbers -/
theorem open_intsl {S : List TypeId} (hS : ∀ t ∈ S, goodIn P S t = true) {t e : TypeId} (ht : t ∈ S) (hu : P.underlying t = some (.slice e)) (he : P.underlying e = some (.int .i64)) (hc : P.cellsOf e = 1) {v : Value} {d : DataW H} {ps : List MemPlace}
    (hval : Value.okWide P W .any 0 t v) (hd : DataW.Trod enc P W 0 (fun _ => true) true t v d ps) :
    ∃ u l, IsInts u l ∧ (∀ z ∈ l, (Lit.int .i64 z).wf = true) ∧ l.length ≤ maxLen ∧ Rep W (fun b => b < W.heap.size) (fun _ => none) u v := by
  obtain ⟨n, u, hf, hr⟩ := open_slice hS ht hu hval hd
  cases n with
  | zero => exact hf.elim
  | succ n =>
    unfold Fits at hf
    rw [hu] at hf
    simp only [List.cons.injEq, and_true] at hf
    rcases hf with rfl | rfl | ⟨rows, rfl, hne, hl, hrows⟩
    · exact ⟨_, [], .inl ⟨rfl, rfl⟩, (fun z h => by cases h), Nat.zero_le _, hr⟩
    · exact ⟨_, [], .inr (.inl ⟨rfl, rfl⟩), (fun z h => by cases h), Nat.zero_le _, hr⟩
    · have key : ∀ rows : List (List V), (∀ r ∈ rows, r.length = P.cellsOf e ∧ Fits P n e r) → ∃ l : List Int, rows.map (elemOf (P.cellsOf e)) = intsV l ∧ l.length = rows.length ∧ ∀ z ∈ l, (Lit.int .i64 z).wf = true := by
        intro rows
        induction rows with
        | nil => exact fun _ => ⟨[], rfl, rfl, fun z h => by cases h⟩
        | cons r rows ih =>
          intro h
          obtain ⟨l, h1, h2, h3⟩ := ih fun q hq => h q (List.mem_cons_of_mem _ hq)
          have hr := (h r List.mem_cons_self).2
          cases n with
          | zero => exact hr.elim
          | succ n =>
            unfold Fits at hr
            rw [he] at hr
            obtain ⟨z, rfl, hz⟩ := hr
            refine ⟨z :: l, ?_, by simp [h2], fun y hy => ?_⟩
            · simp only [List.map_cons, h1]
              rw [hc]
              rfl
            · rcases List.mem_cons.1 hy with rfl | hy
              · exact hz
              · exact h3 y hy
      obtain ⟨l, h1, h2, h3⟩ := key rows hrows
      rw [h1] at hr
      exact ⟨_, l, .inr (.inr ⟨rfl, fun h => hne (by rw [h] at h2; exact List.length_eq_zero_iff.1 h2.symm)⟩), h3, by omega, hr⟩
end

/-! reading out of memory, piece by piece -/

section
variable {h : Heap} {n k : Nat}
theorem frz_int {j : IntKind} {z : Int} : Go.Ab.freeze h n (k + 1) (.int j z) = some (.int j z) := rfl
theorem frz_bool {b : Bool} : Go.Ab.freeze h n (k + 1) (.bool b) = some (.bool b) := rfl
theorem frz_str {s : List Nat} : Go.Ab.freeze h n (k + 1) (.str s) = some (.str s) := rfl
theorem frz_cpx {j : FloatKind} {a b : Nat} : Go.Ab.freeze h n (k + 1) (.cpx j a b) = some (.cpx j a b) := rfl
theorem frz_nilsl : Go.Ab.freeze h n (k + 1) .nilsl = some .nilsl := rfl
theorem frz_esl : Go.Ab.freeze h n (k + 1) .esl = some .esl := rfl
theorem frz_fsl {es : List V} {c : Option Nat} : Go.Ab.freeze h n (k + 1) (.fsl es c) = some (.fsl es c) := rfl
theorem frz_agg {cs : List V} : Go.Ab.freeze h n (k + 1) (.agg cs) = (freezes h n k cs).map .agg := rfl
theorem frz_tup {cs : List V} : Go.Ab.freeze h n (k + 1) (.tup cs) = (freezes h n k cs).map .tup := rfl
theorem frzs_nil : freezes h n k [] = some [] := by cases k <;> rfl
theorem frzs_cons {v : V} {r : List V} : freezes h n (k + 1) (v :: r) = (Go.Ab.freeze h n k v).bind fun v' => (freezes h n k r).map (v' :: ·) := rfl
end
theorem frz_msl {h0 : Heap} {bs : List (Option (List V))} {sz len k fuel : Nat} {l es : List V} (hb : bget bs k = some l) (hz : 0 < sz) (hl : len * sz ≤ l.length) (he : freezes (hp h0 bs) 0 fuel (elems sz len l) = some es) (hlo : V.lows 0 es = true) :
    Go.Ab.freeze (hp h0 bs) 0 (fuel + 1) (.msl (h0.next + k) sz 0 len none) = some (.fsl es none) := by
  have h3 : (0 + len) * sz ≤ l.length := by simpa using hl
  have h6 : l.drop (0 * sz) = l := by simp
  simp only [Go.Ab.freeze, Nat.not_lt_zero, if_false, hp_cells, hb, h3, decide_true, hz, Bool.and_self, if_true, h6, he, Option.bind_some, hlo]
theorem hload_of {bs : List (Option (List V))} {k off : Nat} {l : List V} {v : V} (e : bget bs k = some l) (d : (l.drop off).head? = some v) : hload bs k off = some v := by
  simp only [hload, e, Option.bind_some, d]
end Go.Ab

namespace Go.Ab

def kset : Kn → Nat → V → Kn
  | [], i, v => [(i, v)]
  | (j, u) :: r, i, v => match Nat.beq j i with
    | true => (i, v) :: r
    | false => (j, u) :: kset r i v
def kputS (m : Kn) (d : Option Nat) (v : V) : Kn :=
  match d with
  | some i => kset m i v
  | none => m

theorem kset_get (i : Nat) (v : V) (n : Nat) : ∀ m : Kn, (kset m i v).get n = if i = n then some v else m.get n
  | [] => get_cons i v [] n
  | (j, u) :: r => by
    unfold kset
    split
    · rename_i hb
      have := Nat.eq_of_beq_eq_true hb
      subst this
      rw [get_cons, get_cons]
      by_cases h : j = n <;> simp [h]
    · rename_i hb
      have hne : j ≠ i := Nat.ne_of_beq_eq_false hb
      rw [get_cons, get_cons, kset_get i v n r]
      by_cases h : j = n
      · subst h
        simp [Ne.symm hne]
      · simp [h]
theorem Has.putS {fr : Fr} {cap : Nat} {m : Kn} (h : Has fr cap m) {d : Option Nat} (hd : dOk cap d = true) (v : V) : Has (putT fr d v) cap (kputS m d v) := by
  have h1 := h.put hd v
  refine ⟨h1.size, fun i u e => h1.kn i u ?_⟩
  cases d with
  | none => exact e
  | some j =>
    simp only [kputS, kset_get] at e
    simp only [kput, get_cons]
    exact e

noncomputable def wantK (m : Kn) : Option (Nat × Bool) → Option Bool
  | none => some true
  | some (t, b) => match m.get t with
    | some (.bool c) => some (c == b)
    | some .undef => none
    | none => none
    | some _ => some false
noncomputable def checkK (m : Kn) (h : Heap) : List (Nat × Option (Nat × Bool) × AOp) → Bool
  | [] => true
  | (d, g, o) :: r => match (match wantK m g with
    | some true => (match mapO (kop m) o with
      | some o' => (match opF o' vev h with
        | some (v, _) => (match m.get d with
          | some u => V.beq v u
          | none => false)
        | none => false)
      | none => false)
    | some false => true
    | none => false) with
    | true => checkK m h r
    | false => false
def outK : Option (Out × Heap) → Option (V × Heap)
  | some (.ret v, h) => some (v, h)
  | _ => none

section
variable (D : OCtx) (N cap : Nat)
noncomputable def doK (o : AOp) (m : Kn) (h : Heap) : Option (V × Heap) :=
  match o with
  | .call f xs => match gL (kop m) xs with
    | some xs' => outK (callFast D N f (xs'.map vev) h)
    | none => none
  | .callv g xs => match kop m g with
    | some g' => match gL (kop m) xs with
      | some xs' => match vev g' with
        | .fn f pre caps => outK (callFast D N f (appL pre (appL (xs'.map vev) caps)) h)
        | _ => none
      | none => none
    | none => none
  | .panic _ | .defer _ _ | .recover => none
  | o => match mapO (kop m) o with
    | some o' => opF o' vev h
    | none => none
noncomputable def stepsK : List Step → Kn → Heap → Option (Kn × Heap)
  | [], m, h => some (m, h)
  | s :: l, m, h => match dOk cap s.dst with
    | false => none
    | true => match wantK m s.guard with
      | some true => (match doK D N s.op m h with
        | some (v, h') => force v fun v => (match checkK (kputS m s.dst v) h' s.chk with
          | true => stepsK l (kputS m s.dst v) h'
          | false => none)
        | none => none)
      | some false => (match checkK (kputS m s.dst (.tup [])) h s.chk with
        | true => stepsK l (kputS m s.dst (.tup [])) h
        | false => none)
      | none => none
noncomputable def codeK (self : ACode → Kn → Heap → Option (Ex × Kn × Heap)) (c : ACode) (m : Kn) (h : Heap) : Option (Ex × Kn × Heap) :=
  match c with
  | .skip | .label _ => some (.nrm, m, h)
  | .region l => (match stepsK D N cap l m h with
    | some (m', h') => some (.nrm, m', h')
    | none => none)
  | .rregion _ => none
  | .seq a b => (match self a m h with
    | some (.nrm, m', h') => self b m' h'
    | e => e)
  | .cond c a b => (match kop m c with
    | some x => (match vev x with
      | .bool true => self a m h
      | .bool false => self b m h
      | _ => none)
    | none => none)
  | .block i c => (match self c m h with
    | some (.exit j, m', h') => (match Nat.beq j i with
      | true => some (.nrm, m', h')
      | false => some (.exit j, m', h'))
    | e => e)
  | .loop c => (match self c m h with
    | some (.nrm, m', h') => self (.loop c) m' h'
    | e => e)
  | .exit i => some (.exit i, m, h)
  | .scope c => self (.inscope c c) m h
  | .inscope r c => (match self r m h with
    | some (.goto l, m', h') => (match findLabel c l with
      | some rest => self (.inscope rest c) m' h'
      | none => some (.goto l, m', h'))
    | e => e)
  | .goto l => some (.goto l, m, h)
  | .ret => some (.ret, m, h)
noncomputable def execK (n : Nat) : ACode → Kn → Heap → Option (Ex × Kn × Heap) :=
  Nat.rec (motive := fun _ => ACode → Kn → Heap → Option (Ex × Kn × Heap)) (fun _ _ _ => none) (fun _ self => codeK D N cap self) n
end

section
variable {D : OCtx} {N cap : Nat}
theorem chkT_yes {l : List (Nat × Option (Nat × Bool) × AOp)} {k : StT → Option (Ex × StT)} {st : StT} (h : checksT (getT st.fr) (evT st.fr) st.h l = true) : chkT l k st = k st := by
  cases l with
  | nil => rfl
  | cons x l =>
    show Bool.rec (motive := fun _ => Option (Ex × StT)) none (k st) (checksT (getT st.fr) (evT st.fr) st.h (x :: l)) = _
    rw [h]
theorem wantK_ok {fr : Fr} {m : Kn} (hf : Has fr cap m) {g : Option (Nat × Bool)} {b : Bool} (e : wantK m g = some b) : wantedE (getT fr) g = some b := by
  cases g with
  | none => exact e
  | some q =>
    obtain ⟨t, c⟩ := q
    unfold wantK at e
    unfold wantedE
    simp only at e ⊢
    cases hg : m.get t with
    | none => rw [hg] at e; cases e
    | some v =>
      rw [(hf.kn t v hg).2]
      rw [hg] at e
      cases v <;> first | exact e | cases e
theorem checkK_ok {fr : Fr} {m : Kn} (hf : Has fr cap m) {h : Heap} : ∀ {l : List (Nat × Option (Nat × Bool) × AOp)}, checkK m h l = true → checksT (getT fr) (evT fr) h l = true
  | [], _ => rfl
  | (d, g, o) :: r, e => by
    unfold checkK at e
    split at e
    · rename_i hx
      have ih := checkK_ok hf e
      unfold checksT
      rw [ih, Bool.and_true]
      split at hx
      · rename_i hw
        rw [wantK_ok hf hw]
        split at hx
        · rename_i o' ho
          split at hx
          · rename_i v h2 hv
            split at hx
            · rename_i u hu
              rw [← hf.op h ho, hv, (hf.kn d u hu).2]
              exact hx
            · cases hx
          · cases hx
        · cases hx
      · rename_i hw
        rw [wantK_ok hf hw]
      · cases hx
    · cases e
theorem guardT_of {fr : Fr} {g : Option (Nat × Bool)} {h : Heap} {y n : Option (Ex × StT)} {b : Bool} (e : wantedE (getT fr) g = some b) : guardT g ⟨fr, [], h⟩ y n = cond b y n := by
  cases g with
  | none => cases e; rfl
  | some q =>
    obtain ⟨t, c⟩ := q
    unfold wantedE at e
    simp only at e
    cases hv : getT fr t with
    | bool d => rw [hv] at e; cases e; simp only [guardT, hv]; cases d <;> cases c <;> rfl
    | undef => rw [hv] at e; cases e
    | _ => rw [hv] at e; cases e; simp only [guardT, hv]; rfl
theorem doK_ok {fr : Fr} {m : Kn} (hf : Has fr cap m) {o : AOp} {h h1 : Heap} {v : V} (e : doK D N o m h = some (v, h1)) {n : Nat} (hn : N ≤ n) (dst : Option Nat) (k : StT → Option (Ex × StT)) : doT D (execT D n) o dst ⟨fr, [], h⟩ k = k ⟨putT fr dst v, [], h1⟩ := by
  have callS : ∀ {f : Nat} {args : List V}, outK (callFast D N f args h) = some (v, h1) → outT dst ⟨fr, [], h⟩ k (callT D (execT D n) f args h) = k ⟨putT fr dst v, [], h1⟩ := by
    intro f args e
    cases hc : callFast D N f args h with
    | none => rw [hc] at e; cases e
    | some q =>
      obtain ⟨out, h2⟩ := q
      rw [hc] at e
      cases out with
      | pan u => cases e
      | ret u =>
        cases e
        have hc' : callT D (execT D n) f args h = some (.ret v, h1) := callT_le (execT_le D hn) hc
        rw [hc']
        show force v (fun v => k (.mk (putT fr dst v) [] h1)) = _
        rw [force_eq]
  have near : ∀ {o : AOp}, o.far = false → o.isRecover = false → (match mapO (kop m) o with
      | some o' => opF o' vev h
      | none => none) = some (v, h1) → doT D (execT D n) o dst ⟨fr, [], h⟩ k = k ⟨putT fr dst v, [], h1⟩ := by
    intro o h2 h3 e
    cases hm : mapO (kop m) o with
    | none => rw [hm] at e; cases e
    | some o' =>
      rw [hm] at e
      simp only at e
      rw [doT_near _ _ h2 h3]
      have h4 : opF o (evT fr) h = some (v, h1) := by rw [← hf.op h hm]; exact e
      simp only [nearT, h4, force_eq]
  cases o with
  | call f xs =>
    simp only [doK] at e
    cases hx : gL (kop m) xs with
    | none => rw [hx] at e; cases e
    | some xs' =>
      rw [hx] at e
      simp only at e
      show mapK (evT fr) xs (fun l => outT dst ⟨fr, [], h⟩ k (callT D (execT D n) f l h)) = _
      rw [mapK_eq, hf.args hx]
      exact callS e
  | callv g xs =>
    simp only [doK] at e
    cases hg : kop m g with
    | none => rw [hg] at e; cases e
    | some g' =>
      rw [hg] at e
      simp only at e
      cases hx : gL (kop m) xs with
      | none => rw [hx] at e; cases e
      | some xs' =>
        rw [hx] at e
        simp only at e
        have hgv := hf.opd hg
        show t_callv D (execT D n) g xs dst ⟨fr, [], h⟩ k = _
        unfold t_callv
        simp only [← hgv]
        split at e
        · rename_i f pre caps hv
          rw [hv]
          simp only
          rw [mapK_eq, hf.args hx]
          exact callS e
        · cases e
  | panic _ => cases e
  | defer _ _ => cases e
  | recover => cases e
  | _ => exact near rfl rfl e

theorem stepsK_ok : ∀ {l : List Step} {m m' : Kn} {h h' : Heap}, stepsK D N cap l m h = some (m', h') → ∀ fr, Has fr cap m → ∃ fr', Has fr' cap m' ∧ ∀ n, N ≤ n → stepsT D (execT D n) l ⟨fr, [], h⟩ = some (.nrm, ⟨fr', [], h'⟩)
  | [], m, m', h, h', e, fr, hf => by cases e; exact ⟨fr, hf, fun n _ => rfl⟩
  | ⟨dst, op, guard, chk⟩ :: l, m, m', h, h', e, fr, hf => by
    unfold stepsK at e
    simp only at e
    split at e
    · cases e
    · rename_i hd
      have unf : ∀ n, stepsT D (execT D n) (⟨dst, op, guard, chk⟩ :: l) ⟨fr, [], h⟩ = guardT guard ⟨fr, [], h⟩ (doT D (execT D n) op dst ⟨fr, [], h⟩ (chkT chk (stepsT D (execT D n) l))) (chkT chk (stepsT D (execT D n) l) (.mk (putT fr dst (.tup [])) [] h)) := fun n => by cases guard <;> rfl
      split at e
      · rename_i hw
        split at e
        · rename_i v h1 hv
          rw [force_eq] at e
          split at e
          · rename_i hc
            have hput := hf.putS hd v
            obtain ⟨fr', h2, h3⟩ := stepsK_ok e _ hput
            refine ⟨fr', h2, fun n hn => ?_⟩
            rw [unf, guardT_of (wantK_ok hf hw), cond_true]
            rw [doK_ok hf hv hn, chkT_yes (checkK_ok hput hc)]
            exact h3 n hn
          · cases e
        · cases e
      · rename_i hw
        split at e
        · rename_i hc
          have hput := hf.putS hd (.tup [])
          obtain ⟨fr', h2, h3⟩ := stepsK_ok e _ hput
          refine ⟨fr', h2, fun n hn => ?_⟩
          rw [unf, guardT_of (wantK_ok hf hw), cond_false]
          rw [chkT_yes (checkK_ok hput hc)]
          exact h3 n hn
        · cases e
      · cases e

theorem execK_ok : ∀ (n : Nat) (c : ACode) {m m' : Kn} {h h' : Heap} {ex : Ex}, execK D N cap n c m h = some (ex, m', h') → ∀ fr, Has fr cap m → ∃ fr', Has fr' cap m' ∧ Runs D c ⟨fr, [], h⟩ ex ⟨fr', [], h'⟩
  | 0, _, _, _, _, _, _, e, _, _ => by cases e
  | n + 1, c, m, m', h, h', ex, e, fr, hf => by
    have ih := execK_ok n
    have e0 : codeK D N cap (execK D N cap n) c m h = some (ex, m', h') := e
    clear e
    cases c with
    | skip => cases e0; exact ⟨fr, hf, Runs.skip⟩
    | label l => cases e0; exact ⟨fr, hf, Runs.label⟩
    | exit i => cases e0; exact ⟨fr, hf, Runs.exit⟩
    | goto l => cases e0; exact ⟨fr, hf, Runs.goto⟩
    | ret => cases e0; exact ⟨fr, hf, Runs.ret⟩
    | rregion l => cases e0
    | region l =>
      simp only [codeK] at e0
      split at e0
      · rename_i m1 h1 hs
        cases e0
        obtain ⟨fr', h2, h3⟩ := stepsK_ok hs fr hf
        exact ⟨fr', h2, Runs.region ⟨N, h3 N (Nat.le_refl _)⟩ (by simp)⟩
      · cases e0
    | seq a b =>
      simp only [codeK] at e0
      split at e0
      · rename_i m1 h1 ha
        obtain ⟨fr1, h2, h3⟩ := ih a ha fr hf
        obtain ⟨fr2, h4, h5⟩ := ih b e0 fr1 h2
        exact ⟨fr2, h4, h3.seq h5⟩
      · rename_i hne
        obtain ⟨fr1, h2, h3⟩ := ih a e0 fr hf
        exact ⟨fr1, h2, h3.seq_stop fun hx => hne m' h' (by rw [e0, hx])⟩
    | cond x a b =>
      simp only [codeK] at e0
      split at e0
      · rename_i x' hx
        have hv := hf.opd hx
        split at e0
        · rename_i hb
          obtain ⟨fr1, h2, h3⟩ := ih a e0 fr hf
          exact ⟨fr1, h2, h3.yes (by show evT fr x = _; rw [← hv, hb])⟩
        · rename_i hb
          obtain ⟨fr1, h2, h3⟩ := ih b e0 fr hf
          exact ⟨fr1, h2, h3.no (by show evT fr x = _; rw [← hv, hb])⟩
        · cases e0
      · cases e0
    | block i a =>
      simp only [codeK] at e0
      split at e0
      · rename_i j m1 h1 ha
        obtain ⟨fr1, h2, h3⟩ := ih a ha fr hf
        split at e0
        · rename_i hb
          cases e0
          have := Nat.eq_of_beq_eq_true hb
          subst this
          exact ⟨fr1, h2, h3.block_exit⟩
        · rename_i hb
          cases e0
          exact ⟨fr1, h2, h3.block_pass hb⟩
      · rename_i hne
        obtain ⟨fr1, h2, h3⟩ := ih a e0 fr hf
        exact ⟨fr1, h2, h3.block fun j hx => hne j m' h' (by rw [e0, hx])⟩
    | loop a =>
      simp only [codeK] at e0
      split at e0
      · rename_i m1 h1 ha
        obtain ⟨fr1, h2, h3⟩ := ih a ha fr hf
        obtain ⟨fr2, h4, h5⟩ := ih (.loop a) e0 fr1 h2
        exact ⟨fr2, h4, h3.loop h5⟩
      · rename_i hne
        obtain ⟨fr1, h2, h3⟩ := ih a e0 fr hf
        exact ⟨fr1, h2, h3.loop_stop fun hx => hne m' h' (by rw [e0, hx])⟩
    | scope a =>
      obtain ⟨fr1, h2, h3⟩ := ih (.inscope a a) e0 fr hf
      exact ⟨fr1, h2, h3.scope⟩
    | inscope r a =>
      simp only [codeK] at e0
      split at e0
      · rename_i l m1 h1 hr
        obtain ⟨fr1, h2, h3⟩ := ih r hr fr hf
        split at e0
        · rename_i rest hl
          obtain ⟨fr2, h4, h5⟩ := ih (.inscope rest a) e0 fr1 h2
          exact ⟨fr2, h4, h3.inscope_goto hl h5⟩
        · rename_i hl
          cases e0
          obtain ⟨k, hk⟩ := h3
          refine ⟨fr1, h2, k + 1, ?_⟩
          show (match execT D k r ⟨fr, [], h⟩ with
            | some (.goto l, st') => match findLabel a l with
              | some rest => execT D k (.inscope rest a) st'
              | none => some (.goto l, st')
            | e => e) = _
          rw [hk]
          simp only [hl]
      · rename_i hne
        obtain ⟨fr1, h2, h3⟩ := ih r e0 fr hf
        exact ⟨fr1, h2, h3.inscope fun j hx => hne j m' h' (by rw [e0, hx])⟩

/-! ### evaluated pieces of a walk -/

variable {a b c : ACode} {m : Kn} {h : Heap} {Q : Ex → Kn → Heap → Prop}
theorem W.run (n : Nat) {ex : Ex} {m' : Kn} {h' : Heap} (e : execK D N cap n c m h = some (ex, m', h')) (q : Q ex m' h') : W D cap c m h Q := fun fr hf => by
  obtain ⟨fr', h1, h2⟩ := execK_ok n c e fr hf
  exact ⟨ex, _, h2, rfl, m', h1, q⟩
/-- what is looked at behind a piece -/
def lookK (ts : List Nat) (bs : List Nat) : Option (Ex × Kn × Heap) → Option (List (Option V) × List (Option (List V)))
  | some (.nrm, m, h) => some (ts.map m.get, bs.map h.cellsOf)
  | _ => none
theorem look_sup {m : Kn} : ∀ {ts : List Nat} {vs : List V}, ts.map m.get = vs.map some → Sup m (ts.zip vs)
  | [], _, _ => trivial
  | _ :: _, [], _ => trivial
  | t :: ts, v :: vs, e => by
    simp only [List.map_cons, List.cons.injEq] at e
    exact ⟨e.1, look_sup e.2⟩
/-- a piece is evaluated, and some temporaries and blocks are looked at -/
theorem W.look (N n : Nat) (ts bs : List Nat) {vs : List V} {cs : List (Option (List V))} (e : lookK ts bs (execK D N cap n a m h) = some (vs.map some, cs)) (w : ∀ h', bs.map h'.cellsOf = cs → W D cap b (ts.zip vs) h' Q) : W D cap (.seq a b) m h Q := by
  unfold lookK at e
  split at e
  · rename_i m' h' hx
    simp only [Option.some.injEq, Prod.mk.injEq] at e
    exact W.seq (W.run n hx ((w h' e.2).sup (look_sup e.1)))
  · cases e
theorem Runs.assoc {st st' : StT} {ex : Ex} (r : Runs D (.seq (.seq a b) c) st ex st') : Runs D (.seq a (.seq b c)) st ex st' := by
  obtain ⟨n, e⟩ := r
  cases n with
  | zero => cases e
  | succ n =>
    have e1 : (match execT D n (.seq a b) st with
      | some (.nrm, st') => execT D n c st'
      | e => e) = some (ex, st') := e
    cases n with
    | zero => cases e1
    | succ n =>
      have e2 : execT D (n + 1) (.seq a b) st = (match execT D n a st with
        | some (.nrm, st') => execT D n b st'
        | e => e) := rfl
      rw [e2] at e1
      cases ha : execT D n a st with
      | none => rw [ha] at e1; cases e1
      | some q =>
        obtain ⟨x1, s1⟩ := q
        rw [ha] at e1
        cases x1 with
        | nrm =>
          simp only at e1
          cases hb : execT D n b s1 with
          | none => rw [hb] at e1; cases e1
          | some q =>
            obtain ⟨x2, s2⟩ := q
            rw [hb] at e1
            cases x2 with
            | nrm => exact Runs.seq ⟨n, ha⟩ (Runs.seq ⟨n, hb⟩ ⟨n + 1, e1⟩)
            | _ => cases e1; exact Runs.seq ⟨n, ha⟩ (Runs.seq_stop ⟨n, hb⟩ (by simp))
        | _ => cases e1; exact Runs.seq_stop ⟨n, ha⟩ (by simp)
theorem W.assoc (w : W D cap (.seq (.seq a b) c) m h Q) : W D cap (.seq a (.seq b c)) m h Q := fun fr hf => by
  obtain ⟨ex, st, h1, h2⟩ := w fr hf
  exact ⟨ex, st, h1.assoc, h2⟩
end
end Go.Ab

namespace Go.Ab

/-- what was looked at is still so; what was not done need not be -/
def CkG (m : Kn) (h : Heap) : List (Nat × Option (Nat × Bool) × AOp) → Prop
  | [] => True
  | (t, g, o) :: r => (wantK m g = some false ∨ (wantK m g = some true ∧ ∃ o' v h2, mapO (kop m) o = some o' ∧ Does o' h v h2 ∧ m.get t = some v)) ∧ CkG m h r

section
variable {D : OCtx} {cap : Nat} {m : Kn} {h : Heap} {K : Kn → Heap → Prop}
theorem CkG.checks {fr : Fr} (hf : Has fr cap m) : ∀ {l : List (Nat × Option (Nat × Bool) × AOp)}, CkG m h l → checksT (getT fr) (evT fr) h l = true
  | [], _ => rfl
  | (t, g, o) :: r, ⟨h1, hr⟩ => by
    have ih := CkG.checks hf hr
    unfold checksT
    rw [ih, Bool.and_true]
    rcases h1 with hw | ⟨hw, o', v, h2, e1, e2, e3⟩
    · rw [wantK_ok hf hw]
    · have h3 : opF o (evT fr) h = some (v, h2) := by rw [← hf.op h e1, e2.eq]
      rw [wantK_ok hf hw]
      simp only [h3, (hf.kn t v e3).2, beq_refl]

theorem stepsT_unf (n : Nat) (st : StT) (d : Option Nat) (op : AOp) (g : Option (Nat × Bool)) (ck : List (Nat × Option (Nat × Bool) × AOp)) (l : List Step) :
    stepsT D (execT D n) (⟨d, op, g, ck⟩ :: l) st = guardT g st (doT D (execT D n) op d st (chkT ck (stepsT D (execT D n) l))) (chkT ck (stepsT D (execT D n) l) (.mk (putT st.fr d (.tup [])) st.ds st.h)) := by cases g <;> rfl

/-- a condition that holds -/
theorem WS.guardC {t : Nat} {b : Bool} {op : AOp} {d : Option Nat} {l : List Step} {ck : List (Nat × Option (Nat × Bool) × AOp)} (e : m.get t = some (.bool b)) (w : WS D cap (⟨d, op, none, ck⟩ :: l) m h K) : WS D cap (⟨d, op, some (t, b), ck⟩ :: l) m h K := fun fr hf => by
  obtain ⟨st', ⟨n, hn⟩, hk⟩ := w fr hf
  refine ⟨st', ⟨n, ?_⟩, hk⟩
  rw [stepsT_unf] at hn ⊢
  have hw : wantedE (getT fr) (some (t, b)) = some true := wantK_ok hf (by unfold wantK; simp only [e]; cases b <;> rfl)
  rw [guardT_of hw]
  exact hn
/-- a condition that does not hold -/
theorem WS.passC {t : Nat} {b b' : Bool} {op : AOp} {d : Option Nat} {l : List Step} {ck : List (Nat × Option (Nat × Bool) × AOp)} (e : m.get t = some (.bool b')) (hb : b' = !b) (hx : dOk cap d = true) (hc : CkG (kput m d (.tup [])) h ck) (w : WS D cap l (kput m d (.tup [])) h K) :
    WS D cap (⟨d, op, some (t, b), ck⟩ :: l) m h K := fun fr hf => by
  have hput := hf.put hx (.tup [])
  obtain ⟨st', ⟨n, hn⟩, hk⟩ := w _ hput
  refine ⟨st', ⟨n, ?_⟩, hk⟩
  rw [stepsT_unf]
  have hw : wantedE (getT fr) (some (t, b)) = some false := wantK_ok hf (by unfold wantK; simp only [e]; subst hb; cases b <;> rfl)
  rw [guardT_of hw, cond_false, chkT_yes (hc.checks hput)]
  exact hn
/-- a call behind which is looked again, where conditions hold -/
theorem WS.callG {f : Nat} {xs xs' : List Opd} {d : Option Nat} {l : List Step} {ck : List (Nat × Option (Nat × Bool) × AOp)} {C : V → Heap → Prop} (e : gL (kop m) xs = some xs') (hx : dOk cap d = true) (he : CallW D f (xs'.map vev) h C)
    (w : ∀ v h', C v h' → CkG (kput m d v) h' ck ∧ WS D cap l (kput m d v) h' K) : WS D cap (⟨d, .call f xs, none, ck⟩ :: l) m h K := fun fr hf => by
  have he' : CallW D f (xs.map (evT fr)) h C := by rw [hf.args e]; exact he
  obtain ⟨v, h', ⟨n1, e1⟩, hq⟩ := he'
  obtain ⟨hc, w1⟩ := w v h' hq
  have hput := hf.put hx v
  obtain ⟨st', ⟨n2, hn⟩, hk⟩ := w1 _ hput
  refine ⟨st', ⟨max n1 n2, ?_⟩, hk⟩
  show mapK (evT fr) xs (fun a => outT d ⟨fr, [], h⟩ (chkT ck (stepsT D (execT D (max n1 n2)) l)) (callT D (execT D (max n1 n2)) f a h)) = _
  rw [mapK_eq, callT_le (execT_le D (Nat.le_max_left n1 n2)) e1]
  show force v (fun v => chkT ck (stepsT D (execT D (max n1 n2)) l) (.mk (putT fr d v) [] h')) = _
  rw [force_eq, chkT_yes (hc.checks hput)]
  exact stepsT_le (execT_le D (Nat.le_max_right n1 n2)) _ _ _ hn
theorem WS.puG {h0 : Heap} {bs : List (Option (List V))} (hf : h0.Fine) {f : Nat} {xs xs' : List Opd} {d : Option Nat} {l : List Step} {ck : List (Nat × Option (Nat × Bool) × AOp)} {u : V} (e : gL (kop m) xs = some xs') (hx : dOk cap d = true) (he : PuF D f (xs'.map vev) u)
    (hc : CkG (kput m d u) (hp h0 bs) ck) (w : WS D cap l (kput m d u) (hp h0 bs) K) : WS D cap (⟨d, .call f xs, none, ck⟩ :: l) m (hp h0 bs) K :=
  WS.callG e hx (he _ (hp_fine hf)) fun v h' hc' => by obtain ⟨rfl, rfl⟩ := hc'; exact ⟨hc, w⟩
end

section
variable {D : OCtx} {pl fs : Nat → Bool}
/-- what is known of a function is known one layer up -/
theorem PuF.up {f : Nat} {args p : List V} {u : V} (hf : pl f = true) (hp : ∀ h : Heap, freezes h 0 fuelF args = some p) (hu : V.atom u = true) (w : PuF D f p u) : PuF (layer D pl fs) f args u := fun h _ =>
  CallW.plain hf (hp h) hu ((w Heap.empty fine0).mono fun _ _ hc => hc.1) ⟨rfl, rfl⟩
end
/-- where a call leaves memory -/
noncomputable def heapOf (q : Option (Out × Heap)) : Heap := match q with
  | some (_, h) => h
  | none => Heap.empty
theorem evalH {D : OCtx} {n f : Nat} {a : List V} {h : Heap} {u : V} (e : out1 (callFast D n f a h) = some (.ret u)) : CallW D f a h fun v h' => v = u ∧ h' = heapOf (callFast D n f a h) := by
  unfold out1 at e
  obtain ⟨⟨o, h'⟩, h1, h2⟩ := map_some e
  cases h2
  exact ⟨u, h', ⟨n, h1⟩, rfl, by rw [h1]; rfl⟩
/-! slices that are being made, beside other blocks -/

/-- one element more: the blocks that are not the slice's are as they were -/
theorem app_all {h0 : Heap} (hf : h0.Fine) {bs : List (Option (List V))} {sz n bytes j : Nat} {v : V} {row c : List V} (hs : IsSl h0 bs sz v n row) (hj : bget bs j = some c) (hc : c.length = sz) (_ : 0 < sz) (hb : (n + 1) * bytes ≤ maxRow) :
    ∃ v' bs', Does (.app sz bytes (.v v) (.v (.msl (h0.next + j) sz 0 1 none))) (hp h0 bs) v' (hp h0 bs') ∧ IsSl h0 bs' sz v' (n + 1) (row ++ c) ∧ (∀ i l, bget bs i = some l → (∀ a b d e, v ≠ .msl (h0.next + i) a b d e) → bget bs' i = some l) ∧ (∀ i a b d e, v' = .msl (h0.next + i) a b d e → (∃ a' b' d' e', v = .msl (h0.next + i) a' b' d' e') ∨ bs.length ≤ i) ∧ bs.length ≤ bs'.length := by
  have hrow : (hp h0 bs).row sz (.msl (h0.next + j) sz 0 1 none) = some c := by
    rw [row_msl (n := 1) hj (by omega)]
    simp [← hc]
  have hmay : ∀ k vs, (hp h0 bs).mayPut (h0.next + k) vs = true := fun k vs => hp_may hf k vs
  have hmine : ∀ k, (hp h0 bs).mine (h0.next + k) = true := fun k => by
    simp only [Heap.mine, List.all_eq_true, decide_eq_true_eq]
    exact fun f m => Nat.le_trans (hf.fl f m) (Nat.le_add_right _ _)
  obtain ⟨h1, ⟨rfl, rfl⟩ | ⟨k, l, rfl, e2, e3, e4⟩⟩ := hs
  · refine ⟨.msl (h0.next + bs.length) sz 0 1 none, badd bs c, ⟨?_⟩, ⟨?_, .inr ⟨bs.length, c, rfl, bget_badd, by omega, by simp [List.length_eq_zero_iff.1 (by simpa using h1), ← hc]⟩⟩, fun i l e _ => bget_badd_lt e, fun i a b d e h => by simp only [V.msl.injEq] at h; exact .inr (by omega), by rw [badd_len]; omega⟩
    · rw [op1v]
      have hb' : 1 * bytes ≤ maxRow := by simpa using hb
      simp only [op1, ev, append, hrow, lenOf, hb', if_true]
      rw [← hp_new]
      rfl
    · simp only [List.length_append, h1, hc]; omega
  · have hk := bget_lt e2
    by_cases hroom : (n + 1) * sz ≤ l.length
    · refine ⟨.msl (h0.next + k) sz 0 (n + 1) none, bset bs k (some (l.take (n * sz) ++ c ++ l.drop ((n + 1) * sz))), ⟨?_⟩, ⟨?_, .inr ⟨k, _, rfl, bget_bset hk, ?_, ?_⟩⟩, fun i l e hne => by rw [bget_bset_ne (fun hi => by subst hi; exact hne _ _ _ _ rfl)]; exact e, fun q a b d e h => by (simp only [V.msl.injEq] at h; obtain rfl : k = q := by omega); exact .inl ⟨_, _, _, _, rfl⟩, by rw [bset_len]; omega⟩
      · rw [op1v]
        simp only [op1, ev, append, hrow, lenOf, ne_eq, not_true_eq_false, if_false, hp_cells, e2, hroom, if_true, hmay]
        rw [← hp_set h0 hk]
        rfl
      · simp only [List.length_append, h1, hc]; rw [Nat.add_mul, Nat.one_mul]
      · simp only [List.length_append, List.length_take, List.length_drop, hc]
        have : (n + 1) * sz = n * sz + sz := by rw [Nat.add_mul, Nat.one_mul]
        omega
      · have h5 : (l.take (n * sz) ++ c).length = (n + 1) * sz := by
          simp only [List.length_append, List.length_take, hc]
          have : (n + 1) * sz = n * sz + sz := by rw [Nat.add_mul, Nat.one_mul]
          omega
        rw [List.take_append_of_le_length (by omega), List.take_of_length_le (by omega), e4]
    · refine ⟨.msl (h0.next + bs.length) sz 0 (n + 1) none, badd (bset bs k none) (l.take (n * sz) ++ c), ⟨?_⟩, ⟨?_, .inr ⟨bs.length, l.take (n * sz) ++ c, rfl, ?_, ?_, ?_⟩⟩, fun i l e hne => bget_badd_lt (by rw [bget_bset_ne (fun hi => by subst hi; exact hne _ _ _ _ rfl)]; exact e), fun q a b d e h => by simp only [V.msl.injEq] at h; exact .inr (by omega), by rw [badd_len, bset_len]; omega⟩
      · rw [op1v]
        have h6 : ¬ l.length < n * sz := by omega
        simp only [op1, ev, append, hrow, lenOf, ne_eq, not_true_eq_false, if_false, hp_cells, e2, hroom, h6, hmine, hb, Bool.true_and, decide_true, if_true]
        rw [← hp_new, ← hp_set h0 hk]
        rfl
      · simp only [List.length_append, h1, hc]; rw [Nat.add_mul, Nat.one_mul]
      · have := bget_badd (bs := bset bs k none) (c := l.take (n * sz) ++ c)
        rw [bset_len] at this
        exact this
      · simp only [List.length_append, List.length_take, hc]
        have : (n + 1) * sz = n * sz + sz := by rw [Nat.add_mul, Nat.one_mul]
        omega
      · have h5 : (l.take (n * sz) ++ c).length = (n + 1) * sz := by
          simp only [List.length_append, List.length_take, hc]
          have : (n + 1) * sz = n * sz + sz := by rw [Nat.add_mul, Nat.one_mul]
          omega
        rw [List.take_of_length_le (by omega), e4]
theorem elems_sole : ∀ (l : List V), elems 1 l.length l = l
  | [] => rfl
  | v :: r => by
    simp only [List.length_cons, elems, if_true, List.headD_cons, List.drop_succ_cons, List.drop_zero, elems_sole r]
theorem lows_i64 (l : List Int) : V.lows 0 (l.map (V.int .i64)) = true := by
  induction l with
  | nil => rfl
  | cons a r ih => simp only [List.map_cons, V.lows, ih]; rfl
/-- a slice of whole numbers that was made, as it reads -/
theorem frz_ints {h0 : Heap} {bs : List (Option (List V))} {n k : Nat} {v : V} {l : List Int} (hs : IsSl h0 bs 1 v n (l.map (V.int .i64))) (hn : 0 < n) (hk : n + 2 < k) : Go.Ab.freeze (hp h0 bs) 0 (k + 1) v = some (.fsl (l.map (V.int .i64)) none) := by
  obtain ⟨h1, ⟨rfl, rfl⟩ | ⟨j, c, rfl, e2, e3, e4⟩⟩ := hs
  · omega
  · have h2 : elems 1 n c = l.map (V.int .i64) := by
      rw [← elems_take 1 n c e3, e4]
      have h3 : n = (l.map (V.int .i64)).length := by rw [h1]; omega
      rw [h3]
      exact elems_sole _
    refine frz_msl e2 (by omega) e3 ?_ (lows_i64 l)
    rw [h2]
    refine freezes_scal _ _ (by rw [h1]; omega) fun v hv => ?_
    obtain ⟨z, _, rfl⟩ := List.mem_map.1 hv
    rfl
end Go.Ab

namespace Go.Ab
/-- a slice that was made and let go -/
def slV : List V → V
  | [] => .nilsl
  | l => .fsl l none
theorem slV_fz (l : List V) : IsFz (slV l) l := by
  cases l with
  | nil => exact .inl ⟨rfl, rfl⟩
  | cons a r => exact .inr (.inr ⟨none, rfl⟩)
/-! slices of rows that hold made slices, let go -/

/-- a cell that reads as it is -/
def V.still : V → Bool
  | .int _ _ | .str _ | .bool _ | .nilsl | .esl | .fsl _ _ | .cpx _ _ _ | .flt _ _ => true
  | _ => false
theorem freeze_still {h : Heap} {n k : Nat} {v : V} (hv : V.still v = true) : Go.Ab.freeze h n (k + 1) v = some v := by
  cases v <;> first | rfl | cases hv
theorem freezes_still {h : Heap} {n : Nat} : ∀ (l : List V) (k : Nat), l.length < k → (∀ v ∈ l, V.still v = true) → freezes h n k l = some l
  | [], k, _, _ => by cases k <;> rfl
  | v :: r, k + 1, hk, hv => by
    simp only [List.length_cons] at hk
    obtain ⟨j, rfl⟩ : ∃ j, k = j + 1 := ⟨k - 1, by omega⟩
    simp only [freezes, freeze_still (hv v List.mem_cons_self), Option.bind_some, freezes_still r (j + 1) (by omega) fun u hu => hv u (List.mem_cons_of_mem _ hu), Option.map_some]
theorem low_still {n : Nat} {v : V} (hv : V.still v = true) : V.low n v = true := by
  cases v <;> first | rfl | cases hv
theorem lows_still {n : Nat} : ∀ (l : List V), (∀ v ∈ l, V.still v = true) → V.lows n l = true
  | [], _ => rfl
  | v :: r, h => by simp only [V.lows, low_still (h v List.mem_cons_self), lows_still r fun u hu => h u (List.mem_cons_of_mem _ hu), Bool.and_self]
theorem freezes_elemsA {h : Heap} {n : Nat} (sz : Nat) (hz : 1 < sz) : ∀ (m : Nat) (l : List V) (k : Nat), m + sz + 2 < k → (∀ v ∈ l, V.still v = true) → freezes h n k (elems sz m l) = some (elems sz m l)
  | 0, l, k, _, _ => by cases k <;> rfl
  | m + 1, l, k + 1, hk, hv => by
    have h1 : ¬ sz = 1 := by omega
    obtain ⟨j, rfl⟩ : ∃ j, k = j + 1 := ⟨k - 1, by omega⟩
    have h2 : freezes h n j (l.take sz) = some (l.take sz) := freezes_still _ _ (by have := List.length_take_le sz l; omega) fun v hm => hv v (List.mem_of_mem_take hm)
    simp only [elems, h1, if_false, freezes, Go.Ab.freeze, h2, Option.map_some, Option.bind_some, freezes_elemsA sz hz m (l.drop sz) (j + 1) (by omega) fun v hm => hv v (List.mem_of_mem_drop hm)]
theorem lows_elemsA {sz : Nat} (hz : 1 < sz) : ∀ (m : Nat) (l : List V), (∀ v ∈ l, V.still v = true) → V.lows 0 (elems sz m l) = true
  | 0, _, _ => rfl
  | m + 1, l, hv => by
    have h1 : ¬ sz = 1 := by omega
    simp only [elems, h1, if_false, V.lows, V.low, lows_still _ fun v hm => hv v (List.mem_of_mem_take hm), lows_elemsA hz m (l.drop sz) fun v hm => hv v (List.mem_of_mem_drop hm), Bool.and_self]
theorem freeze_slA {h0 : Heap} {bs : List (Option (List V))} {sz n k : Nat} {v : V} {row : List V} (hs : IsSl h0 bs sz v n row) (hn : 0 < n) (hz : 1 < sz) (hk : n + sz + 3 < k) (hv : ∀ u ∈ row, V.still u = true) : Go.Ab.freeze (hp h0 bs) h0.next k v = some (.fsl (elems sz n row) none) := by
  obtain ⟨h1, ⟨rfl, rfl⟩ | ⟨j, l, rfl, e2, e3, e4⟩⟩ := hs
  · omega
  · obtain ⟨k, rfl⟩ : ∃ j, k = j + 1 := ⟨k - 1, by omega⟩
    have h2 : ¬ h0.next + j < h0.next := by omega
    have h3 : (0 + n) * sz ≤ l.length := by simpa using e3
    have h4 : 0 < sz := by omega
    have h5 : elems sz n l = elems sz n row := by rw [← e4, elems_take sz n l e3]
    have h6 : (l.drop (0 * sz)) = l := by simp
    simp only [Go.Ab.freeze, h2, if_false, hp_cells, e2, h3, decide_true, h4, Bool.and_self, if_true, h6, h5]
    rw [freezes_elemsA sz hz n row k (by omega) hv]
    simp only [Option.bind_some, lows_elemsA hz n row hv, if_true]
/-- rows of cells as elements -/
theorem elems_flat {α : Type} (f : α → List V) {sz : Nat} (hz : 1 < sz) (hf : ∀ x, (f x).length = sz) : ∀ l : List α, elems sz l.length (l.flatMap f) = l.map fun x => V.agg (f x)
  | [] => rfl
  | x :: r => by
    have h1 : ¬ sz = 1 := by omega
    have h2 : (f x ++ r.flatMap f).take sz = f x := List.take_left' (hf x)
    have h3 : (f x ++ r.flatMap f).drop sz = r.flatMap f := List.drop_left' (hf x)
    simp only [List.length_cons, List.flatMap_cons, List.map_cons, elems, h1, if_false, h2, h3, elems_flat f hz hf r]
/-- a slice that was made row by row, let go -/
theorem freeze_made {α : Type} (f : α → List V) {h0 : Heap} {bs : List (Option (List V))} {sz k : Nat} {v : V} {l : List α} (hs : IsSl h0 bs sz v l.length (l.flatMap f)) (hz : 1 < sz) (hf : ∀ x, (f x).length = sz) (hk : l.length + sz + 3 < k) (hv : ∀ x ∈ l, ∀ u ∈ f x, V.still u = true) (hnil : l = [] → v = .nilsl) :
    Go.Ab.freeze (hp h0 bs) h0.next k v = some (slV (l.map fun x => V.agg (f x))) := by
  cases l with
  | nil =>
    obtain ⟨k, rfl⟩ : ∃ j, k = j + 1 := ⟨k - 1, by omega⟩
    rw [hnil rfl]
    rfl
  | cons a r =>
    rw [freeze_slA hs (by simp) hz hk (fun u hu => by
      obtain ⟨x, hx, hu⟩ := List.mem_flatMap.1 hu
      exact hv x hx u hu), elems_flat f hz hf]
    rfl

theorem slV_still (l : List V) : V.still (slV l) = true := by cases l <;> rfl
/-- a slice that was made row by row, as it reads -/
theorem frz_made {α : Type} (f : α → List V) {h0 : Heap} {bs : List (Option (List V))} {sz k : Nat} {v : V} {l : List α} (hs : IsSl h0 bs sz v l.length (l.flatMap f)) (hz : 1 < sz) (hf : ∀ x, (f x).length = sz) (hk : l.length + sz + 3 < k) (hv : ∀ x ∈ l, ∀ u ∈ f x, V.still u = true) (hnil : l = [] → v = .nilsl) :
    Go.Ab.freeze (hp h0 bs) 0 k v = some (slV (l.map fun x => V.agg (f x))) := by
  cases l with
  | nil =>
    obtain ⟨k, rfl⟩ : ∃ j, k = j + 1 := ⟨k - 1, by omega⟩
    rw [hnil rfl]
    rfl
  | cons a r =>
    obtain ⟨h1, ⟨rfl, h2⟩ | ⟨j, c, rfl, e2, e3, e4⟩⟩ := hs
    · simp at h2
    · obtain ⟨k, rfl⟩ : ∃ j, k = j + 1 := ⟨k - 1, by omega⟩
      have hel : elems sz (a :: r).length c = (a :: r).map fun x => V.agg (f x) := by
        rw [← elems_take sz _ c e3, e4, elems_flat f hz hf]
      have hst : ∀ u ∈ (a :: r).flatMap f, V.still u = true := fun u hu => by
        obtain ⟨x, hx, hu⟩ := List.mem_flatMap.1 hu
        exact hv x hx u hu
      have h3 := freezes_elemsA (h := hp h0 bs) (n := 0) sz hz (a :: r).length ((a :: r).flatMap f) k (by omega) hst
      have h4 := lows_elemsA hz (a :: r).length ((a :: r).flatMap f) hst
      rw [elems_flat f hz hf] at h3 h4
      refine frz_msl e2 (by omega) e3 ?_ h4
      rw [hel]
      exact h3

/-- where ways meet again -/
def metQ {α : Type} (E : α → Kn) (H : α → Heap) (P : α → Prop) (ex : Ex) (m' : Kn) (h' : Heap) : Prop := ex = .nrm ∧ ∃ x, P x ∧ Sup m' (E x) ∧ h' = H x
theorem W.meetQ {D : OCtx} {cap : Nat} {m : Kn} {α : Type} (E : α → Kn) (H : α → Heap) (P : α → Prop) {a b : ACode} {h : Heap} {Q : Ex → Kn → Heap → Prop} (w1 : W D cap a m h (metQ E H P)) (w2 : ∀ x, P x → W D cap b (E x) (H x) Q) : W D cap (.seq a b) m h Q :=
  W.meet E H P w1 w2

/-- where ways meet again, or the function ends -/
def metR {α : Type} (E : α → Kn) (H : α → Heap) (P : α → Prop) (Q : Ex → Kn → Heap → Prop) : Ex → Kn → Heap → Prop
  | .nrm, m', h' => ∃ x, P x ∧ Sup m' (E x) ∧ h' = H x
  | ex, m', h' => Q ex m' h'
theorem W.meetR {D : OCtx} {cap : Nat} {m : Kn} {α : Type} (E : α → Kn) (H : α → Heap) (P : α → Prop) {a b : ACode} {h : Heap} {Q : Ex → Kn → Heap → Prop} (w1 : W D cap a m h (metR E H P Q)) (w2 : ∀ x, P x → W D cap b (E x) (H x) Q) : W D cap (.seq a b) m h Q :=
  W.seq (w1.mono fun ex m' h' q => by
    cases ex with
    | nrm =>
      obtain ⟨x, hp, hs, e2⟩ := q
      subst e2
      exact (w2 x hp).sup hs
    | _ => exact q)

/-! slices beside one another -/

structure Slot where
  v : V
  sz : Nat
  n : Nat
  row : List V
def Slot.at' (h0 : Heap) (s : Slot) (j : Nat) : Prop := ∃ a b c d, s.v = .msl (h0.next + j) a b c d
/-- slices that share no block with one another nor with those of F -/
structure Slots (h0 : Heap) (bs : List (Option (List V))) (F : Nat → Prop) (l : List Slot) : Prop where
  sl : ∀ s ∈ l, IsSl h0 bs s.sz s.v s.n s.row
  apart : l.Pairwise fun s t => ∀ j, s.at' h0 j → ¬ t.at' h0 j
  off : ∀ s ∈ l, ∀ j, s.at' h0 j → ¬ F j
  low : ∀ j, F j → j < bs.length
theorem Slot.at_lt {h0 : Heap} {bs : List (Option (List V))} {s : Slot} (h : IsSl h0 bs s.sz s.v s.n s.row) {j : Nat} (hj : s.at' h0 j) : j < bs.length := by
  obtain ⟨a, b, c, d, e⟩ := hj
  obtain ⟨_, ⟨h1, _⟩ | ⟨k, l, h1, h2, _⟩⟩ := h
  · rw [h1] at e; cases e
  · rw [h1] at e
    simp only [V.msl.injEq] at e
    have := bget_lt h2
    omega
theorem Slots.app {h0 : Heap} (hf : h0.Fine) {bs : List (Option (List V))} {F : Nat → Prop} {A B : List Slot} {s : Slot} (hs : Slots h0 bs F (A ++ s :: B)) {c : List V} {bytes : Nat} (hc : c.length = s.sz) (hz : 0 < s.sz) (hb : (s.n + 1) * bytes ≤ maxRow) :
    ∃ v' bs', Does (.app s.sz bytes (.v s.v) (.v (.msl (h0.next + bs.length) s.sz 0 1 none))) (hp h0 (badd bs c)) v' (hp h0 bs') ∧ Slots h0 bs' F (A ++ ⟨v', s.sz, s.n + 1, s.row ++ c⟩ :: B) ∧ (∀ j l, F j → bget bs j = some l → bget bs' j = some l) := by
  have h1 := hs.sl s (by simp)
  obtain ⟨v', bs', hd, hsl, hkeep, hown, hle⟩ := app_all hf (IsSl.badd (c := c) h1) bget_badd hc hz hb
  rw [badd_len] at hle hown
  have hap := List.pairwise_append.1 hs.apart
  have hap2 := List.pairwise_cons.1 hap.2.1
  have old : ∀ t, (t ∈ A ∨ t ∈ B) → (∀ j, t.at' h0 j → ¬ s.at' h0 j) ∧ IsSl h0 bs t.sz t.v t.n t.row := fun t ht => by
    rcases ht with ht | ht
    · exact ⟨fun j h => hap.2.2 t ht s List.mem_cons_self j h, hs.sl t (List.mem_append_left _ ht)⟩
    · exact ⟨fun j h h' => hap2.1 t ht j h' h, hs.sl t (List.mem_append_right _ (List.mem_cons_of_mem _ ht))⟩
  have keepT : ∀ t, (t ∈ A ∨ t ∈ B) → IsSl h0 bs' t.sz t.v t.n t.row := fun t ht => by
    obtain ⟨h2, h3, h4 | ⟨k, l, e1, e2, e3, e4⟩⟩ := old t ht
    · exact ⟨h3, .inl h4⟩
    · exact ⟨h3, .inr ⟨k, l, e1, hkeep k l (bget_badd_lt e2) (fun a b d e h => h2 k ⟨_, _, _, _, e1⟩ ⟨_, _, _, _, h⟩), e3, e4⟩⟩
  have newT : ∀ j, (∃ a b d e, v' = .msl (h0.next + j) a b d e) → s.at' h0 j ∨ bs.length < j + 1 := fun j ⟨a, b, d, e, h⟩ => by
    rcases hown j a b d e h with h | h
    · exact .inl h
    · exact .inr (by omega)
  have apartT : ∀ t, (t ∈ A ∨ t ∈ B) → ∀ j, t.at' h0 j → ¬ ∃ a b d e, v' = .msl (h0.next + j) a b d e := fun t ht j h h' => by
    obtain ⟨h2, h3⟩ := old t ht
    rcases newT j h' with h4 | h4
    · exact h2 j h h4
    · have := Slot.at_lt h3 h; omega
  refine ⟨v', bs', hd, ⟨fun t ht => ?_, ?_, fun t ht j hj => ?_, fun j hj => ?_⟩, fun j l hj e => hkeep j l (bget_badd_lt e) fun a b d e h => hs.off s (by simp) j ⟨_, _, _, _, h⟩ hj⟩
  · rcases List.mem_append.1 ht with h2 | h2
    · exact keepT t (.inl h2)
    · rcases List.mem_cons.1 h2 with rfl | h2
      · exact hsl
      · exact keepT t (.inr h2)
  · refine List.pairwise_append.2 ⟨hap.1, List.pairwise_cons.2 ⟨fun t ht j hj hj' => apartT t (.inr ht) j hj' hj, hap2.2⟩, fun t ht q hq j hj hj' => ?_⟩
    rcases List.mem_cons.1 hq with rfl | hq
    · exact apartT t (.inl ht) j hj hj'
    · exact hap.2.2 t ht q (List.mem_cons_of_mem _ hq) j hj hj'
  · rcases List.mem_append.1 ht with h2 | h2
    · exact hs.off t (List.mem_append_left _ h2) j hj
    · rcases List.mem_cons.1 h2 with rfl | h2
      · intro hF
        rcases newT j hj with h4 | h4
        · exact hs.off s (by simp) j h4 hF
        · have := hs.low j hF; omega
      · exact hs.off t (List.mem_append_right _ (List.mem_cons_of_mem _ h2)) j hj
  · have := hs.low j hj; omega
/-- other blocks may change -/
theorem Slots.keep {h0 : Heap} {bs bs' : List (Option (List V))} {F : Nat → Prop} {l : List Slot} (hs : Slots h0 bs F l) (hk : ∀ j c, ¬ F j → bget bs j = some c → bget bs' j = some c) (hl : bs.length ≤ bs'.length) : Slots h0 bs' F l := by
  refine ⟨fun s h => ?_, hs.apart, hs.off, fun j hj => Nat.lt_of_lt_of_le (hs.low j hj) hl⟩
  obtain ⟨h3, h4 | ⟨k, l, e1, e2, e3, e4⟩⟩ := hs.sl s h
  · exact ⟨h3, .inl h4⟩
  · exact ⟨h3, .inr ⟨k, l, e1, hk k l (hs.off s h k ⟨_, _, _, _, e1⟩) e2, e3, e4⟩⟩
theorem Slots.badd {h0 : Heap} {bs : List (Option (List V))} {F : Nat → Prop} {l : List Slot} {c : List V} (hs : Slots h0 bs F l) : Slots h0 (badd bs c) F l :=
  hs.keep (fun j c _ e => bget_badd_lt e) (by rw [badd_len]; omega)
theorem Slots.bput {h0 : Heap} {bs : List (Option (List V))} {F : Nat → Prop} {l : List Slot} {k off n : Nat} {cs : List V} (hs : Slots h0 bs F l) (hk : F k) : Slots h0 (bput bs k off n cs) F l :=
  hs.keep (fun j c hj e => by rw [bget_bput_ne (fun h => hj (by rw [h]; exact hk))]; exact e) (by rw [bput_len]; omega)
end Go.Ab

namespace Go.Ab

section
variable {D : OCtx} {s : ACode → StT → Option (Ex × StT)} {r2 : Ex × StT} {st1 : StT} {k k' : StT → Option (Ex × StT)}

theorem outT_bind {dst : Option Nat} {st : StT} (hk : ∀ st, k st = some (.nrm, st1) → k' st = some r2) {q : Option (Out × Heap)} (e : outT dst st k q = some (.nrm, st1)) : outT dst st k' q = some r2 := by
  cases q with
  | none => cases e
  | some q =>
    obtain ⟨o, h'⟩ := q
    cases o with
    | ret v =>
      have e' : force v (fun v => k (.mk (putT st.fr dst v) st.ds h')) = some (.nrm, st1) := e
      show force v (fun v => k' (.mk (putT st.fr dst v) st.ds h')) = some r2
      rw [force_eq] at e' ⊢
      exact hk _ e'
    | pan v => cases e
theorem doT_bind {o : AOp} {dst : Option Nat} {st : StT} (hk : ∀ st, k st = some (.nrm, st1) → k' st = some r2) (e : doT D s o dst st k = some (.nrm, st1)) : doT D s o dst st k' = some r2 := by
  by_cases hn : o.far = false ∧ o.isRecover = false
  · rw [doT_near D s hn.1 hn.2] at e ⊢
    obtain ⟨fr, ds, h⟩ := st
    simp only [nearT, force_eq] at e ⊢
    cases ho : opF o (evT fr) h with
    | none => rw [ho] at e; cases e
    | some q => rw [ho] at e; exact hk _ e
  · cases o with
    | call f args =>
      have e' : mapK (evT st.fr) args (fun l => outT dst st k (callT D s f l st.h)) = some (.nrm, st1) := e
      show mapK (evT st.fr) args (fun l => outT dst st k' (callT D s f l st.h)) = some r2
      rw [mapK_eq] at e' ⊢
      exact outT_bind hk e'
    | callv g args =>
      have e' : t_callv D s g args dst st k = some (.nrm, st1) := e
      show t_callv D s g args dst st k' = some r2
      unfold t_callv at e' ⊢
      simp only [mapK_eq] at e' ⊢
      split at e'
      · exact outT_bind hk e'
      · cases e'
    | panic x =>
      have e' : t_panic x dst st k = some (.nrm, st1) := e
      unfold t_panic at e'
      split at e' <;> cases e'
    | defer g args =>
      have e' : t_defer g args dst st k = some (.nrm, st1) := e
      show t_defer g args dst st k' = some r2
      unfold t_defer at e' ⊢
      split at e'
      · exact hk _ e'
      · cases e'
    | recover => cases e
    | _ => exact absurd ⟨rfl, rfl⟩ hn
theorem chkT_bind {l : List (Nat × Option (Nat × Bool) × AOp)} {st : StT} (hk : ∀ st, k st = some (.nrm, st1) → k' st = some r2) (e : chkT l k st = some (.nrm, st1)) : chkT l k' st = some r2 := by
  cases l with
  | nil => exact hk _ e
  | cons x l =>
    have e' : Bool.rec (motive := fun _ => Option (Ex × StT)) none (k st) (checksT (getT st.fr) (evT st.fr) st.h (x :: l)) = some (.nrm, st1) := e
    show Bool.rec (motive := fun _ => Option (Ex × StT)) none (k' st) (checksT (getT st.fr) (evT st.fr) st.h (x :: l)) = some r2
    cases hc : checksT (getT st.fr) (evT st.fr) st.h (x :: l) with
    | true => rw [hc] at e'; exact hk _ e'
    | false => rw [hc] at e'; cases e'
theorem guardT_bind {g : Option (Nat × Bool)} {st : StT} {y y' n n' : Option (Ex × StT)} (hy : y = some (.nrm, st1) → y' = some r2) (hn : n = some (.nrm, st1) → n' = some r2) (e : guardT g st y n = some (.nrm, st1)) : guardT g st y' n' = some r2 := by
  cases g with
  | none => exact hy e
  | some q =>
    simp only [guardT] at e ⊢
    split at e
    · split at e
      · exact hy e
      · exact hn e
    · cases e
    · exact hn e
theorem StepsR.cons {x : Step} {l : List Step} {st st2 : StT} {ex : Ex} (h1 : StepsR D [x] st .nrm st1) (h2 : StepsR D l st1 ex st2) : StepsR D (x :: l) st ex st2 := by
  obtain ⟨n, h1⟩ := h1
  obtain ⟨m, h2⟩ := h2
  have h1 := stepsT_le (execT_le D (Nat.le_max_left n m)) _ _ _ h1
  have h2 := stepsT_le (execT_le D (Nat.le_max_right n m)) _ _ _ h2
  refine ⟨max n m, ?_⟩
  obtain ⟨d, op, g, ck⟩ := x
  rw [stepsT_unf] at h1 ⊢
  have hk : ∀ st, stepsT D (execT D (max n m)) [] st = some (.nrm, st1) → stepsT D (execT D (max n m)) l st = some (ex, st2) := fun st e => by
    have e' : some (Ex.nrm, st) = some (Ex.nrm, st1) := e
    cases e'
    exact h2
  exact guardT_bind (fun e => doT_bind (fun st e => chkT_bind hk e) e) (fun e => chkT_bind hk e) h1
end

/-- a region that ends, or panics -/
def WX (D : OCtx) (cap : Nat) (l : List Step) (m : Kn) (h : Heap) (Q : Ex → Kn → Heap → Prop) : Prop :=
  ∀ fr, Has fr cap m → ∃ ex st', StepsR D l ⟨fr, [], h⟩ ex st' ∧ st'.ds = [] ∧ ((ex = .nrm ∧ ∃ m', Has st'.fr cap m' ∧ Q .nrm m' st'.h) ∨ ∃ v, ex = .pan v ∧ st'.fr.cap = cap ∧ Q (.pan v) [] st'.h)
def CallP (D : OCtx) (f : Nat) (args : List V) (h : Heap) (C : V → Heap → Prop) : Prop := ∃ v h', CallR D f args h (.pan v) h' ∧ C v h'
def CallX (D : OCtx) (f : Nat) (args : List V) (h : Heap) (C : Out → Heap → Prop) : Prop := ∃ o h', CallR D f args h o h' ∧ C o h'

section
variable {D : OCtx} {cap : Nat} {m : Kn} {h : Heap} {Q : Ex → Kn → Heap → Prop} {l : List Step}
theorem W.regionX (w : WX D cap l m h Q) : W D cap (.region l) m h Q := fun fr hf => by
  obtain ⟨ex, st', hr, hd, hq⟩ := w fr hf
  rcases hq with ⟨rfl, m', h1, h2⟩ | ⟨v, rfl, hc, h2⟩
  · exact ⟨.nrm, st', Runs.region hr (by simp), hd, m', h1, h2⟩
  · obtain ⟨n, hr⟩ := hr
    refine ⟨.pan v, ⟨wipeT l st'.fr, st'.ds, st'.h⟩, ⟨n + 1, ?_⟩, hd, [], ⟨(wipeT_cap ..).trans hc, fun i v e => by cases e⟩, h2⟩
    show wipedT l (stepsT D (execT D n) l ⟨fr, [], h⟩) = _
    rw [hr]; rfl
theorem WX.nil (q : Q .nrm m h) : WX D cap [] m h Q := fun _ hf => ⟨.nrm, _, StepsR.nil, rfl, .inl ⟨rfl, m, hf, q⟩⟩
theorem WX.step {x : Step} (w : WS D cap [x] m h fun m' h' => WX D cap l m' h' Q) : WX D cap (x :: l) m h Q := fun fr hf => by
  obtain ⟨st1, hr, hd, m', hm, hw⟩ := w fr hf
  obtain ⟨fr1, ds1, h1⟩ := st1
  simp only at hd hm hw
  subst hd
  obtain ⟨ex, st2, hr2, hq⟩ := hw fr1 hm
  exact ⟨ex, st2, hr.cons hr2, hq⟩
theorem WX.ws (w : WS D cap l m h (Q .nrm)) : WX D cap l m h Q := fun fr hf => by
  obtain ⟨st1, hr, hd, m', hm, hq⟩ := w fr hf
  exact ⟨.nrm, st1, hr, hd, .inl ⟨rfl, m', hm, hq⟩⟩
/-- a call that panics -/
theorem WX.callP {f : Nat} {xs xs' : List Opd} {d : Option Nat} {ck : List (Nat × Option (Nat × Bool) × AOp)} {C : V → Heap → Prop} (e : gL (kop m) xs = some xs') (he : CallP D f (xs'.map vev) h C) (q : ∀ v h', C v h' → Q (.pan v) [] h') :
    WX D cap (⟨d, .call f xs, none, ck⟩ :: l) m h Q := fun fr hf => by
  have he' : CallP D f (xs.map (evT fr)) h C := by rw [hf.args e]; exact he
  obtain ⟨v, h', ⟨n, e1⟩, hq⟩ := he'
  refine ⟨.pan v, ⟨fr, [], h'⟩, ⟨n, ?_⟩, rfl, .inr ⟨v, rfl, hf.size, q v h' hq⟩⟩
  rw [stepsT_unf]
  show mapK (evT fr) xs (fun a => outT d ⟨fr, [], h⟩ (chkT ck (stepsT D (execT D n) l)) (callT D (execT D n) f a h)) = _
  rw [mapK_eq]
  have : callT D (execT D n) f (xs.map (evT fr)) h = some (.pan v, h') := e1
  rw [this]
  rfl
/-- a call of a function value that panics -/
theorem WX.callvP {g g' : Opd} {f : Nat} {pre caps : List V} {xs xs' : List Opd} {d : Option Nat} {ck : List (Nat × Option (Nat × Bool) × AOp)} {C : V → Heap → Prop} (eg : kop m g = some g') (hg : vev g' = .fn f pre caps) (e : gL (kop m) xs = some xs')
    (he : CallP D f (appL pre (appL (xs'.map vev) caps)) h C) (q : ∀ v h', C v h' → Q (.pan v) [] h') : WX D cap (⟨d, .callv g xs, none, ck⟩ :: l) m h Q := fun fr hf => by
  have he' : CallP D f (appL pre (appL (xs.map (evT fr)) caps)) h C := by rw [hf.args e]; exact he
  have hgv : evT fr g = .fn f pre caps := (hf.opd eg).symm.trans hg
  obtain ⟨v, h', ⟨n, e1⟩, hq⟩ := he'
  refine ⟨.pan v, ⟨fr, [], h'⟩, ⟨n, ?_⟩, rfl, .inr ⟨v, rfl, hf.size, q v h' hq⟩⟩
  rw [stepsT_unf]
  show t_callv D (execT D n) g xs d ⟨fr, [], h⟩ (chkT ck (stepsT D (execT D n) l)) = _
  unfold t_callv
  simp only [hgv]
  rw [mapK_eq]
  have : callT D (execT D n) f (appL pre (appL (xs.map (evT fr)) caps)) h = some (.pan v, h') := e1
  rw [this]
  rfl
theorem WX.panic {x x' : Opd} {t : Nat} {v : V} {d : Option Nat} {ck : List (Nat × Option (Nat × Bool) × AOp)} (e : kop m x = some x') (hv : vev x' = .ifc t v) (q : Q (.pan (.ifc t v)) [] h) : WX D cap (⟨d, .panic x, none, ck⟩ :: l) m h Q := fun fr hf => by
  have hx : evT fr x = .ifc t v := (hf.opd e).symm.trans hv
  refine ⟨.pan (.ifc t v), ⟨fr, [], h⟩, ⟨0, ?_⟩, rfl, .inr ⟨_, rfl, hf.size, q⟩⟩
  rw [stepsT_unf]
  show t_panic x d ⟨fr, [], h⟩ (chkT ck (stepsT D (execT D 0) l)) = _
  unfold t_panic
  simp only [hx]
theorem WX.guardC {t : Nat} {b : Bool} {op : AOp} {d : Option Nat} {ck : List (Nat × Option (Nat × Bool) × AOp)} (e : m.get t = some (.bool b)) (w : WX D cap (⟨d, op, none, ck⟩ :: l) m h Q) : WX D cap (⟨d, op, some (t, b), ck⟩ :: l) m h Q := fun fr hf => by
  obtain ⟨ex, st', ⟨n, hn⟩, hk⟩ := w fr hf
  refine ⟨ex, st', ⟨n, ?_⟩, hk⟩
  rw [stepsT_unf] at hn ⊢
  have hw : wantedE (getT fr) (some (t, b)) = some true := wantK_ok hf (by unfold wantK; simp only [e]; cases b <;> rfl)
  rw [guardT_of hw]
  exact hn

/-- a function's end, or panic -/
def doneX (rs : List RVar) (C : Out → Heap → Prop) : Ex → Kn → Heap → Prop
  | .nrm, m, h | .ret, m, h => ∃ vs, resK m h rs = some vs ∧ C (.ret (oneOr vs)) h
  | .pan v, _, h => C (.pan v) h
  | _, _, _ => False
def frzOut (h : Heap) (n : Nat) : Out → Option Out
  | .ret v => (freeze h n fuelF v).map .ret
  | .pan v => (freeze h n fuelF v).map .pan

theorem CallX.open {f : Nat} {o : OFunc} {args : List V} {C : Out → Heap → Prop} (ho : D.orc f = none) (hc : D.code f = some o) (ht : D.tidy f = false) (hn : Nat.beq (lenL args) o.np = true) (hl : Nat.ble (lenL args) 8 = true)
    (w : W D (capOfD o.dep) o.body (argsK 0 args) h (doneX o.results C)) : CallX D f args h C := by
  obtain ⟨ex, st1, ⟨n, hr⟩, h1, m', h2, h3⟩ := w _ (frame_has (by rw [lenL_eq] at hl; exact Nat.le_of_ble_eq_true hl))
  obtain ⟨fr1, ds1, hp1⟩ := st1
  simp only at h1 h2 h3
  subst h1
  obtain ⟨np, dep, rs, bd⟩ := o
  have fin : ∀ vs, resK m' hp1 rs = some vs → (ex = .nrm ∨ ex = .ret) → callFast D n f args h = some (.ret (oneOr vs), hp1) := by
    intro vs hv hx
    unfold callFast callT
    simp only [ho, hc, ht]
    simp only [bodyT, hn]
    simp only at hr
    rw [hr]
    rcases hx with rfl | rfl <;> (simp only [leaveT, endedT]; rw [h2.res hv]; simp only [Option.map_some])
  cases ex with
  | nrm => obtain ⟨vs, h4, h6⟩ := h3; exact ⟨_, _, ⟨n, fin vs h4 (.inl rfl)⟩, h6⟩
  | ret => obtain ⟨vs, h4, h6⟩ := h3; exact ⟨_, _, ⟨n, fin vs h4 (.inr rfl)⟩, h6⟩
  | pan v =>
    refine ⟨.pan v, hp1, ⟨n, ?_⟩, h3⟩
    unfold callFast callT
    simp only [ho, hc, ht]
    simp only [bodyT, hn]
    simp only at hr
    rw [hr]
    simp only [leaveT, endedT]
  | _ => exact h3.elim
theorem CallX.shut {f : Nat} {o : OFunc} {args : List V} {C : Out → Heap → Prop} (ho : D.orc f = none) (hc : D.code f = some o) (ht : D.tidy f = true) (hn : Nat.beq (lenL args) o.np = true) (hl : Nat.ble (lenL args) 8 = true)
    (w : W D (capOfD o.dep) o.body (argsK 0 args) { h with floors := h.next :: h.floors } (doneX o.results fun q h' => ∃ q', frzOut h' h.next q = some q' ∧ C q' (h'.tidied h))) : CallX D f args h C := by
  obtain ⟨ex, st1, ⟨n, hr⟩, h1, m', h2, h3⟩ := w _ (frame_has (by rw [lenL_eq] at hl; exact Nat.le_of_ble_eq_true hl))
  obtain ⟨fr1, ds1, hp1⟩ := st1
  simp only at h1 h2 h3
  subst h1
  obtain ⟨np, dep, rs, bd⟩ := o
  have fin : ∀ vs u, resK m' hp1 rs = some vs → freeze hp1 h.next fuelF (oneOr vs) = some u → (ex = .nrm ∨ ex = .ret) → callFast D n f args h = some (.ret u, hp1.tidied h) := by
    intro vs u hv hu hx
    unfold callFast callT
    simp only [ho, hc, ht]
    simp only [bodyT, hn]
    simp only at hr
    rw [hr]
    rcases hx with rfl | rfl <;> (simp only [leaveT, endedT]; rw [h2.res hv]; simp only [Option.map_some, hu])
  have ret : ∀ vs q', resK m' hp1 rs = some vs → frzOut hp1 h.next (.ret (oneOr vs)) = some q' → C q' (hp1.tidied h) → (ex = .nrm ∨ ex = .ret) → CallX D f args h C := by
    intro vs q' h4 h5 h6 hx
    obtain ⟨u, h7, rfl⟩ := map_some h5
    exact ⟨_, _, ⟨n, fin vs u h4 h7 hx⟩, h6⟩
  cases ex with
  | nrm => obtain ⟨vs, h4, q', h5, h6⟩ := h3; exact ret vs q' h4 h5 h6 (.inl rfl)
  | ret => obtain ⟨vs, h4, q', h5, h6⟩ := h3; exact ret vs q' h4 h5 h6 (.inr rfl)
  | pan v =>
    obtain ⟨q', h5, h6⟩ := h3
    obtain ⟨u, h7, rfl⟩ := map_some h5
    refine ⟨.pan u, _, ⟨n, ?_⟩, h6⟩
    unfold callFast callT
    simp only [ho, hc, ht]
    simp only [bodyT, hn]
    simp only at hr
    rw [hr]
    simp only [leaveT, endedT, h7, Option.map_some]
  | _ => exact h3.elim
end
end Go.Ab

namespace Go.Ab

/-- the reader's block is written -/
def rput (h : Heap) (r : Nat) (L : V) (a : Nat) : Heap := h.put r (some (.cells [L, .int .i64 (a : Nat)]))
section
variable {h h0 : Heap} {r a b : Nat} {L : V} {bs : List (Option (List V))}
theorem rput_next : (rput h r L a).next = h.next := rfl
theorem rput_cells (hf : h.Fine) (hr : r < h.next) : (rput h r L a).cellsOf r = some [L, .int .i64 (a : Nat)] := cells_put _ hr hf.len
theorem rput_fine (hf : h.Fine) : (rput h r L a).Fine := ⟨by simp [rput, Heap.put, hf.len], hf.fl⟩
theorem rput_rput : rput (rput h r L a) r L b = rput h r L b := by simp [rput, Heap.put]
theorem rput_same (e : h.cellsOf r = some [L, .int .i64 (a : Nat)]) : rput h r L a = h := by
  have hr := cells_lt e
  unfold Heap.cellsOf Heap.get at e
  rw [if_pos hr] at e
  have h1 : h.bl[h.next - 1 - r]? = some (some (.cells [L, .int .i64 (a : Nat)])) := by
    cases hb : h.bl[h.next - 1 - r]? with
    | none => rw [hb] at e; cases e
    | some x =>
      cases x with
      | none => rw [hb] at e; cases e
      | some y =>
        cases y with
        | cells l => rw [hb] at e; cases e; rfl
        | map es => rw [hb] at e; cases e
  obtain ⟨hi, h2⟩ := List.getElem?_eq_some_iff.1 h1
  unfold rput Heap.put
  rw [← h2, List.set_getElem_self]
theorem hp_rput (hr : r < h0.next) : rput (hp h0 bs) r L a = hp (rput h0 r L a) bs := by
  have h1 : h0.next + bs.length - 1 - r = (bs.map fun c => c.map Blk.cells).reverse.length + (h0.next - 1 - r) := by simp; omega
  simp only [rput, Heap.put, hp]
  rw [h1, List.set_append_right _ _ (by omega), Nat.add_sub_cancel_left]
theorem rput_floors {fl : List Nat} : rput { h with floors := fl } r L a = { rput h r L a with floors := fl } := rfl
theorem rput_tidied : (hp (rput { h with floors := h.next :: h.floors } r L a) bs).tidied h = rput h r L a := hp_tidied (rput h r L a) bs
theorem hp_cellsL (hr : r < h0.next) : (hp h0 bs).cellsOf r = h0.cellsOf r := by
  unfold Heap.cellsOf Heap.get
  have h1 : r < h0.next + bs.length := by omega
  have h2 : h0.next + bs.length - 1 - r = (bs.map fun c => c.map Blk.cells).reverse.length + (h0.next - 1 - r) := by simp; omega
  simp only [hp, h1, hr, if_true]
  rw [h2, List.getElem?_append_right (by omega), Nat.add_sub_cancel_left]
theorem rcells (hf : h0.Fine) (hr : r < h0.next) : (hp (rput h0 r L a) bs).cellsOf r = some [L, .int .i64 (a : Nat)] := by
  rw [hp_cellsL (by exact hr), rput_cells hf hr]
theorem o_loadR0 (hf : h0.Fine) (hr : r < h0.next) : Does (.load 1 false (.v (.mptr r 0))) (hp (rput h0 r L a) bs) L (hp (rput h0 r L a) bs) := o_load1 (rcells hf hr) rfl
theorem o_loadR1 (hf : h0.Fine) (hr : r < h0.next) : Does (.load 1 false (.v (.mptr r 1))) (hp (rput h0 r L a) bs) (.int .i64 (a : Nat)) (hp (rput h0 r L a) bs) := o_load1 (rcells hf hr) rfl
theorem o_storeR1 (hf : h0.Fine) (hr : r < h0.next) (b : Nat) {z : Int} (hz : z = (b : Nat)) : Does (.store 1 (.v (.mptr r 1)) (.v (.int .i64 z))) (hp (rput h0 r L a) bs) .undef (hp (rput h0 r L b) bs) := by
  subst hz
  have h1 : (hp (rput h0 r L a) bs).mayPut r (V.cells (.int .i64 (b : Nat))) = true := by
    simp only [Heap.mayPut, List.all_eq_true, Bool.or_eq_true]
    exact fun f _ => .inr rfl
  have h2 := o_store (h := hp (rput h0 r L a) bs) (off := 1) (n := 1) (x := .int .i64 (b : Nat)) (rcells hf hr) rfl (Nat.le_refl _) h1
  have h3 : (hp (rput h0 r L a) bs).put r (some (.cells (([L, .int .i64 (a : Nat)] : List V).take 1 ++ V.cells (.int .i64 (b : Nat)) ++ ([L, .int .i64 (a : Nat)] : List V).drop (1 + 1)))) = hp (rput h0 r L b) bs := by
    show rput (hp (rput h0 r L a) bs) r L b = _
    rw [hp_rput (by exact hr), rput_rput]
  rw [h3] at h2
  exact h2
end

/-- how a call that reads comes out: with a value, so far; it gives up, at a place -/
inductive Ans where
  | val (v : V) (a : Nat)
  | bad (e : Int) (p : Nat)
def stopV (T : Nat) (e : Int) (p : Nat) : V := .ifc T (.agg [.int .i64 e, .int .i64 (p : Nat)])
def ansC (T : Nat) (r : Nat) (L : V) (h : Heap) : Ans → Out → Heap → Prop
  | .val v b => fun o h' => o = .ret v ∧ h' = rput h r L b
  | .bad e p => fun o h' => o = .pan (stopV T e p) ∧ ∃ b, h' = rput h r L b
/-- a call that reads -/
def PX (D : OCtx) (T : Nat) (f : Nat) (args : List V) (r : Nat) (L : V) (a : Nat) (x : Ans) : Prop := ∀ h : Heap, h.Fine → h.cellsOf r = some [L, .int .i64 (a : Nat)] → CallX D f args h (ansC T r L h x)
def ansF (T : Nat) (r : Nat) (L : V) (h1 : Heap) : Ans → Out → Heap → Prop
  | .val v b => fun o h' => ∃ u bs, o = .ret u ∧ h' = hp (rput h1 r L b) bs ∧ freeze h' h1.next fuelF u = some v
  | .bad e p => fun o h' => o = .pan (stopV T e p) ∧ ∃ b bs, h' = hp (rput h1 r L b) bs
theorem stop_frz {h : Heap} {n T : Nat} {e : Int} {p : Nat} : freeze h n fuelF (stopV T e p) = some (stopV T e p) := rfl
section
variable {D : OCtx} {T f r a b : Nat} {L : V} {x : Ans} {cap : Nat} {m : Kn} {Q : Ex → Kn → Heap → Prop} {h0 : Heap} {bs : List (Option (List V))} {l : List Step}
theorem PX.tidy {o : OFunc} {args : List V} (ho : D.orc f = none) (hc : D.code f = some o) (ht : D.tidy f = true) (hn : Nat.beq (lenL args) o.np = true) (hl : Nat.ble (lenL args) 8 = true)
    (w : ∀ h1 : Heap, h1.Fine → r < h1.next → W D (capOfD o.dep) o.body (argsK 0 args) (hp (rput h1 r L a) []) (doneX o.results (ansF T r L h1 x))) : PX D T f args r L a x := fun h hF hr => by
  refine CallX.shut ho hc ht hn hl ?_
  have hlt := cells_lt hr
  have w1 := w _ hF.shut hlt
  rw [hp_nil, rput_same (h := { h with floors := h.next :: h.floors }) hr] at w1
  refine w1.mono fun ex m' h' q => ?_
  have key : ∀ o' : Out, ansF T r L { h with floors := h.next :: h.floors } x o' h' → ∃ q', frzOut h' h.next o' = some q' ∧ ansC T r L h x q' (h'.tidied h) := by
    intro o' q
    cases x with
    | val v b =>
      obtain ⟨u, bs, rfl, rfl, h5⟩ := q
      exact ⟨.ret v, by show (freeze _ h.next fuelF u).map Out.ret = _; rw [h5]; rfl, rfl, rput_tidied⟩
    | bad e p =>
      obtain ⟨rfl, b, bs, rfl⟩ := q
      exact ⟨.pan (stopV T e p), rfl, rfl, b, rput_tidied⟩
  cases ex with
  | nrm => obtain ⟨vs, h4, q⟩ := q; exact ⟨vs, h4, key _ q⟩
  | ret => obtain ⟨vs, h4, q⟩ := q; exact ⟨vs, h4, key _ q⟩
  | pan v => exact key _ q
  | _ => exact q
/-- a call that reads, and ends -/
theorem WX.val {v : V} {xs xs' : List Opd} {d : Option Nat} (hf : h0.Fine) (hr : r < h0.next) (e : gL (kop m) xs = some xs') (hx : dOk cap d = true) (he : PX D T f (xs'.map vev) r L a (.val v b)) (w : WX D cap l (kput m d v) (hp (rput h0 r L b) bs) Q) :
    WX D cap (⟨d, .call f xs, none, []⟩ :: l) m (hp (rput h0 r L a) bs) Q := by
  refine WX.step (WS.call (C := fun u h' => u = v ∧ h' = hp (rput h0 r L b) bs) e hx ?_ fun u h' hc => by obtain ⟨rfl, rfl⟩ := hc; exact WS.nil w)
  obtain ⟨o, h', hc, ho, hh⟩ := he _ (hp_fine (rput_fine hf)) (rcells hf hr)
  subst ho hh
  rw [hp_rput (by exact hr), rput_rput] at hc
  exact ⟨v, _, hc, rfl, rfl⟩
/-- a call that gives up -/
theorem WX.bad {err : Int} {p : Nat} {xs xs' : List Opd} {d : Option Nat} {ck : List (Nat × Option (Nat × Bool) × AOp)} (hf : h0.Fine) (hr : r < h0.next) (e : gL (kop m) xs = some xs') (he : PX D T f (xs'.map vev) r L a (.bad err p))
    (q : ∀ b, Q (.pan (stopV T err p)) [] (hp (rput h0 r L b) bs)) : WX D cap (⟨d, .call f xs, none, ck⟩ :: l) m (hp (rput h0 r L a) bs) Q := by
  refine WX.callP (C := fun u h' => u = stopV T err p ∧ ∃ b, h' = hp (rput h0 r L b) bs) e ?_ fun u h' hc => by obtain ⟨rfl, b, rfl⟩ := hc; exact q b
  obtain ⟨o, h', hc, ho, b, hh⟩ := he _ (hp_fine (rput_fine hf)) (rcells hf hr)
  subst ho hh
  rw [hp_rput (by exact hr), rput_rput] at hc
  exact ⟨_, _, hc, rfl, b, rfl⟩
/-- a call that looks -/
theorem WX.puF (hf : h0.Fine) {xs xs' : List Opd} {d : Option Nat} {u : V} (e : gL (kop m) xs = some xs') (hx : dOk cap d = true) (he : PuF D f (xs'.map vev) u) (w : WX D cap l (kput m d u) (hp h0 bs) Q) : WX D cap (⟨d, .call f xs, none, []⟩ :: l) m (hp h0 bs) Q :=
  WX.step (WS.puF hf e hx he (WS.nil w))
end
end Go.Ab

namespace Go.Ab

def StT.plus (st : StT) (ds : List (V × List V)) : StT := ⟨st.fr, st.ds ++ ds, st.h⟩
section
variable {D : OCtx} {ds : List (V × List V)}
/-- more deferred calls make no difference -/
def Dl (ds : List (V × List V)) (k k' : StT → Option (Ex × StT)) : Prop := ∀ st ex st', k st = some (ex, st') → k' (st.plus ds) = some (ex, st'.plus ds)
variable {s : ACode → StT → Option (Ex × StT)} {k k' : StT → Option (Ex × StT)}
theorem outT_ds {dst : Option Nat} {st st' : StT} {ex : Ex} (hk : Dl ds k k') {q : Option (Out × Heap)} (e : outT dst st k q = some (ex, st')) : outT dst (st.plus ds) k' q = some (ex, st'.plus ds) := by
  cases q with
  | none => cases e
  | some q =>
    obtain ⟨o, h'⟩ := q
    cases o with
    | ret v =>
      have e' : force v (fun v => k (.mk (putT st.fr dst v) st.ds h')) = some (ex, st') := e
      show force v (fun v => k' (.mk (putT st.fr dst v) (st.ds ++ ds) h')) = some (ex, st'.plus ds)
      rw [force_eq] at e' ⊢
      exact hk _ _ _ e'
    | pan v => cases e; rfl
theorem doT_ds {o : AOp} {dst : Option Nat} {st st' : StT} {ex : Ex} (hk : Dl ds k k') (e : doT D s o dst st k = some (ex, st')) : doT D s o dst (st.plus ds) k' = some (ex, st'.plus ds) := by
  by_cases hn : o.far = false ∧ o.isRecover = false
  · rw [doT_near D s hn.1 hn.2] at e ⊢
    obtain ⟨fr, ds0, h⟩ := st
    simp only [nearT, force_eq, StT.plus] at e ⊢
    cases ho : opF o (evT fr) h with
    | none => rw [ho] at e; cases e
    | some q => rw [ho] at e; exact hk _ _ _ e
  · cases o with
    | call f args =>
      have e' : mapK (evT st.fr) args (fun l => outT dst st k (callT D s f l st.h)) = some (ex, st') := e
      show mapK (evT st.fr) args (fun l => outT dst (st.plus ds) k' (callT D s f l st.h)) = some (ex, st'.plus ds)
      rw [mapK_eq] at e' ⊢
      exact outT_ds hk e'
    | callv g args =>
      have e' : t_callv D s g args dst st k = some (ex, st') := e
      show t_callv D s g args dst (st.plus ds) k' = some (ex, st'.plus ds)
      unfold t_callv at e' ⊢
      show (match evT st.fr g with
        | .fn f pre caps => mapK (evT st.fr) args fun l => outT dst (st.plus ds) k' (callT D s f (appL pre (appL l caps)) st.h)
        | _ => none) = _
      simp only [mapK_eq] at e' ⊢
      split at e'
      · rename_i heq
        simp only [heq]
        exact outT_ds hk e'
      · cases e'
    | panic x =>
      have e' : t_panic x dst st k = some (ex, st') := e
      show t_panic x dst (st.plus ds) k' = some (ex, st'.plus ds)
      unfold t_panic at e' ⊢
      show (match evT st.fr x with
        | .ifc t v => some (Ex.pan (.ifc t v), st.plus ds)
        | _ => none) = _
      split at e'
      · rename_i heq
        simp only [heq]
        cases e'; rfl
      · cases e'
    | defer g args =>
      have e' : t_defer g args dst st k = some (ex, st') := e
      show t_defer g args dst (st.plus ds) k' = some (ex, st'.plus ds)
      unfold t_defer at e' ⊢
      show (match evT st.fr g with
        | .fn f pre caps => k' (.mk (putT st.fr dst (.tup [])) ((.fn f pre caps, args.map (evT st.fr)) :: (st.ds ++ ds)) st.h)
        | _ => none) = _
      split at e'
      · rename_i heq
        simp only [heq]
        exact hk _ _ _ e'
      · cases e'
    | recover => cases e
    | _ => exact absurd ⟨rfl, rfl⟩ hn
theorem chkT_ds {l : List (Nat × Option (Nat × Bool) × AOp)} (hk : Dl ds k k') : Dl ds (chkT l k) (chkT l k') := by
  intro st ex st' e
  cases l with
  | nil => exact hk _ _ _ e
  | cons x l =>
    have e' : Bool.rec (motive := fun _ => Option (Ex × StT)) none (k st) (checksT (getT st.fr) (evT st.fr) st.h (x :: l)) = some (ex, st') := e
    show Bool.rec (motive := fun _ => Option (Ex × StT)) none (k' (st.plus ds)) (checksT (getT st.fr) (evT st.fr) st.h (x :: l)) = some (ex, st'.plus ds)
    cases hc : checksT (getT st.fr) (evT st.fr) st.h (x :: l) with
    | true => rw [hc] at e'; exact hk _ _ _ e'
    | false => rw [hc] at e'; cases e'
theorem guardT_ds {g : Option (Nat × Bool)} {st st' : StT} {ex : Ex} {y y' n n' : Option (Ex × StT)} (hy : y = some (ex, st') → y' = some (ex, st'.plus ds)) (hn : n = some (ex, st') → n' = some (ex, st'.plus ds)) (e : guardT g st y n = some (ex, st')) : guardT g (st.plus ds) y' n' = some (ex, st'.plus ds) := by
  cases g with
  | none => exact hy e
  | some q =>
    simp only [guardT, StT.plus] at e ⊢
    split at e
    · split at e
      · exact hy e
      · exact hn e
    · cases e
    · exact hn e
theorem stepsT_ds {n : Nat} : ∀ (l : List Step), Dl ds (stepsT D (execT D n) l) (stepsT D (execT D n) l)
  | [], st, ex, st', e => by
    have e' : some (Ex.nrm, st) = some (ex, st') := e
    cases e'
    rfl
  | s0 :: l, st, ex, st', e => by
    have ih := stepsT_ds (n := n) l
    obtain ⟨d, op, g, ck⟩ := s0
    rw [stepsT_unf] at e ⊢
    have hk := chkT_ds (l := ck) ih
    exact guardT_ds (fun e => doT_ds hk e) (fun e => hk (.mk (putT st.fr d (.tup [])) st.ds st.h) _ _ e) e
theorem execT_ds : ∀ (n : Nat) (c : ACode), Dl ds (execT D n c) (execT D n c)
  | 0, c, st, ex, st', e => by cases e
  | n + 1, c, st, ex, st', e => by
    have ih := execT_ds n
    cases c with
    | region l =>
      have e' : wipedT l (stepsT D (execT D n) l st) = some (ex, st') := e
      show wipedT l (stepsT D (execT D n) l (st.plus ds)) = some (ex, st'.plus ds)
      cases hq : stepsT D (execT D n) l st with
      | none => rw [hq] at e'; cases e'
      | some q =>
        obtain ⟨ex1, st1⟩ := q
        rw [hq] at e'
        rw [stepsT_ds l _ _ _ hq]
        cases ex1 <;> (cases e'; rfl)
    | seq a b =>
      have e' : (match execT D n a st with
        | some (.nrm, st') => execT D n b st'
        | e => e) = some (ex, st') := e
      show (match execT D n a (st.plus ds) with
        | some (.nrm, st') => execT D n b st'
        | e => e) = some (ex, st'.plus ds)
      cases hq : execT D n a st with
      | none => rw [hq] at e'; cases e'
      | some q =>
        obtain ⟨ex1, st1⟩ := q
        rw [hq] at e'
        rw [ih _ _ _ _ hq]
        cases ex1 with
        | nrm => exact ih _ _ _ _ e'
        | _ => cases e'; rfl
    | cond x a b =>
      have e' : (match evT st.fr x with
        | .bool t => execT D n (Bool.rec b a t) st
        | _ => none) = some (ex, st') := e
      show (match evT st.fr x with
        | .bool t => execT D n (Bool.rec b a t) (st.plus ds)
        | _ => none) = some (ex, st'.plus ds)
      split at e'
      · rename_i heq
        first | exact ih _ _ _ _ e' | (rw [heq]; exact ih _ _ _ _ e') | (simp only [heq]; exact ih _ _ _ _ e')
      · cases e'
    | block id a =>
      have e' : (match execT D n a st with
        | some (.exit i, st') => some (Bool.rec (motive := fun _ => Ex) (.exit i) .nrm (Nat.beq i id), st')
        | e => e) = some (ex, st') := e
      show (match execT D n a (st.plus ds) with
        | some (.exit i, st') => some (Bool.rec (motive := fun _ => Ex) (.exit i) .nrm (Nat.beq i id), st')
        | e => e) = some (ex, st'.plus ds)
      cases hq : execT D n a st with
      | none => rw [hq] at e'; cases e'
      | some q =>
        obtain ⟨ex1, st1⟩ := q
        rw [hq] at e'
        rw [ih _ _ _ _ hq]
        cases ex1 <;> (cases e'; rfl)
    | loop a =>
      have e' : (match execT D n a st with
        | some (.nrm, st') => execT D n (.loop a) st'
        | e => e) = some (ex, st') := e
      show (match execT D n a (st.plus ds) with
        | some (.nrm, st') => execT D n (.loop a) st'
        | e => e) = some (ex, st'.plus ds)
      cases hq : execT D n a st with
      | none => rw [hq] at e'; cases e'
      | some q =>
        obtain ⟨ex1, st1⟩ := q
        rw [hq] at e'
        rw [ih _ _ _ _ hq]
        cases ex1 with
        | nrm => exact ih _ _ _ _ e'
        | _ => cases e'; rfl
    | scope a => exact ih _ _ _ _ e
    | inscope a b =>
      have e' : (match execT D n a st with
        | some (.goto l, st') => match findLabel b l with
          | some rest => execT D n (.inscope rest b) st'
          | none => some (.goto l, st')
        | e => e) = some (ex, st') := e
      show (match execT D n a (st.plus ds) with
        | some (.goto l, st') => match findLabel b l with
          | some rest => execT D n (.inscope rest b) st'
          | none => some (.goto l, st')
        | e => e) = some (ex, st'.plus ds)
      cases hq : execT D n a st with
      | none => rw [hq] at e'; cases e'
      | some q =>
        obtain ⟨ex1, st1⟩ := q
        rw [hq] at e'
        rw [ih _ _ _ _ hq]
        cases ex1 with
        | goto l =>
          have e2 : (match findLabel b l with
            | some rest => execT D n (.inscope rest b) st1
            | none => some (Ex.goto l, st1)) = some (ex, st') := e'
          show (match findLabel b l with
            | some rest => execT D n (.inscope rest b) (st1.plus ds)
            | none => some (Ex.goto l, st1.plus ds)) = some (ex, st'.plus ds)
          cases hf : findLabel b l with
          | none => rw [hf] at e2; cases e2; rfl
          | some rest => rw [hf] at e2; exact ih _ _ _ _ e2
        | _ => cases e'; rfl
    | rregion l => cases e
    | skip => cases e; rfl
    | exit i => cases e; rfl
    | label l => cases e; rfl
    | goto l => cases e; rfl
    | ret => cases e; rfl
theorem Runs.plus {c : ACode} {st st' : StT} {ex : Ex} (h : Runs D c st ex st') : Runs D c (st.plus ds) ex (st'.plus ds) := by
  obtain ⟨n, h⟩ := h
  exact ⟨n, execT_ds n c _ _ _ h⟩
end
end Go.Ab

namespace Go.Ab
section
variable {D : OCtx} {cap : Nat} {m : Kn} {h : Heap} {Q : Ex → Kn → Heap → Prop} {l : List Step}
theorem WX.near {op op' : AOp} {d : Option Nat} {h' : Heap} {v : V} (e : mapO (kop m) op = some op') (he : Does op' h v h') (hx : (op.far || op.isRecover || !dOk cap d) = false) (w : WX D cap l (kput m d v) h' Q) : WX D cap (⟨d, op, none, []⟩ :: l) m h Q :=
  WX.step (WS.near e he hx (WS.nil w))
theorem WX.guardT {t : Nat} {b : Bool} {op : AOp} {d : Option Nat} (e : m.get t = some (.bool b)) (w : WX D cap (⟨d, op, none, []⟩ :: l) m h Q) : WX D cap (⟨d, op, some (t, b), []⟩ :: l) m h Q := WX.guardC e w
theorem WX.guardF {t : Nat} {b b' : Bool} {op : AOp} {d : Option Nat} (e : m.get t = some (.bool b')) (hb : b' = !b) (hx : dOk cap d = true) (w : WX D cap l (kput m d (.tup [])) h Q) : WX D cap (⟨d, op, some (t, b), []⟩ :: l) m h Q :=
  WX.step (WS.guardF e hb hx (WS.nil w))
theorem WX.guardV {t : Nat} {b : Bool} {vs : List V} {op : AOp} {d : Option Nat} (e : m.get t = some (.tup vs)) (hx : dOk cap d = true) (w : WX D cap l (kput m d (.tup [])) h Q) : WX D cap (⟨d, op, some (t, b), []⟩ :: l) m h Q :=
  WX.step (WS.guardV e hx (WS.nil w))
theorem WX.guardK {p : Prop} [Decidable p] {t : Nat} {b : Bool} {op : AOp} {d : Option Nat} (e : m.get t = some (.bool (decide p))) (ht : p → WX D cap (⟨d, op, some (t, b), []⟩ :: l) ((t, .bool true) :: m) h Q)
    (hf : ¬ p → WX D cap (⟨d, op, some (t, b), []⟩ :: l) ((t, .bool false) :: m) h Q) : WX D cap (⟨d, op, some (t, b), []⟩ :: l) m h Q := fun fr hF => by
  have hg := hF.kn t _ e
  have key : ∀ u, getT fr t = u → Has fr cap ((t, u) :: m) := fun u hu => ⟨hF.size, fun i v hi => by
    rw [get_cons] at hi
    by_cases hj : t = i
    · subst hj; simp only [if_true] at hi; cases hi; exact ⟨hg.1, hu⟩
    · simp only [hj, if_false] at hi; exact hF.kn i v hi⟩
  by_cases hp : p
  · exact ht hp fr (key _ (hg.2.trans (by simp [hp])))
  · exact hf hp fr (key _ (hg.2.trans (by simp [hp])))
theorem WX.sup {m' : Kn} (w : WX D cap l m' h Q) (hs : Sup m m') : WX D cap l m h Q := fun fr hf => w fr (hf.sup hs)
theorem WX.callv {g g' : Opd} {f : Nat} {pre caps : List V} {xs xs' : List Opd} {d : Option Nat} {C : V → Heap → Prop} (eg : kop m g = some g') (hg : vev g' = .fn f pre caps) (e : gL (kop m) xs = some xs') (hx : dOk cap d = true)
    (he : CallW D f (appL pre (appL (xs'.map vev) caps)) h C) (w : ∀ v h', C v h' → WX D cap l (kput m d v) h' Q) : WX D cap (⟨d, .callv g xs, none, []⟩ :: l) m h Q :=
  WX.step (WS.callv eg hg e hx he fun v h' hc => WS.nil (w v h' hc))
theorem o_mkifc {t : Nat} {x : V} : Does (.mkifc t (.v x)) h (.ifc t x) h := ⟨rfl⟩
theorem o_min {k : IntKind} {a b : Int} : Does (.mm false [.v (.int k a), .v (.int k b)]) h (.int k (if b < a then b else a)) h := by
  refine ⟨?_⟩; rw [op1v]; simp [op1, ev, mmAll, mm2]
theorem o_max {k : IntKind} {a b : Int} : Does (.mm true [.v (.int k a), .v (.int k b)]) h (.int k (if a < b then b else a)) h := by
  refine ⟨?_⟩; rw [op1v]; simp [op1, ev, mmAll, mm2]
end
/-! lists of whole numbers, shut or in memory -/

structure IntsAt (h : Heap) (v : V) (l : List Int) : Prop where
  row : h.row 1 v = some (intsV l)
  sl : v = .nilsl ∨ v = .esl ∨ (∃ c, v = .fsl (intsV l) c) ∨ ∃ id off len c, v = .msl id 1 off len c ∧ len = l.length
theorem IntsAt.shut {h : Heap} {v : V} {l : List Int} (i : IntsAt h v l) : IntsAt { h with floors := h.next :: h.floors } v l := ⟨i.row, i.sl⟩
theorem ints_len (l : List Int) : (intsV l).length = l.length := by simp [intsV]
theorem IntsAt.len {h : Heap} {v : V} {l : List Int} (i : IntsAt h v l) : lenOf v = some l.length := by
  rcases i.sl with rfl | rfl | ⟨c, rfl⟩ | ⟨id, off, len, c, rfl, rfl⟩
  · have := i.row
    simp only [Heap.row, Option.some.injEq] at this
    rw [← ints_len l, ← this]
    rfl
  · have := i.row
    simp only [Heap.row, Option.some.injEq] at this
    rw [← ints_len l, ← this]
    rfl
  · show some (intsV l).length = _
    rw [ints_len]
  · rfl
theorem o_lenA {h : Heap} {v : V} {l : List Int} (i : IntsAt h v l) : Does (.len 1 (.v v)) h (.int .i64 (l.length : Nat)) h := by
  refine ⟨?_⟩; rw [op1v]
  have hr := i.len
  rcases i.sl with rfl | rfl | ⟨c, rfl⟩ | ⟨id, off, len, c, rfl, rfl⟩ <;> (simp only [op1, ev, hr, if_true]; rfl)
theorem intsV_at {l : List Int} {n : Nat} (hn : n < l.length) : (intsV l)[n]? = some (.int .i64 (l.getD n 0)) := by simp [intsV, List.getD, List.getElem?_eq_getElem hn]
/-- the n-th of them -/
theorem o_at {h : Heap} {v : V} {l : List Int} {k : IntKind} {z : Int} (n : Nat) (i : IntsAt h v l) (hz : z = n) (hn : n < l.length) : ∃ a, Does (.iaddr 1 (.v v) (.v (.int k z))) h a h ∧ Does (.load 1 false (.v a)) h (.int .i64 (l.getD n 0)) h := by
  subst hz
  rcases i.sl with rfl | rfl | ⟨c, rfl⟩ | ⟨id, off, len, c, rfl, rfl⟩
  · have := i.len
    simp only [lenOf, Option.some.injEq] at this
    omega
  · have := i.len
    simp only [lenOf, Option.some.injEq] at this
    omega
  · exact ⟨_, o_iaddrF (v := .int .i64 (l.getD n 0)) rfl (intsV_at hn) rfl, o_loadF⟩
  · refine ⟨_, o_iaddrM rfl hn, ?_⟩
    have hr := i.row
    simp only [Heap.row, if_true] at hr
    split at hr
    · rename_i cs hcs
      split at hr
      · rename_i hle
        simp only [Nat.mul_one, Option.some.injEq] at hr hle
        rw [Nat.mul_one]
        have h1 : (cs.drop (off + n))[0]? = some (.int .i64 (l.getD n 0)) := by
          have h2 := intsV_at hn
          rw [← hr, List.getElem?_take_of_lt hn, List.getElem?_drop] at h2
          rw [List.getElem?_drop]
          exact h2
        cases hd : cs.drop (off + n) with
        | nil => rw [hd] at h1; cases h1
        | cons x r =>
          rw [hd] at h1
          cases h1
          exact o_load1 hcs hd
      · cases hr
    · cases hr
/-- old lists are as they were -/
theorem IntsAt.hp {h : Heap} {bs : List (Option (List V))} {v : V} {l : List Int} (hf : h.Fine) (i : IntsAt h v l) : IntsAt (hp h bs) v l := by
  refine ⟨?_, i.sl⟩
  have hr := i.row
  rcases i.sl with rfl | rfl | ⟨c, rfl⟩ | ⟨id, off, len, c, rfl, rfl⟩
  · exact hr
  · exact hr
  · exact hr
  · simp only [Heap.row, if_true] at hr ⊢
    split at hr
    · rename_i cs hcs
      rw [hp_old bs (cells_lt hcs) hf, hcs]
      exact hr
    · cases hr
theorem ints_shut {u : V} {l : List Int} {h : Heap} (hu : IsInts u l) : IntsAt h u l := by
  refine ⟨hu.row, ?_⟩
  rcases hu with ⟨rfl, rfl⟩ | ⟨rfl, rfl⟩ | ⟨rfl, _⟩
  · exact .inl rfl
  · exact .inr (.inl rfl)
  · exact .inr (.inr (.inl ⟨_, rfl⟩))

section
variable {D : OCtx} {cap : Nat} {m : Kn} {h : Heap} {Q : Ex → Kn → Heap → Prop} {a b c : ACode}
/-- a round of a loop -/
theorem W.unroll (w : W D cap c m h (thenW D cap (.loop c) Q)) : W D cap (.loop c) m h Q := fun fr hf =>
  WP.loop ((w fr hf).mono fun ex st ⟨h1, m', h2, h3⟩ => by
    obtain ⟨fr', ds', h'⟩ := st
    simp only at h1
    subst h1
    cases ex with
    | nrm => exact h3 fr' h2
    | _ => exact ⟨rfl, m', h2, h3⟩)
theorem W.yesP {p : Prop} [Decidable p] {t : Nat} (e : m.get t = some (.bool (decide p))) (hp : p) (w : W D cap a m h Q) : W D cap (.cond (.t t) a b) m h Q := W.yes (x' := .v (.bool (decide p))) (by simp only [kop, e, Option.map_some]) (by simp [vev, hp]) w
theorem W.noP {p : Prop} [Decidable p] {t : Nat} (e : m.get t = some (.bool (decide p))) (hp : ¬ p) (w : W D cap b m h Q) : W D cap (.cond (.t t) a b) m h Q := W.no (x' := .v (.bool (decide p))) (by simp only [kop, e, Option.map_some]) (by simp [vev, hp]) w
theorem o_fieldA {off n : Nat} {g : Bool} {cs : List V} {v : V} (e : part g n (cs.drop off) = some v) : Does (.field off n g (.v (.agg cs))) h v h := ⟨by show (part g n (cs.drop off)).map (fun v => (v, h)) = _; rw [e]; rfl⟩
end
section
variable {h0 : Heap} {bs : List (Option (List V))} {sz bytes j k q n : Nat} {l c : List V}
/-- the first element of a slice -/
theorem o_appN (q : Nat) (hq : Nat.beq (lenL bs) q = true) (hj : bget bs j = some c) (hc : Nat.beq (lenL c) sz = true) (hb : Nat.ble bytes maxRow = true) : Does (.app sz bytes (.v .nilsl) (.v (.msl (h0.next + j) sz 0 1 none))) (hp h0 bs) (.msl (h0.next + q) sz 0 1 none) (hp h0 (badd bs c)) := by
  have h1 := Nat.eq_of_beq_eq_true hq
  have h2 := Nat.eq_of_beq_eq_true hc
  rw [lenL_eq] at h1 h2
  subst h1
  have hrow : (hp h0 bs).row sz (.msl (h0.next + j) sz 0 1 none) = some c := by
    rw [row_msl (n := 1) hj (by omega)]
    simp [← h2]
  refine ⟨?_⟩
  rw [op1v]
  have hb' : 1 * bytes ≤ maxRow := by have := Nat.le_of_ble_eq_true hb; omega
  simp only [op1, ev, append, hrow, lenOf, hb', if_true]
  rw [← hp_new]
  rfl
/-- one more element, where there is no room -/
theorem o_appF (hf : h0.Fine) (q : Nat) (hq : Nat.beq (lenL bs) q = true) (hk : bget bs k = some l) (hl : Nat.beq (lenL l) (n * sz) = true) (hj : bget bs j = some c) (hc : Nat.beq (lenL c) sz = true) (hz : Nat.blt 0 sz = true) (hb : Nat.ble ((n + 1) * bytes) maxRow = true) :
    Does (.app sz bytes (.v (.msl (h0.next + k) sz 0 n none)) (.v (.msl (h0.next + j) sz 0 1 none))) (hp h0 bs) (.msl (h0.next + q) sz 0 (n + 1) none) (hp h0 (badd (bset bs k none) (l ++ c))) := by
  have h1 := Nat.eq_of_beq_eq_true hq
  have h2 := Nat.eq_of_beq_eq_true hc
  have h3 := Nat.eq_of_beq_eq_true hl
  have h4 := Nat.le_of_ble_eq_true hb
  have h5 : 0 < sz := by simpa [Nat.blt_eq] using hz
  rw [lenL_eq] at h1 h2 h3
  subst h1
  have hrow : (hp h0 bs).row sz (.msl (h0.next + j) sz 0 1 none) = some c := by
    rw [row_msl (n := 1) hj (by omega)]
    simp [← h2]
  have hmine : ∀ k, (hp h0 bs).mine (h0.next + k) = true := fun k => by
    simp only [Heap.mine, List.all_eq_true, decide_eq_true_eq]
    exact fun f m => Nat.le_trans (hf.fl f m) (Nat.le_add_right _ _)
  have hk' := bget_lt hk
  have h6 : ¬ (n + 1) * sz ≤ l.length := by rw [h3, Nat.add_mul, Nat.one_mul]; omega
  have h7 : ¬ l.length < n * sz := by omega
  have h8 : l.take (n * sz) = l := List.take_of_length_le (by omega)
  refine ⟨?_⟩
  rw [op1v]
  simp only [op1, ev, append, hrow, lenOf, ne_eq, not_true_eq_false, if_false, hp_cells, hk, h6, h7, h8, hmine, h4, Bool.true_and, decide_true, if_true]
  rw [← hp_new, ← hp_set h0 hk']
  rfl
end
/-! blocks beside the reader's -/
section
variable {h0 : Heap} {r a : Nat} {L : V} {bs : List (Option (List V))} {off n : Nat} {l : List V} {m : Kn}
theorem o_allocR (k : Nat) (hk : Nat.beq (lenL bs) k = true) {z : List V} : Does (.alloc z) (hp (rput h0 r L a) bs) (.mptr (h0.next + k) 0) (hp (rput h0 r L a) (badd bs z)) := o_allocH k hk
theorem o_boxR (k : Nat) (hk : Nat.beq (lenL bs) k = true) {x : V} : Does (.box (.v x)) (hp (rput h0 r L a) bs) (.mptr (h0.next + k) 0) (hp (rput h0 r L a) (badd bs x.cells)) := o_boxH k hk
theorem o_loadHR {k : Nat} {v : V} (e : hload bs k off = some v) : Does (.load 1 false (.v (.mptr (h0.next + k) off))) (hp (rput h0 r L a) bs) v (hp (rput h0 r L a) bs) := o_loadH (h0 := rput h0 r L a) e
theorem o_loadHNR {k : Nat} (e : bget bs k = some l) (hn : Nat.ble (off + n) (lenL l) = true) : Does (.load n true (.v (.mptr (h0.next + k) off))) (hp (rput h0 r L a) bs) (.agg ((l.drop off).take n)) (hp (rput h0 r L a) bs) := o_loadHN (h0 := rput h0 r L a) e hn
theorem o_storeHR {k : Nat} {x : V} (hf : h0.Fine) (e : bget bs k = some l) (hx : (Nat.beq (lenL x.cells) n && Nat.ble (off + n) (lenL l)) = true) :
    Does (.store n (.v (.mptr (h0.next + k) off)) (.v x)) (hp (rput h0 r L a) bs) .undef (hp (rput h0 r L a) (bput bs k off n x.cells)) := o_storeH (h0 := rput h0 r L a) (rput_fine hf) e hx
theorem o_litHR (k : Nat) (hk : Nat.beq (lenL bs) k = true) {sz n : Nat} {z cs : List V} {ps : List (Nat × Nat × Opd)} (e : fill z (ps.map fun p => (p.1, p.2.1, vev p.2.2)) = some cs) :
    Does (.lit sz z n ps) (hp (rput h0 r L a) bs) (.msl (h0.next + k) sz 0 n none) (hp (rput h0 r L a) (badd bs cs)) := o_litH (h0 := rput h0 r L a) k hk e
theorem resK_cellR {x n k off : Nat} {isAgg : Bool} {l vs : List V} {v : V} {rs : List RVar} (e1 : m.get x = some (.mptr (h0.next + k) off)) (e2 : bget bs k = some l) (e3 : part isAgg n (l.drop off) = some v) (e4 : resK m (hp (rput h0 r L a) bs) rs = some vs) :
    resK m (hp (rput h0 r L a) bs) (.cell x n isAgg :: rs) = some (v :: vs) := resK_cell (h0 := rput h0 r L a) e1 e2 e3 e4
theorem o_appNR {sz bytes j : Nat} {c : List V} (q : Nat) (hq : Nat.beq (lenL bs) q = true) (hj : bget bs j = some c) (hc : Nat.beq (lenL c) sz = true) (hb : Nat.ble bytes maxRow = true) : Does (.app sz bytes (.v .nilsl) (.v (.msl (h0.next + j) sz 0 1 none))) (hp (rput h0 r L a) bs) (.msl (h0.next + q) sz 0 1 none) (hp (rput h0 r L a) (badd bs c)) :=
  o_appN (h0 := rput h0 r L a) q hq hj hc hb
theorem o_appFR {sz bytes j k n : Nat} {l c : List V} (hf : h0.Fine) (q : Nat) (hq : Nat.beq (lenL bs) q = true) (hk : bget bs k = some l) (hl : Nat.beq (lenL l) (n * sz) = true) (hj : bget bs j = some c) (hc : Nat.beq (lenL c) sz = true) (hz : Nat.blt 0 sz = true) (hb : Nat.ble ((n + 1) * bytes) maxRow = true) :
    Does (.app sz bytes (.v (.msl (h0.next + k) sz 0 n none)) (.v (.msl (h0.next + j) sz 0 1 none))) (hp (rput h0 r L a) bs) (.msl (h0.next + q) sz 0 (n + 1) none) (hp (rput h0 r L a) (badd (bset bs k none) (l ++ c))) :=
  o_appF (h0 := rput h0 r L a) (rput_fine hf) q hq hk hl hj hc hz hb
theorem cells_r {k : Nat} (e : bget bs k = some l) : (hp (rput h0 r L a) bs).cellsOf (h0.next + k) = some l := (hp_cells (rput h0 r L a) bs k).trans e
end
/-- a call that reads, where memory is as wanted -/
def PXC (D : OCtx) (T : Nat) (f : Nat) (args : List V) (r : Nat) (L : V) (a : Nat) (x : Ans) (Pre : Heap → Prop) : Prop := ∀ h : Heap, h.Fine → h.cellsOf r = some [L, .int .i64 (a : Nat)] → Pre h → CallX D f args h (ansC T r L h x)
section
variable {D : OCtx} {T f r a b : Nat} {L : V} {x : Ans} {cap : Nat} {m : Kn} {Q : Ex → Kn → Heap → Prop} {h0 : Heap} {bs : List (Option (List V))} {l : List Step} {Pre : Heap → Prop}
theorem PX.pxc {args : List V} (he : PX D T f args r L a x) : PXC D T f args r L a x Pre := fun h h1 h2 _ => he h h1 h2
theorem PXC.tidy {o : OFunc} {args : List V} (hpre : ∀ h : Heap, Pre h → Pre { h with floors := h.next :: h.floors }) (ho : D.orc f = none) (hc : D.code f = some o) (ht : D.tidy f = true) (hn : Nat.beq (lenL args) o.np = true) (hl : Nat.ble (lenL args) 8 = true)
    (w : ∀ h1 : Heap, h1.Fine → r < h1.next → Pre h1 → rput h1 r L a = h1 → W D (capOfD o.dep) o.body (argsK 0 args) (hp (rput h1 r L a) []) (doneX o.results (ansF T r L h1 x))) : PXC D T f args r L a x Pre := fun h hF hr hP => by
  refine CallX.shut ho hc ht hn hl ?_
  have hlt := cells_lt hr
  have hs := rput_same (h := { h with floors := h.next :: h.floors }) hr
  have w1 := w _ hF.shut hlt (hpre h hP) hs
  rw [hp_nil, hs] at w1
  refine w1.mono fun ex m' h' q => ?_
  have key : ∀ o' : Out, ansF T r L { h with floors := h.next :: h.floors } x o' h' → ∃ q', frzOut h' h.next o' = some q' ∧ ansC T r L h x q' (h'.tidied h) := by
    intro o' q
    cases x with
    | val v b =>
      obtain ⟨u, bs, rfl, rfl, h5⟩ := q
      exact ⟨.ret v, by show (freeze _ h.next fuelF u).map Out.ret = _; rw [h5]; rfl, rfl, rput_tidied⟩
    | bad e p =>
      obtain ⟨rfl, b, bs, rfl⟩ := q
      exact ⟨.pan (stopV T e p), rfl, rfl, b, rput_tidied⟩
  cases ex with
  | nrm => obtain ⟨vs, h4, q⟩ := q; exact ⟨vs, h4, key _ q⟩
  | ret => obtain ⟨vs, h4, q⟩ := q; exact ⟨vs, h4, key _ q⟩
  | pan v => exact key _ q
  | _ => exact q
theorem PX.open {o : OFunc} {args : List V} (ho : D.orc f = none) (hc : D.code f = some o) (ht : D.tidy f = false) (hn : Nat.beq (lenL args) o.np = true) (hl : Nat.ble (lenL args) 8 = true)
    (w : ∀ h1 : Heap, h1.Fine → r < h1.next → W D (capOfD o.dep) o.body (argsK 0 args) (hp (rput h1 r L a) []) (doneX o.results fun q h' => ansC T r L h1 x q h')) : PX D T f args r L a x := fun h hF hr => by
  refine CallX.open ho hc ht hn hl ?_
  have w1 := w _ hF (cells_lt hr)
  rw [hp_nil, rput_same hr] at w1
  exact w1
theorem pxc_call {v : V} {args : List V} (hf : h0.Fine) (hr : r < h0.next) (hp' : Pre (hp (rput h0 r L a) bs)) (he : PXC D T f args r L a (.val v b) Pre) : CallW D f args (hp (rput h0 r L a) bs) fun u h' => u = v ∧ h' = hp (rput h0 r L b) bs := by
  obtain ⟨o, h', hc, ho, hh⟩ := he _ (hp_fine (rput_fine hf)) (rcells hf hr) hp'
  subst ho hh
  rw [hp_rput (by exact hr), rput_rput] at hc
  exact ⟨v, _, hc, rfl, rfl⟩
theorem WX.valP {v : V} {xs xs' : List Opd} {d : Option Nat} (hf : h0.Fine) (hr : r < h0.next) (hp' : Pre (hp (rput h0 r L a) bs)) (e : gL (kop m) xs = some xs') (hx : dOk cap d = true) (he : PXC D T f (xs'.map vev) r L a (.val v b) Pre) (w : WX D cap l (kput m d v) (hp (rput h0 r L b) bs) Q) :
    WX D cap (⟨d, .call f xs, none, []⟩ :: l) m (hp (rput h0 r L a) bs) Q :=
  WX.step (WS.call e hx (pxc_call hf hr hp' he) fun u h' hc => by obtain ⟨rfl, rfl⟩ := hc; exact WS.nil w)
/-- behind the call is looked again -/
theorem WX.valC {v : V} {xs xs' : List Opd} {d : Option Nat} {ck : List (Nat × Option (Nat × Bool) × AOp)} (hf : h0.Fine) (hr : r < h0.next) (e : gL (kop m) xs = some xs') (hx : dOk cap d = true) (he : PX D T f (xs'.map vev) r L a (.val v b)) (hc : CkG (kput m d v) (hp (rput h0 r L b) bs) ck)
    (w : WX D cap l (kput m d v) (hp (rput h0 r L b) bs) Q) : WX D cap (⟨d, .call f xs, none, ck⟩ :: l) m (hp (rput h0 r L a) bs) Q :=
  WX.step (WS.callG e hx (pxc_call (Pre := fun _ => True) hf hr trivial he.pxc) fun u h' hc' => by obtain ⟨rfl, rfl⟩ := hc'; exact ⟨hc, WS.nil w⟩)
theorem WX.badP {err : Int} {p : Nat} {xs xs' : List Opd} {d : Option Nat} {ck : List (Nat × Option (Nat × Bool) × AOp)} (hf : h0.Fine) (hr : r < h0.next) (hp' : Pre (hp (rput h0 r L a) bs)) (e : gL (kop m) xs = some xs') (he : PXC D T f (xs'.map vev) r L a (.bad err p) Pre)
    (q : ∀ b, Q (.pan (stopV T err p)) [] (hp (rput h0 r L b) bs)) : WX D cap (⟨d, .call f xs, none, ck⟩ :: l) m (hp (rput h0 r L a) bs) Q := by
  refine WX.callP (C := fun u h' => u = stopV T err p ∧ ∃ b, h' = hp (rput h0 r L b) bs) e ?_ fun u h' hc => by obtain ⟨rfl, b, rfl⟩ := hc; exact q b
  obtain ⟨o, h', hc, ho, b, hh⟩ := he _ (hp_fine (rput_fine hf)) (rcells hf hr) hp'
  subst ho hh
  rw [hp_rput (by exact hr), rput_rput] at hc
  exact ⟨_, _, hc, rfl, b, rfl⟩
end
end Go.Ab

namespace Go.Ab

/-- what is known when a region panics at its first step -/
def wipeK : List Step → Kn → Kn
  | [], m => m
  | s :: r, m => wipeK r (kput m s.dst .undef)
def dstsOk (cap : Nat) : List Step → Bool
  | [] => true
  | s :: r => dOk cap s.dst && dstsOk cap r
theorem Has.wipe {cap : Nat} : ∀ {l : List Step} {fr : Fr} {m : Kn}, Has fr cap m → dstsOk cap l = true → Has (wipeT l fr) cap (wipeK l m)
  | [], _, _, h, _ => h
  | s :: r, fr, m, h, hd => by
    simp only [dstsOk, Bool.and_eq_true] at hd
    exact Has.wipe (l := r) (h.put hd.1 .undef) hd.2
section
variable {D : OCtx} {cap : Nat} {m : Kn} {h : Heap} {Q : Ex → Kn → Heap → Prop} {l : List Step}
theorem W.panFirst {f : Nat} {xs xs' : List Opd} {d : Option Nat} {ck : List (Nat × Option (Nat × Bool) × AOp)} {C : V → Heap → Prop} (e : gL (kop m) xs = some xs') (hd : dstsOk cap (⟨d, .call f xs, none, ck⟩ :: l) = true) (he : CallP D f (xs'.map vev) h C)
    (q : ∀ v h', C v h' → Q (.pan v) (wipeK (⟨d, .call f xs, none, ck⟩ :: l) m) h') : W D cap (.region (⟨d, .call f xs, none, ck⟩ :: l)) m h Q := fun fr hf => by
  have he' : CallP D f (xs.map (evT fr)) h C := by rw [hf.args e]; exact he
  obtain ⟨v, h', ⟨n, e1⟩, hq⟩ := he'
  refine ⟨.pan v, ⟨wipeT (⟨d, .call f xs, none, ck⟩ :: l) fr, [], h'⟩, ⟨n + 1, ?_⟩, rfl, _, hf.wipe hd, q v h' hq⟩
  show wipedT _ (stepsT D (execT D n) _ ⟨fr, [], h⟩) = _
  rw [stepsT_unf]
  have : mapK (evT fr) xs (fun a => outT d ⟨fr, [], h⟩ (chkT ck (stepsT D (execT D n) l)) (callT D (execT D n) f a h)) = some (.pan v, ⟨fr, [], h'⟩) := by
    rw [mapK_eq]
    have h1 : callT D (execT D n) f (xs.map (evT fr)) h = some (.pan v, h') := e1
    rw [h1]
    rfl
  rw [show guardT none (⟨fr, [], h⟩ : StT) (doT D (execT D n) (.call f xs) d ⟨fr, [], h⟩ (chkT ck (stepsT D (execT D n) l))) (chkT ck (stepsT D (execT D n) l) (.mk (putT fr d (.tup [])) [] h)) = some (.pan v, ⟨fr, [], h'⟩) from this]
  rfl

/-- a code that defers one call -/
def WDf (D : OCtx) (cap : Nat) (c : ACode) (m : Kn) (h : Heap) (df : V) (das : List V) (Q : Ex → Kn → Heap → Prop) : Prop :=
  ∀ fr, Has fr cap m → ∃ ex st', Runs D c ⟨fr, [], h⟩ ex st' ∧ st'.ds = [(df, das)] ∧ ∃ m', Has st'.fr cap m' ∧ Q ex m' st'.h
theorem WDf.seq {a b : ACode} {df : V} {das : List V} (w : W D cap a m h fun ex m' h' => ex = .nrm ∧ WDf D cap b m' h' df das Q) : WDf D cap (.seq a b) m h df das Q := fun fr hf => by
  obtain ⟨ex, st1, hr, hd, m', hm, rfl, hw⟩ := w fr hf
  obtain ⟨fr1, ds1, h1⟩ := st1
  simp only at hd hm hw
  subst hd
  obtain ⟨ex, st2, hr2, hq⟩ := hw fr1 hm
  exact ⟨ex, st2, hr.seq hr2, hq⟩
theorem WDf.here {rest : ACode} {s1 : Step} {t f : Nat} {pre caps : List V} (w : WS D cap [s1] m h fun m' h' => m'.get t = some (.fn f pre caps) ∧ W D cap rest m' h' Q) :
    WDf D cap (.seq (.region [s1, ⟨none, .defer (.t t) [], none, []⟩]) rest) m h (.fn f pre caps) [] Q := fun fr hf => by
  obtain ⟨st1, hr, hd, m', hm, hg, hw⟩ := w fr hf
  obtain ⟨fr1, ds1, h1⟩ := st1
  simp only at hd hm hw
  subst hd
  obtain ⟨ex, st2, hr2, hds, hq⟩ := hw fr1 hm
  obtain ⟨fr2, ds2, h2⟩ := st2
  simp only at hds
  subst hds
  have hdef : StepsR D [⟨none, .defer (.t t) [], none, []⟩] ⟨fr1, [], h1⟩ .nrm ⟨fr1, [(.fn f pre caps, [])], h1⟩ := ⟨0, by
    rw [stepsT_unf]
    show t_defer (.t t) [] none ⟨fr1, [], h1⟩ _ = _
    unfold t_defer
    have : evT fr1 (.t t) = .fn f pre caps := (hm.kn t _ hg).2
    simp only [this]
    rfl⟩
  have hreg := Runs.region (hr.cons hdef) (by simp)
  exact ⟨ex, ⟨fr2, [(.fn f pre caps, [])], h2⟩, hreg.seq (hr2.plus (ds := [(.fn f pre caps, [])])), rfl, hq⟩

/-! the deferred function -/

/-- a deferred function's code -/
def WR (D : OCtx) (cap : Nat) (c : ACode) (md : Md) (m : Kn) (h : Heap) (Q : Ex → Md → Kn → Heap → Prop) : Prop :=
  ∀ fr, Has fr cap m → ∃ n ex md' st', execDT (execT D n) c md ⟨fr, [], h⟩ = some (ex, md', st') ∧ st'.ds = [] ∧ ∃ m', Has st'.fr cap m' ∧ Q ex md' m' st'.h
variable {R : Ex → Md → Kn → Heap → Prop} {md : Md}
theorem WR.seq {a b : ACode} (w : WR D cap a md m h fun ex md' m' h' => ex = .nrm ∧ WR D cap b md' m' h' R) : WR D cap (.seq a b) md m h R := fun fr hf => by
  obtain ⟨n, ex, md1, st1, hr, hd, m', hm, rfl, hw⟩ := w fr hf
  obtain ⟨fr1, ds1, h1⟩ := st1
  simp only at hd hm hw
  subst hd
  obtain ⟨k, ex, md2, st2, hr2, hq⟩ := hw fr1 hm
  refine ⟨max n k, ex, md2, st2, ?_, hq⟩
  have e1 := execDT_le (execT_le D (Nat.le_max_left n k)) _ _ _ _ hr
  have e2 := execDT_le (execT_le D (Nat.le_max_right n k)) _ _ _ _ hr2
  simp only [execDT]
  rw [e1]
  exact e2
theorem WR.yes {x x' : Opd} {a b : ACode} (e : kop m x = some x') (hv : vev x' = .bool true) (w : WR D cap a md m h R) : WR D cap (.cond x a b) md m h R := fun fr hf => by
  obtain ⟨n, ex, md1, st1, hr, hq⟩ := w fr hf
  have hx : evT fr x = .bool true := (hf.opd e).symm.trans hv
  exact ⟨n, ex, md1, st1, by simp only [execDT, hx]; exact hr, hq⟩
theorem WR.no {x x' : Opd} {a b : ACode} (e : kop m x = some x') (hv : vev x' = .bool false) (w : WR D cap b md m h R) : WR D cap (.cond x a b) md m h R := fun fr hf => by
  obtain ⟨n, ex, md1, st1, hr, hq⟩ := w fr hf
  have hx : evT fr x = .bool false := (hf.opd e).symm.trans hv
  exact ⟨n, ex, md1, st1, by simp only [execDT, hx]; exact hr, hq⟩
theorem WR.region {l : List Step} (w : W D cap (.region l) m h fun ex m' h' => R ex md m' h') : WR D cap (.region l) md m h R := fun fr hf => by
  obtain ⟨ex, st1, ⟨n, hr⟩, hd, hq⟩ := w fr hf
  exact ⟨n, ex, md, st1, by rw [execDT_other rfl, hr]; rfl, hd, hq⟩
theorem WR.skip (q : R .nrm md m h) : WR D cap .skip md m h R := fun fr hf => ⟨1, .nrm, md, ⟨fr, [], h⟩, rfl, rfl, m, hf, q⟩
/-- recovers from a panic -/
theorem WR.caught {v : V} {a b : Nat} (ha : dOk cap (some a) = true) (hb : dOk cap (some b) = true) (q : R .nrm (.caught v) (kput (kput m (some a) v) (some b) v) h) :
    WR D cap (.rregion [⟨some a, .recover, none, []⟩, ⟨some b, .mov (.t a), none, []⟩]) (.pan v) m h R := fun fr hf => by
  have h1 := hf.put ha v
  have hg : getT (putT fr (some a) v) a = v := (h1.kn a v (by simp [kput, get_cons])).2
  refine ⟨0, .nrm, .caught v, ⟨putT (putT fr (some a) v) (some b) v, [], h⟩, ?_, rfl, _, h1.put hb v, q⟩
  have e1 : opF (.mov (.t a)) (evT (putT fr (some a) v)) h = some (v, h) := by
    show some (getT (putT fr (some a) v) a, h) = _
    rw [hg]
  show (stepsRT _ _ _).map _ = _
  simp only [stepsRT, stepRT, Option.isNone_none, List.isEmpty_nil, Bool.and_self, if_true, e1, Option.map_some]
/-- there is nothing to recover from -/
theorem WR.calm {a b : Nat} (ha : dOk cap (some a) = true) (hb : dOk cap (some b) = true) (q : R .nrm .ret (kput (kput m (some a) .nilifc) (some b) .nilifc) h) :
    WR D cap (.rregion [⟨some a, .recover, none, []⟩, ⟨some b, .mov (.t a), none, []⟩]) .ret m h R := fun fr hf => by
  have h1 := hf.put ha .nilifc
  have hg : getT (putT fr (some a) .nilifc) a = .nilifc := (h1.kn a .nilifc (by simp [kput, get_cons])).2
  refine ⟨0, .nrm, .ret, ⟨putT (putT fr (some a) .nilifc) (some b) .nilifc, [], h⟩, ?_, rfl, _, h1.put hb .nilifc, q⟩
  have e1 : opF (.mov (.t a)) (evT (putT fr (some a) .nilifc)) h = some (.nilifc, h) := by
    show some (getT (putT fr (some a) .nilifc) a, h) = _
    rw [hg]
  show (stepsRT _ _ _).map _ = _
  simp only [stepsRT, stepRT, Option.isNone_none, List.isEmpty_nil, Bool.and_self, if_true, e1, Option.map_some]
end
/-- how a function leaves -/
def mdOf : Ex → Option Md
  | .nrm | .ret => some .ret
  | .pan v => some (.pan v)
  | _ => none
section
variable {D : OCtx} {f : Nat} {o : OFunc} {args : List V} {h : Heap}
/-- a call of a function whose blocks end with it, which defers one call that recovers -/
theorem CallX.recovers {C : Out → Heap → Prop} {g : Nat} {og : OFunc} {caps : List V} (ho : D.orc f = none) (hc : D.code f = some o) (ht : D.tidy f = true) (hn : Nat.beq (lenL args) o.np = true) (hl : Nat.ble (lenL args) 8 = true)
    (hcg : D.code g = some og) (hng : Nat.beq (lenL caps) og.np = true) (hlg : Nat.ble (lenL caps) 8 = true) (hrg : og.results = [])
    (w : WDf D (capOfD o.dep) o.body (argsK 0 args) { h with floors := h.next :: h.floors } (.fn g [] caps) [] fun ex m1 h1 => ∃ md, mdOf ex = some md ∧
      WR D (capOfD og.dep) og.body md (argsK 0 caps) h1 fun ex2 md2 _ h2 => (ex2 = .nrm ∨ ex2 = .ret) ∧ md2.settle = .ret ∧ ∃ vs u, resK m1 h2 o.results = some vs ∧ freeze h2 h.next fuelF (oneOr vs) = some u ∧ C (.ret u) (h2.tidied h)) : CallX D f args h C := by
  obtain ⟨ex, st1, ⟨n, hr⟩, h1, m1, h2, md, hmd, hw⟩ := w _ (frame_has (by rw [lenL_eq] at hl; exact Nat.le_of_ble_eq_true hl))
  obtain ⟨fr1, ds1, hp1⟩ := st1
  simp only at h1 h2 hw
  subst h1
  obtain ⟨k, ex2, md2, st2, hr2, hds2, m2, _, hx2, hset, vs, u, hv, hu, hq⟩ := hw _ (frame_has (by rw [lenL_eq] at hlg; exact Nat.le_of_ble_eq_true hlg))
  obtain ⟨fr2, ds2, hp2⟩ := st2
  simp only at hds2 hv hu hq
  subst hds2
  refine ⟨.ret u, hp2.tidied h, ⟨max n k, ?_⟩, hq⟩
  have e1 := execT_le D (Nat.le_max_left n k) _ _ _ hr
  have e2 := execDT_le (execT_le D (Nat.le_max_right n k)) _ _ _ _ hr2
  have hcall : callDT D (execT D (max n k)) g ([] ++ [] ++ caps) md hp1 = some (.ret (.tup []), md2, hp2) := by
    unfold callDT
    simp only [hcg, List.nil_append, hng]
    rw [e2]
    rcases hx2 with rfl | rfl <;> (simp only [List.isEmpty_nil, if_true, hrg]; rfl)
  have hleave : leaveT D (execT D (max n k)) [(.fn g [] caps, [])] md hp1 = some (.ret, hp2) := by
    simp only [leaveT]
    rw [hcall]
    simp only [hset]
  obtain ⟨np, dep, rs, bd⟩ := o
  unfold callFast callT
  simp only [ho, hc, ht]
  simp only [bodyT, hn]
  simp only at e1
  rw [e1]
  have hres := h2.res hv
  cases ex with
  | nrm => cases hmd; simp only [hleave, endedT]; rw [hres]; simp only [Option.map_some, hu]
  | ret => cases hmd; simp only [hleave, endedT]; rw [hres]; simp only [Option.map_some, hu]
  | pan v => cases hmd; simp only [hleave, endedT]; rw [hres]; simp only [Option.map_some, hu]
  | _ => cases hmd
end
end Go.Ab
