/- The program's parser of expressions, told plainly: tokens, readings. -/
import Derived.Test.YtfbikhkmamdjmaaDoorWXF
namespace Go.Proofs.YtfbikhkmamdjmaaDoor.CodesX
open Go Go.Ab
set_option maxHeartbeats 800000
set_option maxRecDepth 20000

/-- a number, evaluated first -/
def heldM {α : Type} (n : Nat) (k : Nat → α) : α := Nat.rec (motive := fun _ => α) (k 0) (fun m _ => k (m + 1)) n
theorem heldM_eq {α : Type} (n : Nat) (k : Nat → α) : heldM n k = k n := by cases n <;> rfl
def sameB : List Nat → List Nat → Bool
  | [], [] => true
  | a :: r, b :: t => match Nat.beq a b with
    | true => sameB r t
    | false => false
  | _, _ => false
/-- a token -/
structure Tk where
  k : Nat
  n : Nat
  p : Nat
  s : List Nat
def Tk.cells (t : Tk) : List V := [.int .i64 (t.k : Int), .int .i64 (t.n : Int), .int .i64 (t.p : Int), .str t.s]
def Tk.v (t : Tk) : V := .agg t.cells
def Tk.zero : Tk := ⟨0, 0, 0, []⟩
def now : List Tk → Tk
  | [] => .zero
  | t :: _ => t
def Lv (ts : List Tk) : V := .fsl (ts.map Tk.v) none
/-- how far one has read when these are left -/
def po (ts l : List Tk) : Nat := ts.length - l.length
/-- these are left of those -/
def Suf (ts l : List Tk) : Prop := ∃ p, ts = p ++ l
theorem Suf.refl {ts : List Tk} : Suf ts ts := ⟨[], rfl⟩
theorem Suf.tail {ts l : List Tk} {t : Tk} (h : Suf ts (t :: l)) : Suf ts l := by
  obtain ⟨p, rfl⟩ := h
  exact ⟨p ++ [t], by simp⟩
theorem Suf.le {ts l : List Tk} (h : Suf ts l) : l.length ≤ ts.length := by
  obtain ⟨p, rfl⟩ := h
  simp
theorem Suf.at {ts l : List Tk} {t : Tk} (h : Suf ts (t :: l)) : ts[po ts (t :: l)]? = some t ∧ po ts (t :: l) < ts.length ∧ po ts l = po ts (t :: l) + 1 := by
  obtain ⟨p, rfl⟩ := h
  have e : po (p ++ t :: l) (t :: l) = p.length := by simp only [po, List.length_append, List.length_cons]; omega
  rw [e]
  refine ⟨by simp, by simp, ?_⟩
  simp only [po, List.length_append, List.length_cons]; omega
theorem po_nil {ts : List Tk} : po ts [] = ts.length := rfl
theorem po_le {ts l : List Tk} : po ts l ≤ ts.length := Nat.sub_le ..

/-- an expression: u is its row of parts -/
inductive EX where
  | mk (k n : Int) (name : List Nat) (kids : List EX) (u : V)
def EX.k : EX → Int | .mk k _ _ _ _ => k
def EX.n : EX → Int | .mk _ n _ _ _ => n
def EX.name : EX → List Nat | .mk _ _ s _ _ => s
def EX.kids : EX → List EX | .mk _ _ _ l _ => l
def EX.u : EX → V | .mk _ _ _ _ u => u
def EX.cells (x : EX) : List V := [i64 x.k, i64 x.n, .str x.name, x.u]
def EX.v (x : EX) : V := .agg x.cells
instance : Inhabited EX := ⟨.mk 0 0 [] [] .nilsl⟩
def mkE (k : Nat) (n : Int) (s : List Nat) (l : List EX) : EX := .mk (k : Nat) n s l (slV (l.map EX.v))
/-- an expression that was read, and how deep it is -/
structure Rd where
  x : EX
  d : Nat
  hu : V.still x.u = true
  hd : d ≤ 40
def Rd.cells (r : Rd) : List V := [i64 r.x.k, i64 r.x.n, .str r.x.name, r.x.u, i64 (r.d : Nat)]
def Rd.v (r : Rd) : V := .agg r.cells
/-- how reading comes out -/
inductive PR (α : Type) where
  | ok (x : α) (l : List Tk)
  | bad (e : Nat) (l : List Tk)
  | out
def PR.bind {α β : Type} (r : PR α) (f : α → List Tk → PR β) : PR β := match r with
  | .ok x l => f x l
  | .bad e l => .bad e l
  | .out => .out
def PR.ans {α : Type} (v : α → V) (ts : List Tk) : PR α → Ans
  | .ok x l => .val (v x) (po ts l)
  | .bad e l => .bad (e : Nat) (po ts l)
  | .out => .bad 0 0
def isT (s : List Nat) (l : List Tk) : Bool := match l with
  | [] => false
  | t :: _ => (match Nat.beq t.k 4 || Nat.beq t.k 2 with
    | true => sameB t.s s
    | false => false)
def tookT (s : List Nat) (l : List Tk) : List Tk := match isT s l with
  | true => l.tail
  | false => l
def mustT (s : List Nat) (l : List Tk) : PR Unit := match isT s l with
  | true => .ok () l.tail
  | false => .bad 2 l
def ofT (k : Nat) (l : List Tk) : PR Tk := match l with
  | [] => .bad 2 []
  | t :: r => (match Nat.beq t.k k with
    | true => .ok t r
    | false => .bad 2 (t :: r))
def txT (k : Nat) : List Nat := formT.getD k []
def signT : List Nat → List Tk → Option (Nat × List Tk)
  | [], _ => none
  | k :: r, l => match isT (txT k) l with
    | true => some (k, l.tail)
    | false => signT r l
def mxN (a b : Nat) : Nat := match Nat.ble a b with
  | true => b
  | false => a
def deepR : List Rd → Nat → Nat
  | [], a => a
  | y :: r, a => deepR r (mxN a (y.d + 1))
def madeR (k : Nat) (kids : List Rd) (l : List Tk) : PR Rd := heldM (deepR kids 1) fun d => if hd : d ≤ 40 then .ok ⟨mkE k 0 [] (kids.map Rd.x), d, slV_still _, hd⟩ l else .bad 4 l
def atomR (k : Nat) (n : Int) (s : List Nat) (l : List Tk) : PR Rd := .ok ⟨mkE k n s [], 1, rfl, by decide⟩ l
inductive Job where
  | level (n w : Nat)
  | loop (n w : Nat) (x : Rd)
  | single (w : Nat)
  | two (k : Nat) (x : Rd) (w : Nat)
  | first (w : Nat)
def runR : Nat → Job → List Tk → PR Rd
  | 0, _, _ => .out
  | f + 1, .level n w, l => (match Nat.beq n 5 with
    | true => runR f (.single w) l
    | false => (runR f (.level (n + 1) w) l).bind fun x l => runR f (.loop n w x) l)
  | f + 1, .loop n w x, l => (match signT (levL.getD n []) l with
    | none => .ok x l
    | some (k, l) => (runR f (.level (n + 1) w) l).bind fun y l => (madeR k [x, y] l).bind fun z l => match Nat.beq n 2 with
      | true => .ok z l
      | false => runR f (.loop n w z) l)
  | f + 1, .single w, l => (match Nat.ble 40 w with
    | true => .bad 4 l
    | false => (match signT [14, 16, 17, 18] l with
      | some (k, l) => (runR f (.single (w + 1)) l).bind fun y l => madeR k [y] l
      | none => (match isT [45] l with
        | true => (ofT 3 l.tail).bind fun t l => atomR 0 (-(t.n : Int)) [] l
        | false => runR f (.first w) l)))
  | f + 1, .two k x w, l => (mustT [44] l).bind fun _ l => (runR f (.level 0 w) l).bind fun y l => (mustT [41] l).bind fun _ l => madeR k [x, y] l
  | f + 1, .first w, l => (match Nat.beq (now l).k 3 with
    | true => (ofT 3 l).bind fun t l => atomR 0 (t.n : Int) [] l
    | false => (match Nat.beq (now l).k 1 with
      | true => (ofT 1 l).bind fun t l => atomR 2 0 t.s l
      | false => (match isT [116, 114, 117, 101] l with
        | true => atomR 1 1 [] l.tail
        | false => (match isT [102, 97, 108, 115, 101] l with
          | true => atomR 1 0 [] l.tail
          | false => (match isT [39] l with
            | true => (ofT 1 l.tail).bind fun t l => atomR 3 0 t.s l
            | false => (match isT [115, 101, 108, 102] l with
              | true => atomR 4 0 [] l.tail
              | false => (match isT [116, 105, 109, 101] l with
                | true => atomR 5 0 [] l.tail
                | false => (match isT [102, 97, 114] l with
                  | true => (mustT [40] l.tail).bind fun _ l => (runR f (.level 0 (w + 1)) l).bind fun x l => runR f (.two 19 x (w + 1)) l
                  | false => (mustT [40] l).bind fun _ l => (runR f (.level 0 (w + 1)) l).bind fun x l => match isT [44] l with
                    | true => runR f (.two 15 x (w + 1)) l
                    | false => (mustT [41] l).bind fun _ l => .ok x l))))))))
end Go.Proofs.YtfbikhkmamdjmaaDoor.CodesX
