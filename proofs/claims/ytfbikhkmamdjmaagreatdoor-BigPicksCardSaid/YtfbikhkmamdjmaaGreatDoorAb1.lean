/- The abstract machine, part 1. The abstract values, heap, operations and the evaluator of the abstract machine: no memory addresses, no tape. From the model's code to the abstract machine's. -/
import GoSem.Claims
import Derived.DeepKeys3
namespace Go.Ab

inductive V where
  | undef
  | bool (b : Bool)
  | int (k : IntKind) (n : Int)
  | str (s : List Nat)
  | flt (k : FloatKind) (b : Nat)
  | cpx (k : FloatKind) (re im : Nat)
  | nilsl
  | esl
  | fsl (es : List V) (cap : Option Nat)
  | msl (id sz off len : Nat) (cap : Option Nat)
  | nilptr
  | fptr (cs : List V)
  | mptr (id off : Nat)
  | agg (cs : List V)
  | tup (vs : List V)
  | fn (f : Nat) (pre caps : List V)
  | nilfn
  | ifc (t : Nat) (v : V)
  | nilifc
  | mp (id : Nat)
  | nilmp
  deriving Inhabited

def V.cells : V → List V
  | .agg cs => cs
  | .undef | .tup _ => []
  | v => [v]

/-- a value of one cell -/
def V.one : V → Bool
  | .undef | .agg _ | .tup _ => false
  | _ => true

mutual
def V.beq : V → V → Bool
  | .undef, .undef => true
  | .bool a, .bool b => a == b
  | .int j a, .int k b => decide (j = k) && decide (a = b)
  | .str a, .str b => decide (a = b)
  | .flt j a, .flt k b => decide (j = k) && decide (a = b)
  | .cpx j a b, .cpx k c d => decide (j = k) && decide (a = c) && decide (b = d)
  | .nilsl, .nilsl => true
  | .esl, .esl => true
  | .fsl a c, .fsl b d => V.beqs a b && decide (c = d)
  | .msl a b c d e, .msl a' b' c' d' e' => decide (a = a') && decide (b = b') && decide (c = c') && decide (d = d') && decide (e = e')
  | .nilptr, .nilptr => true
  | .fptr a, .fptr b => V.beqs a b
  | .mptr a b, .mptr c d => decide (a = c) && decide (b = d)
  | .agg a, .agg b => V.beqs a b
  | .tup a, .tup b => V.beqs a b
  | .fn f a c, .fn g b d => decide (f = g) && V.beqs a b && V.beqs c d
  | .nilfn, .nilfn => true
  | .ifc t a, .ifc u b => decide (t = u) && V.beq a b
  | .nilifc, .nilifc => true
  | .mp a, .mp b => decide (a = b)
  | .nilmp, .nilmp => true
  | _, _ => false
def V.beqs : List V → List V → Bool
  | [], [] => true
  | a :: x, b :: y => V.beq a b && V.beqs x y
  | _, _ => false
end

/-- a mutable block: cells, or a map's entries -/
inductive Blk where
  | cells (l : List V)
  | map (es : List (V × V))
  deriving Inhabited

structure Heap where
  next : Nat
  floors : List Nat
  bl : List (Option Blk)
  deriving Inhabited

def Heap.get (h : Heap) (id : Nat) : Option Blk :=
  if id < h.next then (h.bl[h.next - 1 - id]?).join else none
def Heap.new (h : Heap) (b : Blk) : Heap := { h with next := h.next + 1, bl := some b :: h.bl }
def Heap.put (h : Heap) (id : Nat) (b : Option Blk) : Heap := { h with bl := h.bl.set (h.next - 1 - id) b }
def Heap.cellsOf (h : Heap) (id : Nat) : Option (List V) :=
  match h.get id with
  | some (.cells l) => some l
  | _ => none

mutual
/-- nothing in it leads to a block from id n on -/
def V.low (n : Nat) : V → Bool
  | .msl id _ _ _ _ | .mptr id _ | .mp id => decide (id < n)
  | .agg cs | .tup cs => V.lows n cs
  | .fn _ a cs => V.lows n a && V.lows n cs
  | .ifc _ v => V.low n v
  | _ => true
def V.lows (n : Nat) : List V → Bool
  | [] => true
  | v :: r => V.low n v && V.lows n r
end

/-- a cell of a block may be written: below a floor only what does not lead above it -/
def Heap.mayPut (h : Heap) (id : Nat) (vs : List V) : Bool := h.floors.all fun f => decide (f ≤ id) || V.lows f vs
/-- the block was made behind the last floor -/
def Heap.mine (h : Heap) (id : Nat) : Bool := h.floors.all fun f => decide (f ≤ id)

inductive Opd where
  | t (n : Nat)
  | v (x : V)
  deriving Inhabited

inductive AOp where
  | mov (x : Opd)
  | pick (c a b : Opd)
  | alloc (z : List V)
  | box (x : Opd)
  | build (z : List V) (ps : List (Nat × Nat × Opd))
  | lit (sz : Nat) (z : List V) (n : Nat) (ps : List (Nat × Nat × Opd))
  | load (n : Nat) (isAgg : Bool) (a : Opd)
  | store (n : Nat) (a x : Opd)
  | nilchk (x : Opd)
  | bin (op : BinOp) (x y : Opd)
  | binB (neg : Bool) (x y : Opd)
  | binN (k : Nat) (neg : Bool) (x y : Opd)
  | eqs (neg : Bool) (ks : List Nat) (x y : Opd)
  | un (op : UnOp) (x : Opd)
  | index (x i : Opd)
  | faddr (off : Nat) (a : Opd)
  | field (off n : Nat) (isAgg : Bool) (x : Opd)
  | iaddr (sz : Nat) (x i : Opd)
  | iaddrA (sz len : Nat) (a i : Opd)
  | extract (x : Opd) (i : Nat)
  | sliceS (x : Opd) (lo hi : Option Opd)
  | slice (sz : Nat) (x : Opd) (lo hi mx : Option Opd)
  | sliceA (sz n : Nat) (a : Opd) (lo hi : Option Opd)
  | conv (k : IntKind) (x : Opd)
  | convF (k : FloatKind) (x : Opd)
  | s2b (x : Opd)
  | b2s (x : Opd)
  | same (x : Opd)
  | frz (sz : Nat) (x : Opd)
  | mkifc (t : Nat) (x : Opd)
  | tassert (t : Nat) (ok : Bool) (z : V) (x : Opd)
  | mkfn (f : Nat) (pre caps : List Opd)
  | mkslice (sz bytes : Nat) (z : List V) (len cap : Opd)
  | len (k : Nat) (x : Opd)
  | capOf (x : Opd)
  | mm (mx : Bool) (xs : List Opd)
  | cplx (x y : Opd)
  | reim (im : Bool) (x : Opd)
  | app (sz bytes : Nat) (s x : Opd)
  | copy (sz : Nat) (d s : Opd)
  | call (f : Nat) (args : List Opd)
  | callv (g : Opd) (args : List Opd)
  | panic (x : Opd)
  | defer (g : Opd) (args : List Opd)
  | recover
  | mkmap
  | mapput (kd : Nat) (m k x : Opd)
  | mapget (kd : Nat) (z : V) (ok : Bool) (m k : Opd)
  | mapdel (m k : Opd)
  | apart (x y : Opd)
  | ixb (x c : Opd)
  | fbits (x : Opd)
  | kget (kd : Nat) (z : V) (ok : Bool) (m k : Opd)
  | kput (kd : Nat) (m k x : Opd)
  | kdel (kd : Nat) (m k : Opd)
  | clr (sz : Nat) (z : List V) (x : Opd)
  | appz (sz bytes : Nat) (z : List V) (s n : Opd)
  deriving Inhabited

structure Step where
  dst : Option Nat
  op : AOp
  guard : Option (Nat × Bool)
  chk : List (Nat × Option (Nat × Bool) × AOp)
  deriving Inhabited

inductive ACode where
  | skip
  | region (l : List Step)
  | rregion (l : List Step)
  | seq (a b : ACode)
  | cond (c : Opd) (a b : ACode)
  | block (id : Nat) (c : ACode)
  | loop (c : ACode)
  | exit (id : Nat)
  | scope (c : ACode)
  | inscope (r c : ACode)
  | label (l : Nat)
  | goto (l : Nat)
  | ret
  deriving Inhabited

inductive RVar where
  | t (n : Nat)
  | cell (a n : Nat) (isAgg : Bool)
  deriving Inhabited

structure AFunc where
  ntmps : Nat
  results : List RVar
  body : ACode
  deriving Inhabited

inductive Out where
  | ret (v : V)
  | pan (v : V)
  deriving Inhabited

structure St where
  fr : List V
  ds : List (V × List V)
  h : Heap
  deriving Inhabited

/-- how a function is left while its deferred calls run: it returns; it panics; it panicked, and the panic is recovered -/
inductive Md where
  | ret
  | pan (v : V)
  | caught (v : V)
  deriving Inhabited

def Md.settle : Md → Md
  | .caught _ => .ret
  | m => m

inductive Ex where
  | nrm
  | exit (id : Nat)
  | goto (l : Nat)
  | ret
  | pan (v : V)
  deriving Inhabited

structure Ctx where
  code : Nat → Option AFunc
  tidy : Nat → Bool
  orc : Nat → Option (List V → Heap → Option (Out × Heap))

def ev (fr : List V) : Opd → V
  | .t n => fr.getD n .undef
  | .v x => x

def part (isAgg : Bool) (n : Nat) (cs : List V) : Option V :=
  if cs.length < n then none
  else if isAgg then some (.agg (cs.take n)) else match cs with
    | v :: _ => if n = 1 then some v else none
    | [] => none

def fill (cells : List V) : List (Nat × Nat × V) → Option (List V)
  | [] => some cells
  | (off, n, v) :: r =>
    if v.cells.length = n && off + n ≤ cells.length && 0 < n then fill (cells.take off ++ v.cells ++ cells.drop (off + n)) r else none

/-- the cells that lie at an address -/
def Heap.at (h : Heap) : V → Option (List V)
  | .fptr cs => some cs
  | .mptr id off => (h.cellsOf id).map (·.drop off)
  | _ => none

/-- a computation of the model that asks nothing of memory -/
def evS {α : Type} : Sem α → Option α
  | .pure a => some a
  | _ => none

def toLit : V → Option Value
  | .flt k b => some (.float k b)
  | .cpx k a b => some (.complex k a b)
  | _ => none
def ofLit : Value → Option V
  | .bool b => some (.bool b)
  | .int k n => some (.int k n)
  | .float k b => some (.flt k b)
  | .complex k a b => some (.cpx k a b)
  | _ => none

def intBin (op : BinOp) (k : IntKind) (a b : Int) : Option V :=
  match op with
  | .add => some (.int k (k.wrap (a + b)))
  | .sub => some (.int k (k.wrap (a - b)))
  | .mul => some (.int k (k.wrap (a * b)))
  | .quo => if b = 0 then none else some (.int k (k.wrap (a.tdiv b)))
  | .rem => if b = 0 then none else some (.int k (a.tmod b))
  | .eql => some (.bool (decide (a = b)))
  | .neq => some (.bool (!decide (a = b)))
  | .lss => some (.bool (decide (a < b)))
  | .leq => some (.bool (decide (a ≤ b)))
  | .gtr => some (.bool (decide (b < a)))
  | .geq => some (.bool (decide (b ≤ a)))
  | .and | .or | .xor | .andNot => (evS (Op.intBits op k a b)).bind ofLit
  | _ => none

def bytesLt : List Nat → List Nat → Bool
  | _, [] => false
  | [], _ :: _ => true
  | a :: x, b :: y => decide (a < b) || (decide (a = b) && bytesLt x y)

def isNil : V → Option Bool
  | .nilsl | .nilptr | .nilfn | .nilifc | .nilmp => some true
  | .esl | .fsl _ _ | .msl _ _ _ _ _ | .fptr _ | .mptr _ _ | .fn _ _ _ | .ifc _ _ | .mp _ => some false
  | _ => none

/-- which kind of type a value that may be nil has: pointer, slice, map, function, interface -/
def kindOf : V → Nat
  | .nilptr | .fptr _ | .mptr _ _ => 0
  | .nilsl | .esl | .fsl _ _ | .msl _ _ _ _ _ => 1
  | .nilmp | .mp _ => 2
  | .nilfn | .fn _ _ _ => 3
  | .nilifc | .ifc _ _ => 4
  | _ => 5

/-- '==' between two values of a kind, one of them nil -/
def nilEq (k : Nat) (x y : V) : Option Bool :=
  if k < 5 ∧ kindOf x = k ∧ kindOf y = k then
    match isNil x, isNil y with
    | some true, some b => some b
    | some b, some true => some b
    | _, _ => none
  else none

def bin (op : BinOp) (x y : V) : Option V :=
  match x, y with
  | .int k a, .int j b =>
    match op with
    | .shl => if b < 0 then none else some (.int k (k.wrap (a * 2 ^ (min b.toNat k.bits))))
    | .shr => if b < 0 then none else some (.int k (a.fdiv (2 ^ (min b.toNat k.bits))))
    | _ => if k = j then intBin op k a b else none
  | .str a, .str b =>
    match op with
    | .add => if a.length + b.length < 2 ^ 62 then some (.str (a ++ b)) else none
    | .eql => some (.bool (decide (a = b)))
    | .neq => some (.bool (!decide (a = b)))
    | .lss => some (.bool (bytesLt a b))
    | _ => none
  | .flt k a, .flt j b =>
    if k = j then
      match op with
      | .add | .sub | .mul | .quo => (evS (Op.floatArith op k a b)).bind ofLit
      | _ => (evS (Op.floatCmp op k a b)).bind ofLit
    else none
  | .cpx k a b, .cpx j c d => if k = j then (evS (Op.complexOp op k a b c d)).bind ofLit else none
  | _, _ => none

def eq1 : V → V → Option Bool
  | .bool a, .bool b => some (a == b)
  | .int k a, .int j b => if k = j then some (decide (a = b)) else none
  | .str a, .str b => some (decide (a = b))
  | _, _ => none

/-- what a cell of a flat struct holds -/
def kCell : V → Nat
  | .int _ _ => 0
  | .bool _ => 1
  | .str _ => 2
  | _ => 3

/-- '==' between two structs of whole numbers, bools and strings -/
def eqCells : List V → List V → Option Bool
  | [], [] => some true
  | a :: x, b :: y =>
    match eq1 a b with
    | some true => eqCells x y
    | some false => some false
    | none => none
  | _, _ => none

def un (op : UnOp) (x : V) : Option V :=
  match op, x with
  | .neg, .int k n => some (.int k (k.wrap (0 - n)))
  | .xor, .int k n => (evS (Op.intBits .xor k (if k.signed then -1 else k.max) n)).bind ofLit
  | .not, .bool b => some (.bool (!b))
  | _, _ => none

def idx : V → Option Nat
  | .int _ i => if 0 ≤ i then some i.toNat else none
  | _ => none

def optIdx (fr : List V) : Option Opd → Nat → Option Nat
  | none, d => some d
  | some o, _ => idx (ev fr o)

/-- the elements of a slice, as cells in one row (element size sz) -/
def Heap.row (h : Heap) (sz : Nat) : V → Option (List V)
  | .nilsl | .esl => some []
  | .fsl es _ => if es.all (fun e => decide (e.cells.length = sz)) then some (es.flatMap V.cells) else none
  | .msl id sz' off len _ => if sz = sz' then
      match h.cellsOf id with
      | some l => if (off + len) * sz ≤ l.length then some ((l.drop (off * sz)).take (len * sz)) else none
      | none => none
    else none
  | .str s => if sz = 1 then some (s.map fun (b : Nat) => V.int .u8 (b : Int)) else none
  | _ => none

def lenOf : V → Option Nat
  | .nilsl | .esl => some 0
  | .fsl es _ => some es.length
  | .msl _ _ _ len _ => some len
  | .str s => some s.length
  | _ => none

def maxRow : Nat := 140737488355328

/-- 'append(s, x...)': the new value and heap -/
def append (h : Heap) (sz bytes : Nat) (s x : V) : Option (V × Heap) :=
  match h.row sz x, lenOf x with
  | some news, some m =>
    match s with
    | .nilsl =>
      if m = 0 then some (.nilsl, h)
      else if m * bytes ≤ maxRow then some (.msl h.next sz 0 m none, h.new (.cells news)) else none
    | .esl => if m = 0 then some (.esl, h) else none
    | .fsl es (some c) =>
      if m = 0 then some (s, h)
      else if es.length + m ≤ c then none
      else match h.row sz s with
        | some old => if (es.length + m) * bytes ≤ maxRow then some (.msl h.next sz 0 (es.length + m) none, h.new (.cells (old ++ news))) else none
        | none => none
    | .msl id sz' off len cap =>
      if sz ≠ sz' then none else
      match h.cellsOf id with
      | none => none
      | some l =>
        match cap with
        | some c =>
          if m = 0 then some (s, h)
          else if len + m ≤ c then none
          else match h.row sz s with
            | some old => if (len + m) * bytes ≤ maxRow then some (.msl h.next sz 0 (len + m) none, h.new (.cells (old ++ news))) else none
            | none => none
        | none =>
          if off ≠ 0 then none
          else if (len + m) * sz ≤ l.length then
            (if h.mayPut id news then some (.msl id sz 0 (len + m) none, h.put id (some (.cells (l.take (len * sz) ++ news ++ l.drop ((len + m) * sz))))) else none)
          else if l.length < len * sz then none
          else if h.mine id && (len + m) * bytes ≤ maxRow then
            some (.msl h.next sz 0 (len + m) none, (h.put id none).new (.cells (l.take (len * sz) ++ news)))
          else none
    | _ => none
  | _, _ => none

def mm2 (mx : Bool) : V → V → Option V
  | .int k x, .int j y => if k = j then some (.int k (if mx then (if y > x then y else x) else (if y < x then y else x))) else none
  | _, _ => none
def mmAll (mx : Bool) : V → List V → Option V
  | v, [] => some v
  | v, w :: r => (mm2 mx v w).bind fun u => mmAll mx u r

def keyEq (a b : V) : Option Bool :=
  match a, b with
  | .agg x, .agg y => eqCells x y
  | _, _ => eq1 a b

def mapFind (k : V) : List (V × V) → Option (Option V)
  | [] => some none
  | (a, v) :: r => match keyEq k a with
    | some true => some (some v)
    | some false => mapFind k r
    | none => none
def mapSet (k v : V) : List (V × V) → Option (List (V × V))
  | [] => some [(k, v)]
  | (a, u) :: r => match keyEq k a with
    | some true => some ((a, v) :: r)
    | some false => (mapSet k v r).map ((a, u) :: ·)
    | none => none
def mapDel (k : V) : List (V × V) → Option (List (V × V))
  | [] => some []
  | (a, u) :: r => match keyEq k a with
    | some true => some r
    | some false => (mapDel k r).map ((a, u) :: ·)
    | none => none

/-- a row of cells as elements of sz cells -/
def elems (sz : Nat) : Nat → List V → List V
  | 0, _ => []
  | n + 1, l => (if sz = 1 then l.headD .undef else .agg (l.take sz)) :: elems sz n (l.drop sz)

def byteOf : V → Option Nat
  | .int .u8 n => if 0 ≤ n ∧ n < 256 then some n.toNat else none
  | _ => none
def bytesOf : List V → Option (List Nat)
  | [] => some []
  | v :: r => match byteOf v, bytesOf r with
    | some b, some l => some (b :: l)
    | _, _ => none

def headSz (sz : Nat) : List V → Bool
  | [] => true
  | e :: _ => decide (e.cells.length = sz)

/-- where a byte stands first; below 0: nowhere -/
def ixFrom (c : Nat) : Nat → List Nat → Int
  | _, [] => -1
  | i, b :: r => if b = c then Int.ofNat i else ixFrom c (i + 1) r

/-- the kind of a cell of a key that is a struct -/
def kWf : V → Nat
  | .int .i64 n => if -9223372036854775808 ≤ n ∧ n ≤ 9223372036854775807 then 0 else 3
  | .bool _ => 1
  | .str s => if s.length ≤ 140737488355328 then 2 else 3
  | _ => 3
def digits : List Nat → Nat
  | [] => 1
  | a :: r => 4 * digits r + a
def kKey : V → Nat
  | .agg cs => digits (cs.map kWf)
  | _ => 0
/-- a key of this kind, as all others are -/
def keysOk (kd : Nat) (k : V) (es : List (V × V)) : Bool := Nat.beq (kKey k) kd && es.all fun p => Nat.beq (kKey p.1) kd

/-- an operation that calls nothing: its value and the heap behind it -/
def op1 (fr : List V) (h : Heap) (o : AOp) : Option (V × Heap) :=
  match o with
  | .mov x => some (ev fr x, h)
  | .pick c a b => match ev fr c with
    | .bool t => some (if t then ev fr a else ev fr b, h)
    | _ => none
  | .alloc z => some (.mptr h.next 0, h.new (.cells z))
  | .box x => some (.mptr h.next 0, h.new (.cells (ev fr x).cells))
  | .build z ps => (fill z (ps.map fun p => (p.1, p.2.1, ev fr p.2.2))).map fun cs => (.agg cs, h)
  | .lit sz z n ps => (fill z (ps.map fun p => (p.1, p.2.1, ev fr p.2.2))).map fun cs => (.msl h.next sz 0 n none, h.new (.cells cs))
  | .load n isAgg a => ((h.at (ev fr a)).bind (part isAgg n)).map fun v => (v, h)
  | .store n a x => match ev fr a with
    | .mptr id off => match h.cellsOf id with
      | some l =>
        let cs := (ev fr x).cells
        if cs.length = n && off + n ≤ l.length && h.mayPut id cs then some (.undef, h.put id (some (.cells (l.take off ++ cs ++ l.drop (off + n))))) else none
      | none => none
    | _ => none
  | .nilchk x => match isNil (ev fr x) with
    | some false => some (ev fr x, h)
    | _ => none
  | .bin op x y => (bin op (ev fr x) (ev fr y)).map fun v => (v, h)
  | .binB neg x y => match ev fr x, ev fr y with
    | .bool a, .bool b => some (.bool ((a == b) != neg), h)
    | _, _ => none
  | .binN k neg x y => (nilEq k (ev fr x) (ev fr y)).map fun b => (.bool (b != neg), h)
  | .eqs neg ks x y => match ev fr x, ev fr y with
    | .agg a, .agg b => if a.map kCell = ks then (eqCells a b).map fun r => (.bool (r != neg), h) else none
    | _, _ => none
  | .un op x => (un op (ev fr x)).map fun v => (v, h)
  | .index x i => match ev fr x, idx (ev fr i) with
    | .str s, some i => (s[i]?).map fun (b : Nat) => (V.int .u8 (b : Int), h)
    | _, _ => none
  | .faddr off a => match ev fr a with
    | .fptr cs => if off ≤ cs.length then some (.fptr (cs.drop off), h) else none
    | .mptr id o => some (.mptr id (o + off), h)
    | _ => none
  | .field off n isAgg x => match ev fr x with
    | .agg cs => (part isAgg n (cs.drop off)).map fun v => (v, h)
    | _ => none
  | .iaddr sz x i => match idx (ev fr i) with
    | some i => match ev fr x with
      | .fsl es _ => (es[i]?).bind fun e => if e.cells.length = sz then some (.fptr e.cells, h) else none
      | .msl id sz' off len _ => if sz = sz' && i < len then some (.mptr id ((off + i) * sz), h) else none
      | _ => none
    | none => none
  | .iaddrA sz len a i => match idx (ev fr i) with
    | some i => if i < len then match ev fr a with
        | .fptr cs => if (i + 1) * sz ≤ cs.length then some (.fptr (cs.drop (i * sz)), h) else none
        | .mptr id o => some (.mptr id (o + i * sz), h)
        | _ => none
      else none
    | none => none
  | .extract x i => match ev fr x with
    | .tup vs => (vs[i]?).map fun v => (v, h)
    | _ => none
  | .sliceS x lo hi => match ev fr x with
    | .str s => (optIdx fr lo 0).bind fun l => (optIdx fr hi s.length).bind fun r =>
        if l ≤ r && r ≤ s.length then some (.str ((s.take r).drop l), h) else none
    | _ => none
  | .slice ez x lo hi mx => match ev fr x with
    | .nilsl => (optIdx fr lo 0).bind fun l => (optIdx fr hi 0).bind fun r => (optIdx fr mx 0).bind fun m =>
        if l = 0 && r = 0 && m = 0 then some (.nilsl, h) else none
    | .esl => (optIdx fr lo 0).bind fun l => (optIdx fr hi 0).bind fun r =>
        if l = 0 && r = 0 && mx.isNone then some (.esl, h) else none
    | .fsl es cap => (optIdx fr lo 0).bind fun l => (optIdx fr hi es.length).bind fun r =>
        if l ≤ r && r ≤ es.length && headSz ez es then
          match mx with
          | none => some (.fsl ((es.take r).drop l) (cap.map (· - l)), h)
          | some o => (idx (ev fr o)).bind fun m => if r ≤ m && m ≤ es.length then some (.fsl ((es.take r).drop l) (some (m - l)), h) else none
        else none
    | .msl id sz off len cap => match h.cellsOf id with
      | some cs => (optIdx fr lo 0).bind fun l => (optIdx fr hi len).bind fun r =>
          if l ≤ r && (off + r) * sz ≤ cs.length && sz = ez && cap.all (fun c => decide (r ≤ c)) then
            match mx with
            | none => some (if l = r && 0 < l then .esl else .msl id sz (off + l) (r - l) (cap.map (· - l)), h)
            | some o => (idx (ev fr o)).bind fun m => if r ≤ m && (off + m) * sz ≤ cs.length && cap.all (fun c => decide (m ≤ c)) then
                some (if l = r && 0 < l then .esl else .msl id sz (off + l) (r - l) (some (m - l)), h) else none
          else none
      | none => none
    | _ => none
  | .sliceA sz n a lo hi => match ev fr a with
    | .mptr id o => (optIdx fr lo 0).bind fun l => (optIdx fr hi n).bind fun r =>
        if l ≤ r && r ≤ n && o = 0 && l < n then some (.msl id sz l (r - l) (some (n - l)), h) else none
    | _ => none
  | .conv k x => match ev fr x with
    | .int _ n => some (.int k (k.wrap n), h)
    | .flt s b => match (s.decode b).toInt .zero with
      | some n => if k.min ≤ n ∧ n ≤ k.max then some (.int k n, h) else none
      | none => none
    | _ => none
  | .convF k x => match ev fr x with
    | .int _ n => some (.flt k (k.nearest n), h)
    | _ => none
  | .s2b x => match ev fr x with
    | .str s => some (.fsl (s.map fun (b : Nat) => V.int .u8 (b : Int)) none, h)
    | _ => none
  | .b2s x => match ev fr x with
    | .str _ => none
    | v => match h.row 1 v with
      | some cs => (bytesOf cs).map fun s => (.str s, h)
      | none => none
  | .same x => match ev fr x with
    | .str s => some (.str s, h)
    | _ => none
  | .frz sz x => match ev fr x with
    | .msl id sz' off len _ => match h.row sz (ev fr x) with
      | some cs => if sz = sz' && h.mine id && off = 0 && V.lows 0 cs then some (.fsl (elems sz len cs) none, h.put id none) else none
      | none => none
    | _ => none
  | .mkifc t x => some (.ifc t (ev fr x), h)
  | .tassert t ok z x => match ev fr x with
    | .ifc u v => if ok then some (.tup (if u = t then [v, .bool true] else [z, .bool false]), h)
        else if u = t then some (v, h) else none
    | .nilifc => if ok then some (.tup [z, .bool false], h) else none
    | _ => none
  | .mkfn f pre caps => some (.fn f (pre.map (ev fr)) (caps.map (ev fr)), h)
  | .mkslice sz bytes z len cap => match ev fr len, ev fr cap with
    | .int _ l, .int _ c => if 0 ≤ l ∧ l ≤ c ∧ c * bytes ≤ maxRow ∧ c < 2 ^ 62 then
        some (.msl h.next sz 0 l.toNat none, h.new (.cells ((List.replicate c.toNat z).flatten))) else none
    | _, _ => none
  | .len k x => match ev fr x with
    | .mp id => if k = 2 then match h.get id with
        | some (.map es) => some (.int .i64 es.length, h)
        | _ => none
      else none
    | .nilmp => if k = 2 then some (.int .i64 0, h) else none
    | .str s => if k = 0 then some (.int .i64 s.length, h) else none
    | v => if k = 1 then (lenOf v).map fun n => (.int .i64 n, h) else none
  | .capOf x => match ev fr x with
    | .nilsl => some (.int .i64 0, h)
    | .fsl _ (some c) | .msl _ _ _ _ (some c) => some (.int .i64 c, h)
    | _ => none
  | .mm mx xs => match xs with
    | [] => none
    | x :: r => (mmAll mx (ev fr x) (r.map (ev fr))).map fun v => (v, h)
  | .cplx x y => match ev fr x, ev fr y with
    | .flt k a, .flt j b => if k = j then some (.cpx k a b, h) else none
    | _, _ => none
  | .reim im x => match ev fr x with
    | .cpx k a b => some (.flt k (if im then b else a), h)
    | _ => none
  | .app sz bytes s x => append h sz bytes (ev fr s) (ev fr x)
  | .copy sz d s => match ev fr d, lenOf (ev fr s), h.row sz (ev fr s) with
    | .msl id sz' off len _, some m, some src => if sz ≠ sz' then none else
      match h.cellsOf id with
      | some l =>
        let n := min m len
        let news := src.take (n * sz)
        if (off + len) * sz ≤ l.length && h.mayPut id news then
          some (.int .i64 n, h.put id (some (.cells (l.take (off * sz) ++ news ++ l.drop (off * sz + n * sz))))) else none
      | none => none
    | .nilsl, some _, some _ => some (.int .i64 0, h)
    | _, _, _ => none
  | .mkmap => some (.mp h.next, h.new (.map []))
  | .mapput kd m k x => match ev fr m with
    | .mp id => match h.get id with
      | some (.map es) => if h.mayPut id [ev fr k, ev fr x] && kCell (ev fr k) == kd then (mapSet (ev fr k) (ev fr x) es).map fun es' => (.undef, h.put id (some (.map es'))) else none
      | _ => none
    | _ => none
  | .mapget kd z ok m k =>
    let r := match ev fr m with
      | .mp id => match h.get id with
        | some (.map es) => if kCell (ev fr k) == kd then mapFind (ev fr k) es else none
        | _ => none
      | .nilmp => some none
      | _ => none
    r.map fun r => let v := r.getD z; (if ok then .tup [v, .bool r.isSome] else v, h)
  | .mapdel m k => match ev fr m with
    | .mp id => match h.get id with
      | some (.map es) => (mapDel (ev fr k) es).map fun es' => (.tup [], h.put id (some (.map es')))
      | _ => none
    | .nilmp => some (.tup [], h)
    | _ => none
  | .apart x y => match ev fr x, ev fr y with
    | .mptr i _, .mptr j _ => if i = j then none else some (.undef, h)
    | _, _ => none
  | .ixb x c => match ev fr x, ev fr c with
    | .str s, .int .u8 c => if 0 ≤ c ∧ c < 256 then some (.int .i64 (ixFrom c.toNat 0 s), h) else none
    | _, _ => none
  | .fbits x => match ev fr x with
    | .flt .f64 b => some (.int .u64 (b : Nat), h)
    | _ => none
  | .kget kd z ok m k => match ev fr m with
    | .mp id => match h.get id with
      | some (.map es) => if keysOk kd (ev fr k) es then (mapFind (ev fr k) es).map fun r => (if ok then .tup [r.getD z, .bool r.isSome] else r.getD z, h) else none
      | _ => none
    | _ => none
  | .kput kd m k x => match ev fr m with
    | .mp id => match h.get id with
      | some (.map es) => if h.mayPut id [ev fr k, ev fr x] && keysOk kd (ev fr k) es then (mapSet (ev fr k) (ev fr x) es).map fun es' => (.undef, h.put id (some (.map es'))) else none
      | _ => none
    | _ => none
  | .kdel kd m k => match ev fr m with
    | .mp id => match h.get id with
      | some (.map es) => if keysOk kd (ev fr k) es then (mapDel (ev fr k) es).map fun es' => (.tup [], h.put id (some (.map es'))) else none
      | _ => none
    | _ => none
  | .clr sz z x => match ev fr x with
    | .nilsl | .esl => some (.tup [], h)
    | .msl id sz' off len _ => match h.cellsOf id with
      | some l => if sz = sz' && (off + len) * sz ≤ l.length && h.mayPut id z then
          some (.tup [], h.put id (some (.cells (l.take (off * sz) ++ (List.replicate len z).flatten ++ l.drop (off * sz + len * sz))))) else none
      | none => none
    | _ => none
  | .appz sz bytes z s n => match ev fr s, ev fr n with
    | .nilsl, .int .i64 m => if m = 0 then some (.nilsl, h)
      else if 0 < m ∧ m.toNat * bytes ≤ maxRow then some (.msl h.next sz 0 m.toNat none, h.new (.cells (List.replicate m.toNat z).flatten)) else none
    | _, _ => none
  | _ => none

mutual
/-- a value in which nothing mutable from id n on is left: its slices read out of the heap -/
def freeze (h : Heap) (n : Nat) : Nat → V → Option V
  | 0, _ => none
  | k + 1, v =>
    match v with
    | .msl id sz off len cap =>
      if id < n then some v else
      match h.cellsOf id with
      | some l =>
        if (off + len) * sz ≤ l.length && 0 < sz then
          (freezes h n k (elems sz len ((l.drop (off * sz))))).bind fun es => if V.lows 0 es then some (.fsl es cap) else none
        else none
      | none => none
    | .mptr id _ | .mp id => if id < n then some v else none
    | .agg cs => (freezes h n k cs).map .agg
    | .tup cs => (freezes h n k cs).map .tup
    | .fn f a cs => (freezes h n k a).bind fun a => (freezes h n k cs).map (.fn f a)
    | .ifc t v => (freeze h n k v).map (.ifc t)
    | v => some v
def freezes (h : Heap) (n : Nat) : Nat → List V → Option (List V)
  | _, [] => some []
  | 0, _ :: _ => none
  | k + 1, v :: r => (freeze h n k v).bind fun v' => (freezes h n k r).map (v' :: ·)
end

def Heap.tidied (h h0 : Heap) : Heap := { next := h0.next, floors := h0.floors, bl := h.bl.drop (h.next - h0.next) }

def fuelF : Nat := 1000000000000000

def results (h : Heap) (fr : List V) : List RVar → Option (List V)
  | [] => some []
  | .t n :: r => (results h fr r).map (fr.getD n .undef :: ·)
  | .cell a n isAgg :: r => ((h.at (fr.getD a .undef)).bind (part isAgg n)).bind fun v => (results h fr r).map (v :: ·)
def oneOr : List V → V
  | [v] => v
  | vs => .tup vs

/-- is the operation carried out; none: nothing is known -/
def wanted (fr : List V) : Option (Nat × Bool) → Option Bool
  | none => some true
  | some (t, b) => match fr.getD t .undef with
    | .bool c => some (c == b)
    | .undef => none
    | _ => some false

def put (fr : List V) (d : Option Nat) (v : V) : List V :=
  match d with
  | some d => fr.set d v
  | none => fr

/-- the frame of a piece of code that panics: what the code sets is not known -/
def wipe : List Step → List V → List V
  | [], fr => fr
  | s :: r, fr => wipe r (put fr s.dst .undef)
def wipeSt (l : List Step) : Ex → St → St
  | .pan _, st => { st with fr := wipe l st.fr }
  | _, st => st
def wiped (l : List Step) : Option (Ex × St) → Option (Ex × St)
  | some (ex, st) => some (ex, wipeSt l ex st)
  | none => none

/-- what was loaded ahead of an operation that Go may carry out ahead of the load -/
def checks (fr : List V) (h : Heap) : List (Nat × Option (Nat × Bool) × AOp) → Bool
  | [] => true
  | (d, g, o) :: r => (match wanted fr g with
    | some true => (match op1 fr h o, fr[d]? with
      | some (v, _), some u => V.beq v u
      | _, _ => false)
    | some false => true
    | none => false) && checks fr h r

section
variable (C : Ctx) (self : ACode → St → Option (Ex × St))

def onOut (d : Option Nat) (st : St) : Option (Out × Heap) → Option (Ex × St)
  | some (.ret v, h) => some (.nrm, { st with fr := put st.fr d v, h })
  | some (.pan v, h) => some (.pan v, { st with h })
  | none => none

/-- an operation of a deferred function, 'recover' among them -/
def stepR (s : Step) (m : Md) (st : St) : Option (Md × St) :=
  if s.guard.isNone && s.chk.isEmpty then
    match s.op with
    | .recover => match m with
      | .pan v => some (.caught v, { st with fr := put st.fr s.dst v })
      | _ => some (m, { st with fr := put st.fr s.dst .nilifc })
    | .call _ _ | .callv _ _ | .panic _ | .defer _ _ => none
    | o => (op1 st.fr st.h o).map fun r => (m, { st with fr := put st.fr s.dst r.1, h := r.2 })
  else none

def stepsR : List Step → Md → St → Option (Md × St)
  | [], m, st => some (m, st)
  | s :: r, m, st =>
    match stepR s m st with
    | some (m', st') => stepsR r m' st'
    | none => none

/-- a deferred function's code -/
def execD : ACode → Md → St → Option (Ex × Md × St)
  | .seq a b, m, st =>
    match execD a m st with
    | some (.nrm, m', st') => execD b m' st'
    | e => e
  | .cond c a b, m, st =>
    match ev st.fr c with
    | .bool true => execD a m st
    | .bool false => execD b m st
    | _ => none
  | .rregion l, m, st => (stepsR l m st).map fun q => (.nrm, q)
  | c, m, st => (self c st).map fun q => (q.1, m, q.2)

/-- a deferred call -/
def callD (f : Nat) (args : List V) (m : Md) (h : Heap) : Option (Out × Md × Heap) :=
  match C.code f with
  | none => none
  | some af =>
    match execD self af.body m { fr := args ++ List.replicate (af.ntmps - args.length) .undef, ds := [], h } with
    | some (.nrm, m', st) | some (.ret, m', st) => if st.ds.isEmpty then (results st.h st.fr af.results).map fun vs => (.ret (oneOr vs), m', st.h) else none
    | some (.pan v, m', st) => if st.ds.isEmpty then some (.pan v, m', st.h) else none
    | _ => none

/-- the deferred calls, the last first -/
def leave : List (V × List V) → Md → Heap → Option (Md × Heap)
  | [], m, h => some (m, h)
  | d :: ds, m, h =>
    match d.1 with
    | .fn f pre caps =>
      match callD C self f (pre ++ d.2 ++ caps) m h with
      | some (.ret _, m', h') => leave ds m'.settle h'
      | some (.pan v, .ret, h') => leave ds (.pan v) h'
      | _ => none
    | _ => none

/-- a function's end -/
def ended (f : AFunc) (fr : List V) : Option (Md × Heap) → Option (Out × Heap)
  | some (.ret, h) => (results h fr f.results).map fun vs => (.ret (oneOr vs), h)
  | some (.pan v, h) => some (.pan v, h)
  | _ => none

/-- a function's body, run -/
def body (f : AFunc) (args : List V) (h : Heap) : Option (Out × Heap) :=
  match self f.body { fr := args ++ List.replicate (f.ntmps - args.length) .undef, ds := [], h } with
  | some (.nrm, st) | some (.ret, st) => ended f st.fr (leave C self st.ds .ret st.h)
  | some (.pan v, st) => ended f st.fr (leave C self st.ds (.pan v) st.h)
  | _ => none

def callF (f : Nat) (args : List V) (h : Heap) : Option (Out × Heap) :=
  match C.orc f with
  | some g => g args h
  | none =>
    match C.code f with
    | none => none
    | some af =>
      if C.tidy f then
        match body C self af args { h with floors := h.next :: h.floors } with
        | some (.ret v, h') => (freeze h' h.next fuelF v).map fun v => (.ret v, h'.tidied h)
        | some (.pan v, h') => (freeze h' h.next fuelF v).map fun v => (.pan v, h'.tidied h)
        | none => none
      else body C self af args h

def stepOp (dst : Option Nat) (op : AOp) (st : St) : Option (Ex × St) :=
  match op with
  | .call f args => onOut dst st (callF C self f (args.map (ev st.fr)) st.h)
  | .callv g args => match ev st.fr g with
    | .fn f pre caps => onOut dst st (callF C self f (pre ++ args.map (ev st.fr) ++ caps) st.h)
    | _ => none
  | .panic x => match ev st.fr x with
    | .ifc t v => some (.pan (.ifc t v), st)
    | _ => none
  | .defer g args => match ev st.fr g with
    | .fn f pre caps => some (.nrm, { st with fr := put st.fr dst (.tup []), ds := (.fn f pre caps, args.map (ev st.fr)) :: st.ds })
    | _ => none
  | o => (op1 st.fr st.h o).map fun r => (.nrm, { st with fr := put st.fr dst r.1, h := r.2 })

def step (s : Step) (st : St) : Option (Ex × St) :=
  match wanted st.fr s.guard with
  | some true => stepOp C self s.dst s.op st
  | some false => some (.nrm, { st with fr := put st.fr s.dst (.tup []) })
  | none => none

def steps : List Step → St → Option (Ex × St)
  | [], st => some (.nrm, st)
  | s :: r, st =>
    match step C self s st with
    | some (.nrm, st') => if checks st'.fr st'.h s.chk then steps r st' else none
    | e => e
end

def findLabel : ACode → Nat → Option ACode
  | .seq a b, l =>
    match findLabel a l with
    | some rest => some (.seq rest b)
    | none => findLabel b l
  | .label l', l => if l' == l then some .skip else none
  | _, _ => none

def exec (C : Ctx) : Nat → ACode → St → Option (Ex × St)
  | 0 => fun _ _ => none
  | n + 1 => fun c st =>
    match c with
    | .skip | .label _ => some (.nrm, st)
    | .rregion _ => none
    | .region l => wiped l (steps C (exec C n) l st)
    | .seq a b =>
      match exec C n a st with
      | some (.nrm, st') => exec C n b st'
      | e => e
    | .cond c a b =>
      match ev st.fr c with
      | .bool t => exec C n (if t then a else b) st
      | _ => none
    | .block id c =>
      match exec C n c st with
      | some (.exit i, st') => some (if i = id then .nrm else .exit i, st')
      | e => e
    | .loop c =>
      match exec C n c st with
      | some (.nrm, st') => exec C n (.loop c) st'
      | e => e
    | .exit id => some (.exit id, st)
    | .scope c => exec C n (.inscope c c) st
    | .inscope r c =>
      match exec C n r st with
      | some (.goto l, st') =>
        match findLabel c l with
        | some rest => exec C n (.inscope rest c) st'
        | none => some (.goto l, st')
      | e => e
    | .goto l => some (.goto l, st)
    | .ret => some (.ret, st)

def call (C : Ctx) (n : Nat) (f : Nat) (args : List V) (h : Heap) : Option (Out × Heap) := callF C (exec C n) f args h

/-! ### operations and the temporaries that they look at -/

def Opd.uses : Opd → List Nat
  | .t n => [n]
  | .v _ => []

def oUses : Option Opd → List Nat
  | none => []
  | some o => o.uses

def AOp.uses : AOp → List Nat
  | .mov x | .box x | .load _ _ x | .nilchk x | .un _ x | .faddr _ x | .field _ _ _ x | .extract x _ | .fbits x | .conv _ x | .convF _ x | .s2b x | .b2s x | .same x | .frz _ x | .mkifc _ x
  | .tassert _ _ _ x | .clr _ _ x | .len _ x | .capOf x | .reim _ x | .panic x => x.uses
  | .pick c a b => c.uses ++ a.uses ++ b.uses
  | .alloc _ | .recover | .mkmap => []
  | .build _ ps | .lit _ _ _ ps => ps.flatMap fun p => p.2.2.uses
  | .store _ x y | .bin _ x y | .binB _ x y | .binN _ _ x y | .eqs _ _ x y | .index x y | .iaddr _ x y | .iaddrA _ _ x y | .mkslice _ _ _ x y | .cplx x y | .app _ _ x y | .copy _ x y
  | .mapget _ _ _ x y | .mapdel x y | .apart x y | .ixb x y | .kget _ _ _ x y | .kdel _ x y | .appz _ _ _ x y => x.uses ++ y.uses
  | .sliceS x lo hi => x.uses ++ oUses lo ++ oUses hi
  | .slice _ x lo hi mx => x.uses ++ oUses lo ++ oUses hi ++ oUses mx
  | .sliceA _ _ x lo hi => x.uses ++ oUses lo ++ oUses hi
  | .mkfn _ a b => a.flatMap Opd.uses ++ b.flatMap Opd.uses
  | .mm _ xs | .call _ xs => xs.flatMap Opd.uses
  | .callv g xs | .defer g xs => g.uses ++ xs.flatMap Opd.uses
  | .mapput _ m k x | .kput _ m k x => m.uses ++ k.uses ++ x.uses

/-- 0: looks at its operands alone; 1: reads memory; 2: makes a block; 3: all else -/
def AOp.kind : AOp → Nat
  | .mov _ | .pick _ _ _ | .build _ _ | .nilchk _ | .bin _ _ _ | .binB _ _ _ | .binN _ _ _ _ | .eqs _ _ _ _ | .un _ _ | .index _ _ | .faddr _ _ | .field _ _ _ _ | .iaddr _ _ _ | .iaddrA _ _ _ _ | .extract _ _
  | .sliceS _ _ _ | .sliceA _ _ _ _ _ | .conv _ _ | .convF _ _ | .s2b _ | .same _ | .mkifc _ _ | .tassert _ _ _ _ | .mkfn _ _ _ | .capOf _ | .mm _ _ | .cplx _ _ | .reim _ _ | .apart _ _ | .ixb _ _ | .fbits _ => 0
  | .load _ _ _ | .slice _ _ _ _ _ | .b2s _ | .len _ _ | .mapget _ _ _ _ _ | .kget _ _ _ _ _ => 1
  | .alloc _ | .box _ | .lit _ _ _ _ | .mkslice _ _ _ _ _ | .mkmap => 2
  | _ => 3

end Go.Ab

namespace Go.Ab

def vOf : Value → Option V
  | .bool b => some (.bool b)
  | .int k n => some (.int k n)
  | .float k b => some (.flt k b)
  | .complex k a b => some (.cpx k a b)
  | .string s => some (.str (s.data.toList.map UInt8.toNat))
  | .pointer none => some .nilptr
  | .slice none 0 0 => some .nilsl
  | .map none => some .nilmp
  | .nilFunc => some .nilfn
  | .nilIface => some .nilifc
  | _ => none

def vsOf : List Value → Option (List V)
  | [] => some []
  | v :: r => match vOf v, vsOf r with
    | some a, some b => some (a :: b)
    | _, _ => none

/-- a constant: of one cell, or a struct of such -/
def cOf : Value → Option V
  | .agg xs => (vsOf xs.toList).map .agg
  | v => vOf v

section
variable (P : Program) (G : Nat → Option V)

def opd : Operand → Option Opd
  | .tmp t => some (.t t)
  | .const v => (cOf v).map .v
  | .global g => (G g).map .v
  | .func f => some (.v (.fn f [] []))

def opds : List Operand → Option (List Opd)
  | [] => some []
  | x :: r => match opd G x, opds r with
    | some a, some b => some (a :: b)
    | _, _ => none

def oopd : Option Operand → Option (Option Opd)
  | none => some none
  | some x => (opd G x).map some

def zeroOf (t : TypeId) : Option (List V) :=
  match P.info? t with
  | some i => match i.zero with
    | some v => match vsOf v.cells.toList with
      | some l => if l.length = i.size then some l else none
      | none => none
    | none => none
  | none => none

def aggT (t : TypeId) : Option Bool :=
  match P.underlying t with
  | some (.struct _) | some (.array _ _) => some true
  | some _ => some false
  | none => none

/-- a type's zero value -/
def zeroV (t : TypeId) : Option V :=
  match P.info? t with
  | some i => match i.zero with
    | some (.agg xs) => (vsOf xs.toList).map .agg
    | some v => match vsOf [v] with
      | some [u] => some u
      | _ => none
    | none => none
  | none => none

def partsOf (place : Nat → Option (Nat × Nat)) : List (Nat × Operand) → Option (List (Nat × Nat × Opd))
  | [] => some []
  | (i, x) :: r => match place i, opd G x, partsOf place r with
    | some (o, n), some a, some b => some ((o, n, a) :: b)
    | _, _, _ => none

def fieldKind (t : TypeId) : Option Nat :=
  match P.underlying t with
  | some (.int _) => some 0
  | some .bool => some 1
  | some .string => some 2
  | _ => none

def fieldKinds : List Field → Nat → Option (List Nat)
  | [], _ => some []
  | f :: r, k => if f.name ≠ "_" ∧ f.offset = k ∧ P.cellsOf f.type = 1 ∧ aggT P f.type = some false then
      match fieldKind P f.type, fieldKinds r (k + 1) with
      | some a, some l => some (a :: l)
      | _, _ => none
    else none

/-- a struct type whose fields are whole numbers, bools and strings, each one cell, none of them blank: their kinds -/
def flatStruct (t : TypeId) : Option (List Nat) :=
  match P.underlying t with
  | some (.struct fs) => if P.stoodInHeld t = false ∧ P.eqGuardType P.depth t = false then fieldKinds P fs.toList 0 else none
  | _ => none

/-- a type on whose values the operators look at the values alone -/
def scalarT (t : TypeId) : Bool :=
  match P.underlying t with
  | some (.int _) | some .string | some (.float _) | some (.complex _) => true
  | _ => false
def isConstO : Operand → Bool
  | .const _ => true
  | _ => false

def isByte (t : TypeId) : Bool :=
  match P.underlying t with
  | some (.int .u8) => true
  | _ => false

/-- the types of keys -/
def keyT (t : TypeId) : Option Nat :=
  match P.underlying t with
  | some (.int _) => some 0
  | some .string => some 2
  | _ => none

/-- the kinds of a struct's cells -/
def kindsF (F : TypeId → Option (List Nat)) : List Field → Nat → Option (List Nat)
  | [], _ => some []
  | f :: r, o => if f.offset = o then match F f.type, kindsF F r (o + P.cellsOf f.type) with
      | some a, some b => if a.length = P.cellsOf f.type then some (a ++ b) else none
      | _, _ => none
    else none
def kindsAt : Nat → TypeId → Option (List Nat)
  | 0, _ => none
  | d + 1, t => match P.underlying t with
    | some .bool => some [1]
    | some (.int k) => if k = .i64 then some [0] else none
    | some .string => some [2]
    | some (.struct fs) => if fs.all (·.name != "_") then (kindsF P (kindsAt d) fs.toList 0).bind fun ks => if ks.length = P.cellsOf t then some ks else none else none
    | _ => none
/-- the types of keys that are structs -/
def structKey (t : TypeId) : Option Nat :=
  match P.underlying t with
  | some (.struct _) => if P.keyType t && P.tiled (P.types.size + 1) t && Nat.ble (P.types.size + 2) 10000 then (kindsAt P (P.types.size + 1) t).map digits else none
  | _ => none

/-- the library's search for a byte, which has no Go text -/
def isIx (f : Nat) : Bool :=
  match P.funcs[f]? with
  | some fn => fn.name == "internal/bytealg.IndexByteString" && fn.body.isNone && (Extern.findNext fn).isNone
  | none => false

/-- the bits of a float, which has no Go text -/
def isFb (f : Nat) : Bool :=
  match P.funcs[f]? with
  | some fn => fn.name == "math.Float64bits" && fn.body.isNone && (Extern.findNext fn).isNone
  | none => false

def aop (o : Oper) : Option AOp :=
  match o.op with
  | .move x | .assign x => (opd G x).map .mov
  | .pick c a b => match opd G c, opd G a, opd G b with
    | some c, some a, some b => some (.pick c a b)
    | _, _, _ => none
  | .alloc t => (zeroOf P t).map .alloc
  | .box _ x => (opd G x).map .box
  | .build t ps => match P.info? t, P.underlying t, zeroOf P t with
    | some _, some (.struct fs), some z => match fs.toList.mapM (fun f => (P.info? f.type).map fun i => (f.offset, i.size)) with
      | some pl => (partsOf G (fun i => pl.toArray[i]?) ps.toList).map (.build z)
      | none => none
    | some _, some (.array _ e), some z => match P.info? e with
      | some ie => (partsOf G (fun i => some (i * ie.size, ie.size)) ps.toList).map (.build z)
      | none => none
    | _, _, _ => none
  | .buildSlice t n ps => match P.underlying t with
    | some (.slice e) => match zeroOf P e, P.info? e with
      | some z, some ie => if n * z.length ≤ 16777216 && 0 < z.length then (partsOf G (fun i => some (i * ie.size, ie.size)) ps.toList).map (.lit ie.size (List.replicate n z).flatten n) else none
      | _, _ => none
    | _ => none
  | .load t a => match aggT P t, P.info? t, opd G a with
    | some g, some i, some a => if g || i.size == 1 then some (.load i.size g a) else none
    | _, _, _ => none
  | .store t a x => match P.info? t, opd G a, opd G x with
    | some i, some a, some x => if 0 < i.size then some (.store i.size a x) else none
    | _, _, _ => none
  | .nilCheck x => (opd G x).map .nilchk
  | .binOp op t x y _ => match opd G x, opd G y with
    | some a, some b =>
      if scalarT P t then some (.bin op a b)
      else if op == .eql || op == .neq then
        match P.underlying t with
        | some .bool => some (.binB (op == .neq) a b)
        | some (.pointer _) => some (.binN 0 (op == .neq) a b)
        | some (.slice _) => some (.binN 1 (op == .neq) a b)
        | some (.map _ _) => some (.binN 2 (op == .neq) a b)
        | some (.func _ _ _) => some (.binN 3 (op == .neq) a b)
        | some (.interface _) => if isConstO x || isConstO y then some (.binN 4 (op == .neq) a b) else none
        | _ => (flatStruct P t).map fun ks => .eqs (op == .neq) ks a b
      else none
    | _, _ => none
  | .unOp op _ x => (opd G x).map (.un op)
  | .convert s t x => match P.underlying s, P.underlying t, opd G x with
    | some (.int _), some (.int k), some x => some (.conv k x)
    | some (.float _), some (.int k), some x => some (.conv k x)
    | some (.int _), some (.float k), some x => some (.convF k x)
    | some .string, some (.slice e), some x => if P.underlying e matches some (.int .u8) then some (.s2b x) else none
    | some (.slice e), some .string, some x => if P.underlying e matches some (.int .u8) then some (.b2s x) else none
    | some .string, some .string, some x => some (.same x)
    | some (.slice _), some (.slice e), some x => if s = t ∧ isByte P e = true then some (.frz 1 x) else none
    | _, _, _ => none
  | .makeInterface t x => match P.underlying t with
    | some (.interface _) => none
    | some _ => (opd G x).map (.mkifc t)
    | none => none
  | .makeFunc (.func f) first caps => match opds G first.toList, opds G caps.toList with
    | some a, some b => some (.mkfn f a b)
    | _, _ => none
  | .makeSlice t l c => match P.underlying t with
    | some (.slice e) => match zeroOf P e, P.info? e, opd G l, opd G c with
      | some z, some i, some l, some c => if 0 < z.length then some (.mkslice z.length i.bytes z l c) else none
      | _, _, _, _ => none
    | _ => none
  | .slice t x lo hi mx => match P.underlying t, opd G x, oopd G lo, oopd G hi, oopd G mx with
    | some .string, some x, some lo, some hi, some none => some (.sliceS x lo hi)
    | some (.slice e), some x, some lo, some hi, some mx => if 0 < P.cellsOf e && (mx.isNone || hi.isSome) then some (.slice (P.cellsOf e) x lo hi mx) else none
    | some (.array n e), some x, some lo, some hi, some none => if 0 < P.cellsOf e then some (.sliceA (P.cellsOf e) n x lo hi) else none
    | _, _, _, _, _ => none
  | .fieldAddr t x f => match P.underlying t, opd G x with
    | some (.struct fs), some x => match fs[f]? with
      | some f => if P.cellsOf f.type = 0 then none else some (.faddr f.offset x)
      | none => none
    | _, _ => none
  | .field t x f => match P.underlying t, opd G x with
    | some (.struct fs), some x => match fs[f]? with
      | some f => match aggT P f.type with
        | some g => if g || P.cellsOf f.type == 1 then some (.field f.offset (P.cellsOf f.type) g x) else none
        | none => none
      | none => none
    | _, _ => none
  | .indexAddr t x i => match P.underlying t, opd G x, opd G i with
    | some (.slice e), some x, some i => if 0 < P.cellsOf e then some (.iaddr (P.cellsOf e) x i) else none
    | some (.array n e), some x, some i => if 0 < P.cellsOf e then some (.iaddrA (P.cellsOf e) n x i) else none
    | _, _, _ => none
  | .index t x i => match P.underlying t, opd G x, opd G i with
    | some .string, some x, some i => some (.index x i)
    | _, _, _ => none
  | .extract x i => (opd G x).map fun x => .extract x i
  | .call c => match c.callee, opds G c.args.toList with
    | .value (.func f), some l => if isIx P f then (match l with
      | [x, c] => some (.ixb x c)
      | _ => none) else if isFb P f then (match l with
      | [x] => some (.fbits x)
      | _ => none) else some (.call f l)
    | .value g, some l => (opd G g).map fun g => .callv g l
    | .builtin .len, some [x] => match c.argTypes.toList with
      | [t] => match P.underlying t with
        | some .string => some (.len 0 x)
        | some (.slice _) => some (.len 1 x)
        | some (.map _ _) => some (.len 2 x)
        | _ => none
      | _ => none
    | .builtin .cap, some [x] => match c.argTypes.toList with
      | [t] => match P.underlying t with
        | some (.slice _) => some (.capOf x)
        | _ => none
      | _ => none
    | .builtin .max, some l => some (.mm true l)
    | .builtin .min, some l => some (.mm false l)
    | .builtin .recover, some [] => some .recover
    | .builtin .real, some [x] => some (.reim false x)
    | .builtin .imag, some [x] => some (.reim true x)
    | .builtin .complex, some [x, y] => some (.cplx x y)
    | .builtin .append, some [s, x] => match c.argTypes[0]?, c.argTypes[1]? with
      | some t, some u => match P.underlying t, P.underlying u with
        | some (.slice e), some (.slice _) | some (.slice e), some .string => match P.info? e with
          | some i => if 0 < i.size && 0 < i.bytes && (zeroOf P e).isSome then some (.app i.size i.bytes s x) else none
          | none => none
        | some (.slice e), some (.int _) => match P.info? e, zeroOf P e with
          | some i, some z => if 0 < i.size && 0 < i.bytes then some (.appz i.size i.bytes z s x) else none
          | _, _ => none
        | _, _ => none
      | _, _ => none
    | .builtin .copy, some [d, s] => match c.argTypes[0]? with
      | some t => match P.underlying t with
        | some (.slice e) => match P.info? e with
          | some i => some (.copy i.size d s)
          | none => none
        | _ => none
      | none => none
    | .builtin .delete, some [m, k] => match c.argTypes[0]? with
      | some t => match P.underlying t with
        | some (.map kt _) => (structKey P kt).map fun kd => .kdel kd m k
        | _ => none
      | none => none
    | .builtin .clear, some [x] => match c.argTypes[0]? with
      | some t => match P.underlying t with
        | some (.slice e) => match P.info? e, zeroOf P e with
          | some i, some z => if 0 < i.size then some (.clr i.size z x) else none
          | _, _ => none
        | _ => none
      | none => none
    | _, _ => none
  | .typeAssert x _ t ok => match P.underlying t, opd G x with
    | some (.interface _), _ => none
    | some _, some x => if ok then (zeroV P t).map fun z => .tassert t true z x else some (.tassert t false .undef x)
    | _, _ => none
  | .makeMap t r => match P.underlying t, r with
    | some (.map _ _), none => some .mkmap
    | _, _ => none
  | .lookup t m k ok => match P.underlying t, opd G m, opd G k with
    | some (.map kt et), some m, some k => match keyT P kt with
      | some kd => (zeroV P et).map fun z => .mapget kd z ok m k
      | none => (structKey P kt).bind fun kd => (zeroV P et).map fun z => .kget kd z ok m k
    | _, _, _ => none
  | .mapUpdate t m k x | .insert t m k x => match P.underlying t, opd G m, opd G k, opd G x with
    | some (.map kt _), some m, some k, some x => match keyT P kt with
      | some kd => some (.mapput kd m k x)
      | none => (structKey P kt).map fun kd => .kput kd m k x
    | _, _, _, _ => none
  | .panic x => (opd G x).map .panic
  | .defer c => match c.callee, opds G c.args.toList with
    | .value g, some l => (opd G g).map fun g => .defer g l
    | _, _ => none
  | _ => none

/-! ### regions -/

/-- the binding edges of an operation -/
def predsOf (md : Region.Mode) (o : Oper) : List Nat := (o.after.toList.filter fun e => Region.binds md e).map (·.on)
def preds (mx : Bool) (o : Oper) : List Nat := if mx then predsOf .any o else (predsOf .text o).filter fun j => (predsOf .gc o).contains j

/-- an order in which all operations come -/
def topo (md : Region.Mode) (ops : List Oper) : List Nat → List Nat → Bool
  | [], done => (List.range ops.length).all fun i => done.contains i
  | i :: l, done => (match ops[i]? with
    | some o => (predsOf md o).all fun j => done.contains j
    | none => false) && topo md ops l (i :: done)

/-- every order that may be drawn keeps the edges -/
def modeOk (mx : Bool) (ops : List Oper) (md : Region.Mode) : Bool :=
  topo md ops (Region.linearise md ops.toArray 0) [] && ops.all fun o => (preds mx o).all fun j => (predsOf md o).contains j

/-- the ancestors of each operation, in a list -/
def ancs (mx : Bool) : List Oper → List (List Nat) → List (List Nat)
  | [], acc => acc
  | o :: r, acc => ancs mx r (acc ++ [((preds mx o).flatMap fun j => j :: acc.getD j []).eraseDups])

structure RIn where
  ops : List Oper
  aops : List AOp
  anc : List (List Nat)

def RIn.dstOf (r : RIn) (i : Nat) : Option Nat := (r.ops[i]?).bind (·.dst)
def RIn.ancOf (r : RIn) (i : Nat) : List Nat := r.anc.getD i []

/-- what it looks at -/
def RIn.uses (r : RIn) (i : Nat) : List Nat :=
  (match r.aops[i]? with
   | some a => a.uses
   | none => []) ++
  (match (r.ops[i]?).bind (·.guard) with
   | some (j, _) => (r.dstOf j).toList
   | none => [])

/-- is it to keep its place: an effect, or what writes a variable that others read ahead of it -/
def RIn.eff (r : RIn) (i : Nat) : Bool :=
  ((r.aops[i]?).map fun a => a.kind == 3).getD true ||
  (match r.dstOf i with
   | some t => (List.range r.ops.length).any fun j => (r.uses j).contains t && !(r.ancOf j).contains i
   | none => false)

def RIn.kind (r : RIn) (i : Nat) : Nat := ((r.aops[i]?).map AOp.kind).getD 3

def stepOf (r : RIn) (chk : List (Nat × Option (Nat × Bool) × AOp)) (i : Nat) : Option Step :=
  match r.ops[i]?, r.aops[i]? with
  | some o, some a =>
    match o.guard with
    | none => some { dst := o.dst, op := a, guard := none, chk }
    | some (j, b) => match r.dstOf j with
      | some t => some { dst := o.dst, op := a, guard := some (t, b), chk }
      | none => none
  | _, _ => none

/-- what was read ahead of an effect that need not be -/
def chkOf (r : RIn) : List Nat → Option (List (Nat × Option (Nat × Bool) × AOp))
  | [] => some []
  | j :: l => match r.dstOf j, stepOf r [] j, chkOf r l with
    | some t, some s, some c => some ((t, s.guard, s.op) :: c)
    | _, _, _ => none

/-- may the effect i come ahead of j (which is no effect, and done) -/
def around (r : RIn) (i j : Nat) : Bool :=
  match r.dstOf i with
  | some t => !(r.uses j).contains t
  | none => true

/-- two effects that may come in either order: stores -/
def swapOk (r : RIn) (done : List Nat) (a b : Nat) : Bool :=
  a != b && r.eff a && r.eff b && (r.dstOf a).isNone && (r.dstOf b).isNone &&
  ((r.ops[a]?).bind (·.guard)).isNone && ((r.ops[b]?).bind (·.guard)).isNone &&
  (r.ancOf a).all (fun j => done.contains j) && (r.ancOf b).all (fun j => done.contains j) &&
  done.all fun j => r.eff j || (((r.ancOf a).contains j || r.kind j != 1) && ((r.ancOf b).contains j || r.kind j != 1))
def swapSteps (r : RIn) (done : List Nat) (a b : Nat) : Option (List Step) :=
  match r.aops[a]?, r.aops[b]? with
  | some (.store na pa xa), some (.store nb pb xb) =>
    if swapOk r done a b then some [⟨none, .apart pa pb, none, []⟩, ⟨none, .store na pa xa, none, []⟩, ⟨none, .store nb pb xb, none, []⟩] else none
  | _, _ => none

/-- an order: what asks nothing of others first; the effects in their own order -/
def order (r : RIn) : Nat → List Nat → List Nat → Option (List Step)
  | _, [], _ => some []
  | 0, _ :: _, _ => none
  | n + 1, todo, done =>
    match todo.find? fun i => !r.eff i && (r.ancOf i).all fun j => done.contains j with
    | some i => match stepOf r [] i, order r n (todo.filter (· != i)) (i :: done) with
      | some s, some l => some (s :: l)
      | _, _ => none
    | none => match todo.find? fun i => (r.ancOf i).all fun j => done.contains j with
      | some i =>
        if (todo.all fun j => j == i || (r.ancOf j).contains i) && (done.all fun j => r.eff j || (r.ancOf i).contains j || around r i j) then
          match chkOf r (done.filter fun j => !r.eff j && !(r.ancOf i).contains j && r.kind j == 1) with
          | some chk => match stepOf r chk i, order r n (todo.filter (· != i)) (i :: done) with
            | some s, some l => some (s :: l)
            | _, _ => none
          | none => none
        else match todo.find? fun j => j != i && (r.ancOf j).all fun k => done.contains k with
          | some b =>
            if todo.all fun j => j == i || j == b || ((r.ancOf j).contains i && (r.ancOf j).contains b) then
              match swapSteps r done i b, order r n ((todo.filter (· != i)).filter (· != b)) (b :: i :: done) with
              | some ss, some l => some (ss ++ l)
              | _, _ => none
            else none
          | none => none
      | none => none

def aops : List Oper → Option (List AOp)
  | [] => some []
  | o :: r => match aop P G o, aops r with
    | some a, some b => some (a :: b)
    | _, _ => none

def plainSteps (r : RIn) : List Nat → Option (List Step)
  | [] => some []
  | i :: l => match stepOf r [] i, plainSteps r l with
    | some s, some t => some (s :: t)
    | _, _ => none

def region (ops : List Oper) (draw : Bool) : Option (List Step) :=
  match aops P G ops with
  | none => none
  | some as =>
    if draw then
      let mx := P.follows .mixedOrders
      let r : RIn := { ops, aops := as, anc := ancs mx ops [] }
      if (if mx || !Region.departs ops.toArray then modeOk mx ops .any else modeOk mx ops .text && modeOk mx ops .gc) && decide ((ops.filterMap (·.dst)).Nodup) then
        order r ops.length (List.range ops.length) []
      else none
    else plainSteps { ops, aops := as, anc := [] } (List.range ops.length)

def AOp.isRecover : AOp → Bool
  | .recover => true
  | _ => false

def acode : Code → Option ACode
  | .skip => some .skip
  | .region _ ops draw => (region P G ops.toList draw).map fun l => if !draw && l.any (fun s => s.op.isRecover) then .rregion l else .region l
  | .seq a b => match acode a, acode b with
    | some x, some y => some (.seq x y)
    | _, _ => none
  | .cond c a b => match opd G c, acode a, acode b with
    | some c, some x, some y => some (.cond c x y)
    | _, _, _ => none
  | .block id c => (acode c).map (.block id)
  | .loop c => (acode c).map .loop
  | .scope c => (acode c).map .scope
  | .exit id => some (.exit id)
  | .label l => some (.label l)
  | .goto l => some (.goto l)
  | .ret => some .ret
  | _ => none

def rvars : List ResultVar → Option (List RVar)
  | [] => some []
  | .tmp t :: r => (rvars r).map (.t t :: ·)
  | .cell a t :: r => match aggT P t, P.info? t, rvars r with
    | some g, some i, some l => if g || i.size == 1 then some (.cell a i.size g :: l) else none
    | _, _, _ => none

def afunc (f : Func) : Option AFunc :=
  match f.body with
  | none => none
  | some c => match acode P G c, rvars P f.results.toList with
    | some body, some results => some { ntmps := f.ntmps, results, body }
    | _, _ => none
end
end Go.Ab
