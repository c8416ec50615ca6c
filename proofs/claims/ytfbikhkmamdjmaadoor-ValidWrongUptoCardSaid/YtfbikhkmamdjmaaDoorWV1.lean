/- Trees and flat lists, as they are handed in; copies of expressions; how much there is of them. -/
import Derived.Test.YtfbikhkmamdjmaaDoorWK2
namespace Go.Proofs.YtfbikhkmamdjmaaDoor.CodesK
open Go Go.Ab
set_option maxHeartbeats 800000
set_option maxRecDepth 100000

mutual
/-- an expression in memory of its own -/
def EX.cp : EX → EX
  | .mk k n s l _ => .mk k n s (EX.cps l) (slV ((EX.cps l).map EX.v))
def EX.cps : List EX → List EX
  | [] => []
  | x :: r => x.cp :: EX.cps r
end
theorem cps_map : ∀ l : List EX, EX.cps l = l.map EX.cp
  | [] => rfl
  | x :: r => by simp only [EX.cps, List.map_cons, cps_map r]
theorem EX.cp_k (x : EX) : x.cp.k = x.k := by cases x; rfl
theorem EX.cp_n (x : EX) : x.cp.n = x.n := by cases x; rfl
theorem EX.cp_name (x : EX) : x.cp.name = x.name := by cases x; rfl
theorem EX.cp_kids (x : EX) : x.cp.kids = x.kids.map EX.cp := by cases x; exact cps_map _
theorem EX.cp_u (x : EX) : x.cp.u = slV ((x.kids.map EX.cp).map EX.v) := by cases x; rw [← cps_map]; rfl
mutual
theorem EX.Ok.cp : ∀ x : EX, x.Ok → x.cp.Ok
  | .mk k n s l u, h => by
    have hk := h.kn
    refine .mk (hk.1) (hk.2) (slV_fz _) fun y hy => ?_
    exact EX.Ok.cps l (fun z hz => by cases h with | mk _ _ _ h => exact h z hz) y hy
theorem EX.Ok.cps : ∀ l : List EX, (∀ z ∈ l, z.Ok) → ∀ y ∈ EX.cps l, y.Ok
  | [], _, y, hy => by cases hy
  | x :: r, h, y, hy => by
    simp only [EX.cps, List.mem_cons] at hy
    rcases hy with rfl | hy
    · exact EX.Ok.cp x (h x List.mem_cons_self)
    · exact EX.Ok.cps r (fun z hz => h z (List.mem_cons_of_mem _ hz)) y hy
end

/-! how much there is -/
mutual
def EX.sz : EX → Nat
  | .mk _ _ s l _ => s.length + EX.szs l + 1
def EX.szs : List EX → Nat
  | [] => 0
  | x :: r => x.sz + EX.szs r
end
theorem EX.szs_mem : ∀ {l : List EX} {x : EX}, x ∈ l → x.sz ≤ EX.szs l
  | y :: r, x, h => by
    simp only [EX.szs]
    rcases List.mem_cons.1 h with rfl | h
    · omega
    · have := EX.szs_mem h; omega
theorem EX.sz_pos (x : EX) : 0 < x.sz := by cases x; simp only [EX.sz]; omega
theorem EX.szs_len : ∀ l : List EX, l.length ≤ EX.szs l
  | [] => Nat.le_refl _
  | x :: r => by have := EX.szs_len r; have := x.sz_pos; simp only [EX.szs, List.length_cons]; omega
theorem EX.sz_eq (x : EX) : x.sz = x.name.length + EX.szs x.kids + 1 := by cases x; rfl
theorem EX.sz_kid {x y : EX} (h : y ∈ x.kids) : y.sz < x.sz := by
  have := EX.szs_mem h
  rw [x.sz_eq]; omega
mutual
theorem EX.sz_cp : ∀ x : EX, x.cp.sz = x.sz
  | .mk k n s l u => by
    show (EX.mk k n s (EX.cps l) _).sz = _
    simp only [EX.sz, EX.szs_cp l]
theorem EX.szs_cp : ∀ l : List EX, EX.szs (EX.cps l) = EX.szs l
  | [] => rfl
  | x :: r => by simp only [EX.cps, EX.szs, EX.sz_cp x, EX.szs_cp r]
end

/-- nothing in it is longer than a machine bears -/
inductive EX.Sm : EX → Prop
  | mk {x : EX} (hn : x.name.length < 2 ^ 60) (hl : x.kids.length * 56 ≤ 140737488355328) (h : ∀ y ∈ x.kids, EX.Sm y) : EX.Sm x
theorem EX.Sm.name {x : EX} (h : x.Sm) : x.name.length < 2 ^ 60 := by cases h; assumption
theorem EX.Sm.len {x : EX} (h : x.Sm) : x.kids.length * 56 ≤ 140737488355328 := by cases h; assumption
theorem EX.Sm.kids {x : EX} (h : x.Sm) : ∀ y ∈ x.kids, y.Sm := by cases h; assumption
theorem EX.Sm.kid {x : EX} (h : x.Sm) {i : Nat} (hi : i < x.kids.length) : (x.kids.getD i default).Sm := h.kids _ (getD_mem hi)
mutual
theorem EX.Sm.cp : ∀ x : EX, x.Sm → x.cp.Sm
  | .mk k n s l u, h => by
    refine .mk h.name ?_ fun y hy => EX.Sm.cps l h.kids y hy
    have := h.len
    show (EX.cps l).length * 56 ≤ _
    rw [cps_map, List.length_map]
    exact this
theorem EX.Sm.cps : ∀ l : List EX, (∀ z ∈ l, z.Sm) → ∀ y ∈ EX.cps l, y.Sm
  | [], _, y, hy => by cases hy
  | x :: r, h, y, hy => by
    simp only [EX.cps, List.mem_cons] at hy
    rcases hy with rfl | hy
    · exact EX.Sm.cp x (h x List.mem_cons_self)
    · exact EX.Sm.cps r (fun z hz => h z (List.mem_cons_of_mem _ hz)) y hy
end

/-- a flat node, as it is handed in -/
structure FL where
  k : Int
  a : Int
  b : Int
  e : Int
  p : Int
  s : List Nat
  x : EX
  ws : List EX
  w : V
instance : Inhabited FL := ⟨⟨0, 0, 0, 0, 0, [], default, [], .nilsl⟩⟩
def FL.cells (r : FL) : List V := [i64 r.k, i64 r.a, i64 r.b, i64 r.e, i64 r.p, .str r.s, i64 r.x.k, i64 r.x.n, .str r.x.name, r.x.u, r.w]
def FL.v (r : FL) : V := .agg r.cells
structure FL.Ok (r : FL) : Prop where
  k : In64 r.k
  a : In64 r.a
  b : In64 r.b
  e : In64 r.e
  p : In64 r.p
  s : r.s.length < 2 ^ 60
  x : r.x.Ok
  w : IsFz r.w (r.ws.map EX.v)
  ws : ∀ y ∈ r.ws, y.Ok
  xm : r.x.Sm
  wl : r.ws.length * 56 ≤ 140737488355328
  wm : ∀ y ∈ r.ws, y.Sm

/-- a node, as it is handed in: u, w are its rows of parts and weights -/
inductive ND where
  | mk (k a b : Int) (s : List Nat) (x : EX) (kids : List ND) (u : V) (ws : List EX) (w : V)
def ND.k : ND → Int | .mk k _ _ _ _ _ _ _ _ => k
def ND.a : ND → Int | .mk _ a _ _ _ _ _ _ _ => a
def ND.b : ND → Int | .mk _ _ b _ _ _ _ _ _ => b
def ND.s : ND → List Nat | .mk _ _ _ s _ _ _ _ _ => s
def ND.x : ND → EX | .mk _ _ _ _ x _ _ _ _ => x
def ND.kids : ND → List ND | .mk _ _ _ _ _ l _ _ _ => l
def ND.u : ND → V | .mk _ _ _ _ _ _ u _ _ => u
def ND.ws : ND → List EX | .mk _ _ _ _ _ _ _ l _ => l
def ND.w : ND → V | .mk _ _ _ _ _ _ _ _ w => w
def ND.cells (n : ND) : List V := [i64 n.k, i64 n.a, i64 n.b, .str n.s, i64 n.x.k, i64 n.x.n, .str n.x.name, n.x.u, n.u, n.w]
def ND.v (n : ND) : V := .agg n.cells
instance : Inhabited ND := ⟨.mk 0 0 0 [] default [] .nilsl [] .nilsl⟩
inductive ND.Ok : ND → Prop
  | mk {n : ND} (hk : In64 n.k) (ha : In64 n.a) (hb : In64 n.b) (hs : n.s.length < 2 ^ 60) (hx : n.x.Ok) (hu : IsFz n.u (n.kids.map ND.v)) (hw : IsFz n.w (n.ws.map EX.v)) (hws : ∀ y ∈ n.ws, y.Ok) (hxm : n.x.Sm) (hwl : n.ws.length * 56 ≤ 140737488355328) (hwm : ∀ y ∈ n.ws, y.Sm)
    (hl : n.kids.length < 2 ^ 24) (h : ∀ y ∈ n.kids, ND.Ok y) : ND.Ok n
theorem ND.Ok.kids {n : ND} (h : n.Ok) : ∀ y ∈ n.kids, y.Ok := by cases h; assumption
theorem ND.Ok.kid {n : ND} (h : n.Ok) {i : Nat} (hi : i < n.kids.length) : (n.kids.getD i default).Ok := h.kids _ (getD_mem hi)
theorem ND.Ok.ku {n : ND} (h : n.Ok) : IsFz n.u (n.kids.map ND.v) := by cases h; assumption
theorem ND.Ok.wu {n : ND} (h : n.Ok) : IsFz n.w (n.ws.map EX.v) := by cases h; assumption
theorem ND.Ok.ex {n : ND} (h : n.Ok) : n.x.Ok := by cases h; assumption
theorem ND.Ok.wk {n : ND} (h : n.Ok) : ∀ y ∈ n.ws, y.Ok := by cases h; assumption
theorem ND.Ok.sl {n : ND} (h : n.Ok) : n.s.length < 2 ^ 60 := by cases h; assumption
theorem ND.Ok.xm {n : ND} (h : n.Ok) : n.x.Sm := by cases h; assumption
theorem ND.Ok.wl {n : ND} (h : n.Ok) : n.ws.length * 56 ≤ 140737488355328 := by cases h; assumption
theorem ND.Ok.wm {n : ND} (h : n.Ok) : ∀ y ∈ n.ws, y.Sm := by cases h; assumption
theorem ND.Ok.len {n : ND} (h : n.Ok) : n.kids.length < 2 ^ 24 := by cases h; assumption
theorem ND.Ok.ka {n : ND} (h : n.Ok) : In64 n.k ∧ In64 n.a ∧ In64 n.b := by cases h; exact ⟨by assumption, by assumption, by assumption⟩
mutual
def ND.cnt : ND → Nat
  | .mk _ _ _ _ _ l _ _ _ => ND.cnts l + 1
def ND.cnts : List ND → Nat
  | [] => 0
  | x :: r => x.cnt + ND.cnts r
end
mutual
def ND.deep : ND → Nat
  | .mk _ _ _ _ _ l _ _ _ => ND.deeps l + 1
def ND.deeps : List ND → Nat
  | [] => 0
  | x :: r => max x.deep (ND.deeps r)
end
theorem ND.cnt_eq (n : ND) : n.cnt = ND.cnts n.kids + 1 := by cases n; rfl
theorem ND.deep_eq (n : ND) : n.deep = ND.deeps n.kids + 1 := by cases n; rfl
theorem ND.cnts_mem : ∀ {l : List ND} {x : ND}, x ∈ l → x.cnt ≤ ND.cnts l
  | y :: r, x, h => by
    simp only [ND.cnts]
    rcases List.mem_cons.1 h with rfl | h
    · omega
    · have := ND.cnts_mem h; omega
theorem ND.cnt_kid {n y : ND} (h : y ∈ n.kids) : y.cnt < n.cnt := by
  have := ND.cnts_mem h
  rw [n.cnt_eq]; omega
theorem ND.deeps_mem : ∀ {l : List ND} {x : ND}, x ∈ l → x.deep ≤ ND.deeps l
  | y :: r, x, h => by
    simp only [ND.deeps]
    rcases List.mem_cons.1 h with rfl | h
    · omega
    · have := ND.deeps_mem h; omega
mutual
theorem ND.deep_cnt : ∀ n : ND, n.deep ≤ n.cnt
  | .mk _ _ _ _ _ l _ _ _ => by have := ND.deeps_cnts l; simp only [ND.deep, ND.cnt]; omega
theorem ND.deeps_cnts : ∀ l : List ND, ND.deeps l ≤ ND.cnts l
  | [] => Nat.le_refl _
  | x :: r => by have := ND.deep_cnt x; have := ND.deeps_cnts r; simp only [ND.deeps, ND.cnts]; omega
end
theorem ND.cnts_len : ∀ l : List ND, l.length ≤ ND.cnts l
  | [] => Nat.le_refl _
  | x :: r => by have := ND.cnts_len r; have := x.cnt_eq; simp only [ND.cnts, List.length_cons]; omega

end Go.Proofs.YtfbikhkmamdjmaaDoor.CodesK
