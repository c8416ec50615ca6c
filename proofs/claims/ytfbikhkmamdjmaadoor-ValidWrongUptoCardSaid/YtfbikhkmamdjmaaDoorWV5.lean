/- Whether a node may be run. -/
import Derived.Test.YtfbikhkmamdjmaaDoorWV3
import Derived.Test.YtfbikhkmamdjmaaDoorWK3
namespace Go.Proofs.YtfbikhkmamdjmaaDoor.CodesK
open Go Go.Ab
set_option maxRecDepth 100000

theorem rightF_cp : ∀ (m : Nat) (x : EX), rightF m x.cp = rightF m x
  | 0, _ => rfl
  | m + 1, x => by
    have h1 : okN x.cp ↔ okN x := by
      have e1 := x.cp_k
      have e2 := x.cp_n
      have e3 := x.cp_name
      have e4 : x.cp.kids.length = x.kids.length := by rw [x.cp_kids, List.length_map]
      constructor
      · rintro ⟨a1, a2, a3, a4, a5, a6, a7, a8⟩
        rw [e1] at a1 a2 a3 a4 a5 a6 a7 a8
        rw [e2] at a6 a7 a8
        rw [e3] at a4 a5
        rw [e4] at a3
        exact ⟨a1, a2, a3, a4, a5, a6, a7, a8⟩
      · rintro ⟨a1, a2, a3, a4, a5, a6, a7, a8⟩
        refine ⟨?_, ?_, ?_, ?_, ?_, ?_, ?_, ?_⟩ <;> rw [e1]
        · exact a1
        · exact a2
        · rw [e4]; exact a3
        · rw [e3]; exact a4
        · rw [e3]; exact a5
        · rw [e2]; exact a6
        · rw [e2]; exact a7
        · rw [e2]; exact a8
    have h2 : x.cp.kids.all (rightF m) = x.kids.all (rightF m) := by
      rw [x.cp_kids, List.all_map]
      congr 1
      funext y
      exact rightF_cp m y
    rw [rightF_succ, rightF_succ, h2]
    congr 1
    exact decide_eq_decide.2 h1

structure okD (k a b : Int) (s : List Nat) (x : EX) (ws : List EX) (len : Nat) : Prop where
  k0 : 0 ≤ k
  k1 : k ≤ 15
  k2 : k ≠ 10
  many : k ≤ 4 ∨ k = 11 → 1 ≤ len ∧ len ≤ 16
  one : k = 5 ∨ k = 6 → len = 1
  leaf : ¬ (k ≤ 6 ∨ k = 11) → len = 0
  par : k = 4 → 1 ≤ a ∧ a ≤ len ∧ 1 ≤ b ∧ b ≤ len
  rep : k = 6 → 1 ≤ a ∧ a ≤ 1000 ∧ b = 0
  bare : k ≠ 4 → k ≠ 6 → a = 0 ∧ b = 0
  nam : k = 8 ∨ k = 9 ∨ k = 12 → isName s
  non : ¬ (k = 8 ∨ k = 9 ∨ k = 12) → s = []
  tol : k = 7 ∨ k = 8 → rightF 40 x = true
  nox : ¬ (k = 7 ∨ k = 8) → x.k = 0 ∧ x.n = 0 ∧ x.name = [] ∧ x.kids = []
  wl : ws.length = if k = 11 then len else 0
  wr : ws.all (rightF 40) = true
theorem okD_cp {k a b : Int} {s : List Nat} {x : EX} {ws : List EX} {len : Nat} : okD k a b s x.cp (ws.map EX.cp) len ↔ okD k a b s x ws len := by
  have e1 := x.cp_k
  have e2 := x.cp_n
  have e3 := x.cp_name
  have e4 : x.cp.kids = [] ↔ x.kids = [] := by rw [x.cp_kids]; simp
  have e5 := rightF_cp 40 x
  have e6 : (ws.map EX.cp).all (rightF 40) = ws.all (rightF 40) := by
    rw [List.all_map]
    congr 1
    funext y
    exact rightF_cp 40 y
  constructor
  · rintro ⟨a1, a2, a3, a4, a5, a6, a7, a8, a9, a10, a11, a12, a13, a14, a15⟩
    rw [e1, e2, e3, e4] at a13
    rw [e5] at a12
    rw [e6] at a15
    rw [List.length_map] at a14
    exact ⟨a1, a2, a3, a4, a5, a6, a7, a8, a9, a10, a11, a12, a13, a14, a15⟩
  · rintro ⟨a1, a2, a3, a4, a5, a6, a7, a8, a9, a10, a11, a12, a13, a14, a15⟩
    refine ⟨a1, a2, a3, a4, a5, a6, a7, a8, a9, a10, a11, ?_, ?_, ?_, ?_⟩
    · rw [e5]; exact a12
    · rw [e1, e2, e3, e4]; exact a13
    · rw [List.length_map]; exact a14
    · rw [e6]; exact a15
abbrev ND.okD (n : ND) : Prop := CodesK.okD n.k n.a n.b n.s n.x n.ws n.kids.length
open Classical in
mutual
noncomputable def nodeF : ND → Bool
  | .mk k a b s x l _ ws _ => decide (okD k a b s x ws l.length) && nodesF l
noncomputable def nodesF : List ND → Bool
  | [] => true
  | n :: r => nodeF n && nodesF r
end
theorem nodesF_all : ∀ l : List ND, nodesF l = l.all nodeF
  | [] => by simp [nodesF]
  | n :: r => by simp [nodesF, nodesF_all r]
open Classical in
theorem nodeF_eq (n : ND) : nodeF n = (decide n.okD && n.kids.all nodeF) := by
  cases n
  rw [nodeF, nodesF_all]
  rfl
open Classical in
theorem nodeF_no {n : ND} (h : ¬ n.okD) : false = nodeF n := by rw [nodeF_eq, decide_eq_false h]; rfl
open Classical in
theorem nodeF_yes {n : ND} (h : n.okD) : nodeF n = n.kids.all nodeF := by rw [nodeF_eq, decide_eq_true h]; rfl
open Classical in
noncomputable def rnF : Nat → ND → Bool
  | 0, _ => false
  | m + 1, n => decide n.okD && n.kids.all (rnF m)
open Classical in
theorem rnF_no {m : Nat} {n : ND} (h : ¬ n.okD) : false = rnF (m + 1) n := by rw [rnF, decide_eq_false h]; rfl
open Classical in
theorem rnF_yes {m : Nat} {n : ND} (h : n.okD) : rnF (m + 1) n = n.kids.all (rnF m) := by rw [rnF, decide_eq_true h]; rfl
theorem deeps_le : ∀ (l : List ND) (m : Nat), ND.deeps l ≤ m ↔ ∀ n ∈ l, n.deep ≤ m
  | [], m => by simp [ND.deeps]
  | n :: r, m => by
    have := deeps_le r m
    simp only [ND.deeps, List.mem_cons, forall_eq_or_imp, ← this]
    omega
theorem rnF_eq : ∀ (m : Nat) (n : ND), rnF m n = (decide (n.deep ≤ m) && nodeF n)
  | 0, n => by
    have : ¬ n.deep ≤ 0 := by rw [n.deep_eq]; omega
    rw [decide_eq_false this]; rfl
  | m + 1, n => by
    rw [rnF, nodeF_eq]
    have h1 : (n.kids.all (rnF m)) = (decide (n.deep ≤ m + 1) && n.kids.all nodeF) := by
      have h2 : n.deep ≤ m + 1 ↔ ∀ y ∈ n.kids, y.deep ≤ m := by
        rw [← deeps_le, n.deep_eq]; omega
      have h3 : rnF m = fun y => (decide (y.deep ≤ m) && nodeF y) := funext fun y => rnF_eq m y
      rw [h3, Bool.eq_iff_iff]
      simp only [List.all_eq_true, Bool.and_eq_true, decide_eq_true_eq, h2]
      constructor
      · exact fun h => ⟨fun y hy => (h y hy).1, fun y hy => (h y hy).2⟩
      · exact fun h y hy => ⟨h.1 y hy, h.2 y hy⟩
    rw [h1]
    cases decide (n.deep ≤ m + 1) <;> simp

/-! the tree as the program makes it, and as the document makes it -/
mutual
def RT.pr : RT → ND
  | .mk r l => .mk r.k r.a r.b r.s r.x.cp (RT.prs l) (slV ((RT.prs l).map ND.v)) (r.ws.map EX.cp) (slV ((r.ws.map EX.cp).map EX.v))
def RT.prs : List RT → List ND
  | [] => []
  | t :: r => t.pr :: RT.prs r
end
mutual
def RT.rf : RT → ND
  | .mk r l => .mk r.k r.a r.b r.s r.x (RT.rfs l) (slV ((RT.rfs l).map ND.v)) r.ws r.w
def RT.rfs : List RT → List ND
  | [] => []
  | t :: r => t.rf :: RT.rfs r
end
theorem prs_map : ∀ l : List RT, RT.prs l = l.map RT.pr
  | [] => rfl
  | x :: r => by simp only [RT.prs, List.map_cons, prs_map r]
theorem rfs_map : ∀ l : List RT, RT.rfs l = l.map RT.rf
  | [] => rfl
  | x :: r => by simp only [RT.rfs, List.map_cons, rfs_map r]
theorem prs_len (l : List RT) : (RT.prs l).length = l.length := by rw [prs_map, List.length_map]
theorem rfs_len (l : List RT) : (RT.rfs l).length = l.length := by rw [rfs_map, List.length_map]
mutual
theorem node_same : ∀ t : RT, nodeF t.pr = nodeF t.rf
  | .mk r l => by
    have h1 := nodes_same l
    rw [RT.pr, RT.rf, nodeF, nodeF, h1]
    congr 1
    rw [prs_len, rfs_len]
    exact decide_eq_decide.2 okD_cp
theorem nodes_same : ∀ l : List RT, nodesF (RT.prs l) = nodesF (RT.rfs l)
  | [] => rfl
  | t :: r => by rw [RT.prs, RT.rfs, nodesF, nodesF, node_same t, nodes_same r]
end
mutual
theorem deep_same : ∀ t : RT, t.pr.deep = t.rf.deep
  | .mk r l => by rw [RT.pr, RT.rf, ND.deep, ND.deep, deeps_same l]
theorem deeps_same : ∀ l : List RT, ND.deeps (RT.prs l) = ND.deeps (RT.rfs l)
  | [] => rfl
  | t :: r => by rw [RT.prs, RT.rfs, ND.deeps, ND.deeps, deep_same t, deeps_same r]
end
/-- whether a flat list can be run -/
noncomputable def runF (l : List FL) : Bool := match start l with
  | some t => decide (l.length ≤ 4000) && (decide (t.rf.deep ≤ 40) && nodeF t.rf)
  | none => false
end Go.Proofs.YtfbikhkmamdjmaaDoor.CodesK
