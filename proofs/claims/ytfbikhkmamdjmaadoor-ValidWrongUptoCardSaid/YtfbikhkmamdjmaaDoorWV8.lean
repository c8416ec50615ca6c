/- Trees made flat: the flat list's tree is the tree. -/
import Derived.Test.YtfbikhkmamdjmaaDoorWV5
namespace Go.Proofs.YtfbikhkmamdjmaaDoor.CodesK
open Go Go.Ab
set_option maxRecDepth 100000

def ND.row (n : ND) (at' : Nat) (par : Int) : FL := ⟨n.k, n.a, n.b, ((at' + n.cnt : Nat) : Int), par, n.s, n.x, n.ws, n.w⟩
mutual
def ND.fl (at' : Nat) (par : Int) : ND → List FL
  | .mk k a b s x l u ws w => ND.row (.mk k a b s x l u ws w) at' par :: ND.fls (at' + 1) (at' : Nat) l
def ND.fls (at' : Nat) (par : Int) : List ND → List FL
  | [] => []
  | n :: r => n.fl at' par ++ ND.fls (at' + n.cnt) par r
end
mutual
def ND.rt (at' : Nat) (par : Int) : ND → RT
  | .mk k a b s x l u ws w => .mk (ND.row (.mk k a b s x l u ws w) at' par) (ND.rts (at' + 1) (at' : Nat) l)
def ND.rts (at' : Nat) (par : Int) : List ND → List RT
  | [] => []
  | n :: r => n.rt at' par :: ND.rts (at' + n.cnt) par r
end
theorem ND.fl_eq (n : ND) (at' : Nat) (par : Int) : n.fl at' par = n.row at' par :: ND.fls (at' + 1) (at' : Nat) n.kids := by cases n; rfl
theorem ND.rt_eq (n : ND) (at' : Nat) (par : Int) : n.rt at' par = .mk (n.row at' par) (ND.rts (at' + 1) (at' : Nat) n.kids) := by cases n; rfl
mutual
theorem ND.fl_len : ∀ (n : ND) (at' : Nat) (par : Int), (n.fl at' par).length = n.cnt
  | .mk _ _ _ _ _ l _ _ _, at', par => by rw [ND.fl, List.length_cons, ND.fls_len l, ND.cnt]
theorem ND.fls_len : ∀ (l : List ND) (at' : Nat) (par : Int), (ND.fls at' par l).length = ND.cnts l
  | [], _, _ => rfl
  | n :: r, at', par => by rw [ND.fls, List.length_append, ND.fl_len n, ND.fls_len r, ND.cnts]
end
theorem ND.cnt_pos (n : ND) : 0 < n.cnt := by rw [n.cnt_eq]; omega
theorem rowAt_drop {L r : List FL} {i : Nat} {x : FL} (h : L.drop i = x :: r) : rowAt L i = x ∧ L.drop (i + 1) = r ∧ i < L.length := by
  have h1 : i < L.length := by
    rcases Nat.lt_or_ge i L.length with h1 | h1
    · exact h1
    · rw [List.drop_eq_nil_of_le h1] at h; cases h
  rw [List.drop_eq_getElem_cons h1] at h
  cases h
  exact ⟨by simp [rowAt, List.getD, List.getElem?_eq_getElem h1], rfl, h1⟩
mutual
theorem bk_fl (L : List FL) : ∀ (n : ND) (f at' : Nat) (par : Int) (post : List FL), L.drop at' = n.fl at' par ++ post → n.cnt ≤ f → bk L f at' par = (n.rt at' par, ((at' + n.cnt : Nat) : Int))
  | .mk k a b s x l u ws w, f, at', par, post, h, hf => by
    have hl : L.length = at' + ((ND.mk k a b s x l u ws w).cnt + post.length) := by
      have h1 := congrArg List.length h
      rw [List.length_drop, List.length_append, ND.fl_len] at h1
      have h2 := ND.cnt_pos (.mk k a b s x l u ws w)
      omega
    rw [ND.fl] at h
    obtain ⟨h1, h2, h3⟩ := rowAt_drop h
    have hc : (ND.mk k a b s x l u ws w).cnt = ND.cnts l + 1 := rfl
    obtain ⟨f, rfl⟩ : ∃ g, f = g + 1 := ⟨f - 1, by omega⟩
    have he : (rowAt L at').e.toNat = at' + 1 + ND.cnts l := by rw [h1]; show (((at' + (ND.mk k a b s x l u ws w).cnt : Nat) : Int)).toNat = _; omega
    have hb : ¬ badRow L at' par := by
      unfold badRow
      rw [h1]
      rintro (h4 | h4 | h4)
      · exact h4 rfl
      · have h5 : ((at' + (ND.mk k a b s x l u ws w).cnt : Nat) : Int) ≤ at' := h4; omega
      · have h5 : (L.length : Int) < ((at' + (ND.mk k a b s x l u ws w).cnt : Nat) : Int) := h4; omega
    unfold bk
    rw [if_neg hb, he]
    have := bl_fl L l f (L.length - at') (at' + 1) at' [] post h2 (by omega) (by omega)
    rw [this, h1, List.nil_append, hc, ND.rt]
    congr 1
    show ((at' + 1 + ND.cnts l : Nat) : Int) = _
    omega
theorem bl_fl (L : List FL) : ∀ (l : List ND) (f g to p : Nat) (acc : List RT) (post : List FL), L.drop to = ND.fls to (p : Nat) l ++ post → ND.cnts l ≤ f → ND.cnts l < g →
    bl (fun to => bk L f to (p : Nat)) (to + ND.cnts l) g to acc = (acc ++ ND.rts to (p : Nat) l, ((to + ND.cnts l : Nat) : Int))
  | [], f, g, to, p, acc, post, _, _, hg => by
    obtain ⟨g, rfl⟩ : ∃ k, g = k + 1 := ⟨g - 1, by omega⟩
    unfold bl
    rw [if_neg (by simp [ND.cnts])]
    simp [ND.rts, ND.cnts]
  | n :: r, f, g, to, p, acc, post, h, hf, hg => by
    have hc : ND.cnts (n :: r) = n.cnt + ND.cnts r := rfl
    have hp := n.cnt_pos
    obtain ⟨g, rfl⟩ : ∃ k, g = k + 1 := ⟨g - 1, by omega⟩
    rw [ND.fls, List.append_assoc] at h
    have h1 := bk_fl L n f to (p : Nat) _ h (by omega)
    have h2 : L.drop (to + n.cnt) = ND.fls (to + n.cnt) (p : Nat) r ++ post := by
      rw [← List.drop_drop, h, List.drop_left' (ND.fl_len n to _)]
    unfold bl
    rw [if_pos (by omega)]
    simp only [h1]
    rw [if_neg (by omega)]
    have h3 := bl_fl L r f g (to + n.cnt) p (acc ++ [n.rt to (p : Nat)]) post h2 (by omega) (by omega)
    have h4 : (((to + n.cnt : Nat) : Int)).toNat = to + n.cnt := by omega
    rw [h4, hc, show to + (n.cnt + ND.cnts r) = to + n.cnt + ND.cnts r by omega, h3, ND.rts, List.append_assoc]
    rfl
end
theorem start_fl (n : ND) : start (n.fl 0 (-1)) = some (n.rt 0 (-1)) := by
  have h := bk_fl (n.fl 0 (-1)) n (n.fl 0 (-1)).length 0 (-1) [] (by simp) (by rw [ND.fl_len]; exact Nat.le_refl _)
  have hp := n.cnt_pos
  rw [start_eq, h, ND.fl_len, if_pos ⟨hp, by omega⟩]
theorem rts_len : ∀ (l : List ND) (at' : Nat) (par : Int), (ND.rts at' par l).length = l.length
  | [], _, _ => rfl
  | n :: r, at', par => by rw [ND.rts, List.length_cons, List.length_cons, rts_len r]
mutual
theorem node_rt : ∀ (n : ND) (at' : Nat) (par : Int), nodeF (n.rt at' par).rf = nodeF n
  | .mk k a b s x l u ws w, at', par => by
    rw [ND.rt, RT.rf, nodeF, nodeF, nodes_rt l, rfs_len, rts_len]
    rfl
theorem nodes_rt : ∀ (l : List ND) (at' : Nat) (par : Int), nodesF (RT.rfs (ND.rts at' par l)) = nodesF l
  | [], _, _ => rfl
  | n :: r, at', par => by rw [ND.rts, RT.rfs, nodesF, nodesF, node_rt n, nodes_rt r]
end
mutual
theorem deep_rt : ∀ (n : ND) (at' : Nat) (par : Int), (n.rt at' par).rf.deep = n.deep
  | .mk k a b s x l u ws w, at', par => by rw [ND.rt, RT.rf, ND.deep, ND.deep, deeps_rt l]
theorem deeps_rt : ∀ (l : List ND) (at' : Nat) (par : Int), ND.deeps (RT.rfs (ND.rts at' par l)) = ND.deeps l
  | [], _, _ => rfl
  | n :: r, at', par => by rw [ND.rts, RT.rfs, ND.deeps, ND.deeps, deep_rt n, deeps_rt r]
end
theorem run_fl (n : ND) (h : n.cnt ≤ 4000) : runF (n.fl 0 (-1)) = rnF 40 n := by
  unfold runF
  rw [start_fl]
  simp only
  rw [ND.fl_len, decide_eq_true h, deep_rt, node_rt, rnF_eq, Bool.true_and]
end Go.Proofs.YtfbikhkmamdjmaaDoor.CodesK
