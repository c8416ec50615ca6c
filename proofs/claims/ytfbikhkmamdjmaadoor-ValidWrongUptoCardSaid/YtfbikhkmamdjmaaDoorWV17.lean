/- The stack of open nodes in memory. -/
import Derived.Test.YtfbikhkmamdjmaaDoorWV16
namespace Go.Proofs.YtfbikhkmamdjmaaDoor.CodesK
open Go Go.Ab
set_option maxHeartbeats 1600000
set_option maxRecDepth 100000

/-- an open node: its place, its parts, where they are -/
structure Fm where
  a : Nat
  ks : List RT
  v : V
  row : List V
  q : Option Nat
def fcells (l : List FL) (f : Fm) : List V := i64 f.a :: ndC (rowAt l f.a) f.v
theorem fcells_len (l : List FL) (f : Fm) : (fcells l f).length = 11 := rfl
structure FOk (h : Heap) (bs : List (Option (List V))) (D : Nat → Bool) (at' : Nat) (f : Fm) : Prop where
  kid : Kid h bs f.v f.ks.length f.row f.q
  rd : RdAll h (only D 0 bs) (5000 * RT.deeps f.ks) (elems 10 f.ks.length f.row) ((f.ks.map RT.pr).map ND.v)
  lt : f.a < at'
  dp : ∀ t ∈ f.ks, f.a + t.deep < at'
  kl : f.a + f.ks.length < at'
  nl : f.ks = [] → f.v = .nilsl
  out : ∀ j, f.q = some j → D j = false ∧ j ≠ 0
structure Inv (l : List FL) (h : Heap) (bs : List (Option (List V))) (D : Nat → Bool) (at' : Nat) (vo : V) (F : List Fm) : Prop where
  sl : IsSl h bs 11 vo F.length (F.reverse.flatMap (fcells l))
  nil : F = [] → vo = .nilsl
  ok : ∀ f ∈ F, FOk h bs D at' f
  ap : F.Pairwise fun f g => g.a + g.ks.length < f.a ∧ ∀ j, f.q = some j → g.q ≠ some j
  oj : ∀ j a b c d, vo = .msl (h.next + j) a b c d → D j = false ∧ j ≠ 0 ∧ ∀ f ∈ F, f.q ≠ some j
  dl : ∀ j, D j = true → j < bs.length ∧ j ≠ 0
  z : bget bs 0 = some zN
theorem FOk.keep {h : Heap} {bs bs' : List (Option (List V))} {D D' : Nat → Bool} {at' at2 : Nat} {f : Fm} (hf : FOk h bs D at' f) (hk : ∀ j c, (D j = true ∨ f.q = some j) → bget bs j = some c → bget bs' j = some c) (hD : ∀ j, D j = true → D' j = true)
    (ho : ∀ j, f.q = some j → D' j = false) (ha : at' ≤ at2) : FOk h bs' D' at2 f := by
  refine ⟨⟨hf.kid.len, ?_⟩, hf.rd.ext (only_ext hD fun j c hj e => hk j c (.inl hj) e) (Nat.le_refl _), Nat.lt_of_lt_of_le hf.lt ha, fun t ht => Nat.lt_of_lt_of_le (hf.dp t ht) ha, Nat.lt_of_lt_of_le hf.kl ha, hf.nl, fun j hj => ⟨ho j hj, (hf.out j hj).2⟩⟩
  rcases hf.kid.is with h1 | ⟨j, h1, h2, h3⟩
  · exact .inl h1
  · exact .inr ⟨j, h1, hk j _ (.inr h3) h2, h3⟩
/-- a node more -/
theorem Inv.push {l : List FL} {h : Heap} {bs bs' : List (Option (List V))} {D : Nat → Bool} {at' : Nat} {vo vo' : V} {F : List Fm} (hi : Inv l h bs D at' vo F) {c : List V} (hc : c = fcells l ⟨at', [], .nilsl, [], none⟩)
    (hsl : IsSl h bs' 11 vo' (F.length + 1) (F.reverse.flatMap (fcells l) ++ c)) (hkeep : ∀ i r, bget (badd bs c) i = some r → (∀ a b d e, vo ≠ .msl (h.next + i) a b d e) → bget bs' i = some r)
    (hown : ∀ i a b d e, vo' = .msl (h.next + i) a b d e → (∃ a' b' d' e', vo = .msl (h.next + i) a' b' d' e') ∨ bs.length + 1 ≤ i) (hle : bs.length + 1 ≤ bs'.length) :
    Inv l h bs' D (at' + 1) vo' (⟨at', [], .nilsl, [], none⟩ :: F) := by
  have h0 : 0 < bs.length := bget_lt hi.z
  have hne : ∀ j, (D j = true ∨ ∃ f ∈ F, f.q = some j) ∨ j = 0 → ∀ a b d e, vo ≠ .msl (h.next + j) a b d e := fun j hj a b d e hv => by
    obtain ⟨h1, h2, h3⟩ := hi.oj _ _ _ _ _ hv
    rcases hj with (hj | ⟨f, hf, hj⟩) | hj
    · rw [h1] at hj; cases hj
    · exact h3 f hf hj
    · exact h2 hj
  refine ⟨?_, (fun hh => by cases hh), fun f hf => ?_, ?_, fun j a b d e hv => ?_, fun j hj => ?_, ?_⟩
  · simp only [List.length_cons, List.reverse_cons, List.flatMap_append, List.flatMap_cons, List.flatMap_nil, List.append_nil]
    rw [← hc]
    exact hsl
  · rcases List.mem_cons.1 hf with rfl | hf
    · exact ⟨⟨rfl, .inl ⟨rfl, rfl, rfl, rfl⟩⟩, .nil, Nat.lt_succ_self _, (fun t ht => by cases ht), Nat.lt_succ_self _, fun _ => rfl, fun j hj => by cases hj⟩
    · exact (hi.ok f hf).keep (fun j r hj e => hkeep j r (bget_badd_lt e) (hne j (.inl (hj.imp id fun hq => ⟨f, hf, hq⟩)))) (fun j hj => hj) (fun j hj => ((hi.ok f hf).out j hj).1) (Nat.le_succ _)
  · exact List.pairwise_cons.2 ⟨fun g hg => ⟨(hi.ok g hg).kl, fun j hj => by cases hj⟩, hi.ap⟩
  · rcases hown _ _ _ _ _ hv with ⟨a', b', d', e', h1⟩ | h1
    · obtain ⟨h2, h3, h4⟩ := hi.oj _ _ _ _ _ h1
      refine ⟨h2, h3, fun f hf => ?_⟩
      rcases List.mem_cons.1 hf with rfl | hf
      · simp
      · exact h4 f hf
    · refine ⟨?_, by omega, fun f hf => ?_⟩
      · cases hD : D j with
        | false => rfl
        | true => have := (hi.dl j hD).1; omega
      · rcases List.mem_cons.1 hf with rfl | hf
        · simp
        · intro hq
          have := (hi.ok f hf).kid.lt j hq
          omega
  · have := hi.dl j hj; omega
  · exact hkeep 0 _ (bget_badd_lt hi.z) (hne 0 (.inr rfl))
/-- what the last two hold in the stack's block -/
structure Top2 (l : List FL) (co : List V) (n : Nat) (g f : Fm) : Prop where
  le : (n + 2) * 11 ≤ co.length
  va : (co.drop ((0 + n) * 11 + 1 + 8)).head? = some g.v
  nc : (co.drop ((0 + (n + 1)) * 11 + 1)).take 10 = ndC (rowAt l f.a) f.v
  at0 : (co.drop ((0 + n) * 11)).head? = some (i64 g.a)
theorem flat_len (l : List FL) (F : List Fm) : (F.flatMap (fcells l)).length = F.length * 11 := by
  induction F with
  | nil => rfl
  | cons f r ih => simp only [List.flatMap_cons, List.length_append, ih, List.length_cons, fcells_len]; omega
theorem top2_of {l : List FL} {co : List V} {g f : Fm} {G : List Fm} (hle : (G.length + 2) * 11 ≤ co.length) (ht : co.take ((G.length + 2) * 11) = (f :: g :: G).reverse.flatMap (fcells l)) : Top2 l co G.length g f := by
  have hco : co = G.reverse.flatMap (fcells l) ++ (fcells l g ++ (fcells l f ++ co.drop ((G.length + 2) * 11))) := by
    conv => lhs; rw [← List.take_append_drop ((G.length + 2) * 11) co, ht]
    simp only [List.reverse_cons, List.flatMap_append, List.flatMap_cons, List.flatMap_nil, List.append_nil, List.append_assoc]
  have hl := flat_len l G.reverse
  rw [List.length_reverse] at hl
  generalize co.drop ((G.length + 2) * 11) = tl at hco
  generalize G.reverse.flatMap (fcells l) = A at hco hl
  have d1 : ∀ k, (A ++ (fcells l g ++ (fcells l f ++ tl))).drop ((0 + G.length) * 11 + k) = (fcells l g ++ (fcells l f ++ tl)).drop k := fun k => by
    rw [show (0 + G.length) * 11 + k = A.length + k by omega, List.drop_length_add_append]
  have hle' := hle
  refine ⟨hle, ?_, ?_, ?_⟩
  · rw [hco, Nat.add_assoc, d1]; rfl
  · rw [hco, show (0 + (G.length + 1)) * 11 + 1 = (0 + G.length) * 11 + 12 by omega, d1]; rfl
  · have := d1 0
    rw [Nat.add_zero] at this
    rw [hco, this]; rfl
theorem elems_len (sz : Nat) : ∀ (n : Nat) (l : List V), (elems sz n l).length = n
  | 0, _ => rfl
  | n + 1, l => by simp [elems, elems_len sz n]
/-- the last open node becomes a part -/
theorem Inv.close {l : List FL} {h : Heap} {bs : List (Option (List V))} {D : Nat → Bool} {at' jo : Nat} {co : List V} {f g : Fm} {G : List Fm} (hi : Inv l h bs D at' (.msl (h.next + jo) 11 0 (G.length + 2) none) (f :: g :: G)) (hco : bget bs jo = some co) (h4 : at' ≤ 4000)
    (ht : co.take ((G.length + 2) * 11) = (f :: g :: G).reverse.flatMap (fcells l)) (hle : (G.length + 2) * 11 ≤ co.length) (qa qb : Option (List V)) :
    Inv l h (badd (clB h bs jo G.length g.ks.length g.q ++ [qa, qb]) (g.row ++ ndC (rowAt l f.a) f.v)) (fun j => D j || decide (f.q = some j)) at' (.msl (h.next + jo) 11 0 (G.length + 1) none)
      (⟨g.a, g.ks ++ [.mk (rowAt l f.a) f.ks], .msl (h.next + (bs.length + 2)) 10 0 (g.ks.length + 1) none, g.row ++ ndC (rowAt l f.a) f.v, some (bs.length + 2)⟩ :: G) := by
  have hjl := bget_lt hco
  obtain ⟨hDo, hj0, hjq⟩ := hi.oj jo _ _ _ _ rfl
  have hgF : g ∈ f :: g :: G := List.mem_cons_of_mem _ List.mem_cons_self
  have hfo := hi.ok f List.mem_cons_self
  have hgo := hi.ok g hgF
  obtain ⟨p1, p2⟩ := List.pairwise_cons.1 hi.ap
  obtain ⟨p3, p4⟩ := List.pairwise_cons.1 p2
  have hcl : (clB h bs jo G.length g.ks.length g.q).length = bs.length := by unfold clB; rw [bput_len, left0_len]
  have old : ∀ j, j < bs.length → bget (badd (clB h bs jo G.length g.ks.length g.q ++ [qa, qb]) (g.row ++ ndC (rowAt l f.a) f.v)) j = bget (clB h bs jo G.length g.ks.length g.q) j := fun j hj => by
    rw [bget_eq, bget_eq, badd_eq, List.getElem?_append_left (by simp; omega), List.getElem?_append_left (by omega)]
  have new : bget (badd (clB h bs jo G.length g.ks.length g.q ++ [qa, qb]) (g.row ++ ndC (rowAt l f.a) f.v)) (bs.length + 2) = some (g.row ++ ndC (rowAt l f.a) f.v) := by
    have := bget_badd (bs := clB h bs jo G.length g.ks.length g.q ++ [qa, qb]) (c := g.row ++ ndC (rowAt l f.a) f.v)
    rwa [show (clB h bs jo G.length g.ks.length g.q ++ [qa, qb]).length = bs.length + 2 by simp [hcl]] at this
  have left : ∀ j, g.q ≠ some j → bget (left0 bs g.q) j = bget bs j := fun j hj => by
    cases hq : g.q with
    | none => rfl
    | some k =>
      show bget (bset bs k none) j = _
      exact bget_bset_ne (fun hh => hj (by rw [hq, hh]))
  have same : ∀ j c, j ≠ jo → g.q ≠ some j → bget bs j = some c → bget (badd (clB h bs jo G.length g.ks.length g.q ++ [qa, qb]) (g.row ++ ndC (rowAt l f.a) f.v)) j = some c := fun j c h1 h2 e => by
    rw [old j (bget_lt e)]
    unfold clB
    rw [bget_bput_ne h1, left j h2]
    exact e
  have hgq := hjq g hgF
  have hopen : bget (badd (clB h bs jo G.length g.ks.length g.q ++ [qa, qb]) (g.row ++ ndC (rowAt l f.a) f.v)) jo = some (splice co ((0 + G.length) * 11 + 1 + 8) 1 [.msl (h.next + (bs.length + 2)) 10 0 (g.ks.length + 1) none]) := by
    rw [old jo hjl]
    unfold clB
    exact bget_bput ((left jo hgq).trans hco)
  have hext : ∀ j c, D j = true → bget bs j = some c → bget (badd (clB h bs jo G.length g.ks.length g.q ++ [qa, qb]) (g.row ++ ndC (rowAt l f.a) f.v)) j = some c := fun j c hj e =>
    same j c (fun hh => by rw [hh, hDo] at hj; cases hj) (fun hh => by rw [(hgo.out j hh).1] at hj; cases hj) e
  have hfq : ∀ j c, f.q = some j → bget bs j = some c → bget (badd (clB h bs jo G.length g.ks.length g.q ++ [qa, qb]) (g.row ++ ndC (rowAt l f.a) f.v)) j = some c := fun j c hj e =>
    same j c (fun hh => hjq f List.mem_cons_self (by rw [← hh]; exact hj)) ((p1 g List.mem_cons_self).2 j hj) e
  have hD' : ∀ j, D j = true → (D j || decide (f.q = some j)) = true := fun j hj => by rw [hj]; rfl
  have hdq : ∀ j, f.q ≠ some j → D j = false → (D j || decide (f.q = some j)) = false := fun j h1 h2 => by rw [h2]; simp [h1]
  refine ⟨⟨?_, .inr ⟨jo, _, rfl, hopen, ?_, ?_⟩⟩, (fun hh => by cases hh), fun e he => ?_, ?_, fun j a b d e hv => ?_, fun j hj => ?_, ?_⟩
  · rw [flat_len, List.length_reverse]
  · have hsp := splice_len (l := co) (off := (0 + G.length) * 11 + 1 + 8) (n := 1) (cs := [V.msl (h.next + (bs.length + 2)) 10 0 (g.ks.length + 1) none]) rfl (by omega)
    show (G.length + 1) * 11 ≤ (splice co ((0 + G.length) * 11 + 1 + 8) 1 [V.msl (h.next + (bs.length + 2)) 10 0 (g.ks.length + 1) none]).length
    rw [hsp]; omega
  · have hco2 : co = G.reverse.flatMap (fcells l) ++ (fcells l g ++ (fcells l f ++ co.drop ((G.length + 2) * 11))) := by
      conv => lhs; rw [← List.take_append_drop ((G.length + 2) * 11) co, ht]
      simp only [List.reverse_cons, List.flatMap_append, List.flatMap_cons, List.flatMap_nil, List.append_nil, List.append_assoc]
    have hl := flat_len l G.reverse
    rw [List.length_reverse] at hl
    simp only [List.length_cons, List.reverse_cons, List.flatMap_append, List.flatMap_cons, List.flatMap_nil, List.append_nil]
    generalize co.drop ((G.length + 2) * 11) = tl at hco2
    generalize G.reverse.flatMap (fcells l) = A at hco2 hl
    rw [hco2]
    unfold splice
    rw [show (0 + G.length) * 11 + 1 + 8 = A.length + 9 by omega, List.take_length_add_append, show A.length + 9 + 1 = A.length + 10 by omega, List.drop_length_add_append, show (G.length + 1) * 11 = A.length + 11 by omega]
    rw [List.append_assoc, List.append_assoc, List.take_length_add_append]
    rfl
  · rcases List.mem_cons.1 he with rfl | he
    · have hKd : Kd h (badd (clB h bs jo G.length g.ks.length g.q ++ [qa, qb]) (g.row ++ ndC (rowAt l f.a) f.v)) (fun j => D j || decide (f.q = some j)) f.v f.ks := by
        refine ⟨hfo.nl, f.row, ?_, 5000 * RT.deeps f.ks, (fun _ _ => trivial), Nat.le_refl _, hfo.rd.ext (only_ext hD' hext) (Nat.le_refl _)⟩
        refine ⟨hfo.kid.len, ?_⟩
        rcases hfo.kid.is with ⟨h1, h2, _, _⟩ | ⟨j, h1, h2, h3⟩
        · exact .inl ⟨h1, h2⟩
        · exact .inr ⟨j, f.row, h1, hfq j _ h3 h2, by rw [hfo.kid.len]; exact Nat.le_refl _, List.take_of_length_le (by rw [hfo.kid.len]; exact Nat.le_refl _)⟩
      have hkl := hfo.kl
      have hpk := (p1 g List.mem_cons_self).1
      have hnode := hKd.node (rowAt l f.a) (fun j a b c d hv => by
        rcases hfo.kid.is with ⟨h1, _, _, _⟩ | ⟨k, h1, _, h3⟩
        · rw [h1] at hv; cases hv
        · rw [h1] at hv
          simp only [V.msl.injEq] at hv
          have : k = j := by omega
          subst this
          simp [h3]) (by omega)
      have hdk := RT.deeps_le f.ks (at' - 1 - f.a) fun t ht => by have := hfo.dp t ht; omega
      have hmem : RT.mk (rowAt l f.a) f.ks ∈ g.ks ++ [RT.mk (rowAt l f.a) f.ks] := List.mem_append_right _ (List.mem_singleton.2 rfl)
      have hdx := RT.deeps_mem hmem
      have hdg : RT.deeps g.ks ≤ RT.deeps (g.ks ++ [RT.mk (rowAt l f.a) f.ks]) := RT.deeps_le g.ks _ fun t ht => RT.deeps_mem (List.mem_append_left _ ht)
      have hxd : (RT.mk (rowAt l f.a) f.ks).deep = RT.deeps f.ks + 1 := rfl
      refine ⟨⟨?_, .inr ⟨bs.length + 2, ?_, new, rfl⟩⟩, ?_, hgo.lt, fun t ht => ?_, ?_, fun hh => by simp at hh, fun j hj => ?_⟩
      · show (g.row ++ ndC (rowAt l f.a) f.v).length = (g.ks ++ [RT.mk (rowAt l f.a) f.ks]).length * 10
        rw [List.length_append, List.length_append, hgo.kid.len, ndC_len]
        simp only [List.length_cons, List.length_nil]; omega
      · show V.msl (h.next + (bs.length + 2)) 10 0 (g.ks.length + 1) none = V.msl (h.next + (bs.length + 2)) 10 0 (g.ks ++ [RT.mk (rowAt l f.a) f.ks]).length none
        rw [List.length_append]; rfl
      · show RdAll h _ (5000 * RT.deeps (g.ks ++ [RT.mk (rowAt l f.a) f.ks])) (elems 10 (g.ks ++ [RT.mk (rowAt l f.a) f.ks]).length (g.row ++ ndC (rowAt l f.a) f.v)) (((g.ks ++ [RT.mk (rowAt l f.a) f.ks]).map RT.pr).map ND.v)
        rw [List.length_append, List.map_append, List.map_append]
        simp only [List.length_cons, List.length_nil, Nat.zero_add, List.map_cons, List.map_nil]
        rw [elems_app (by decide) _ (ndC_len _ _) _ _ hgo.kid.len]
        exact (hgo.rd.ext (only_ext hD' hext) (by omega)).append (.cons (fun k hk => hnode k (by omega)) .nil)
      · rcases List.mem_append.1 ht with ht | ht
        · exact hgo.dp t ht
        · rw [List.mem_singleton] at ht
          subst ht
          rw [hxd]
          show g.a + _ < at'
          omega
      · show g.a + (g.ks ++ [RT.mk (rowAt l f.a) f.ks]).length < at'
        rw [List.length_append]
        simp only [List.length_cons, List.length_nil]; omega
      · simp only [Option.some.injEq] at hj
        subst hj
        refine ⟨hdq _ (fun hh => by have := hfo.kid.lt _ hh; omega) ?_, by omega⟩
        cases hD : D (bs.length + 2) with
        | false => rfl
        | true => have := (hi.dl _ hD).1; omega
    · have heF : e ∈ f :: g :: G := List.mem_cons_of_mem _ (List.mem_cons_of_mem _ he)
      exact (hi.ok e heF).keep (fun j c hj e2 => hj.elim (fun hj => hext j c hj e2) fun hj => same j c (fun hh => hjq e heF (by rw [← hh]; exact hj)) (fun hh => (p3 e he).2 j hh hj) e2) hD'
        (fun j hj => hdq j (fun hh => (p1 e (List.mem_cons_of_mem _ he)).2 j hh hj) ((hi.ok e heF).out j hj).1) (Nat.le_refl _)
  · refine List.pairwise_cons.2 ⟨fun e he => ⟨(p3 e he).1, fun j hj => ?_⟩, p4⟩
    simp only [Option.some.injEq] at hj
    subst hj
    intro hq
    have := (hi.ok e (List.mem_cons_of_mem _ (List.mem_cons_of_mem _ he))).kid.lt _ hq
    omega
  · simp only [V.msl.injEq] at hv
    have : jo = j := by omega
    subst this
    refine ⟨hdq _ (hjq f List.mem_cons_self) hDo, hj0, fun e he => ?_⟩
    rcases List.mem_cons.1 he with rfl | he
    · simp only [ne_eq, Option.some.injEq]; omega
    · exact hjq e (List.mem_cons_of_mem _ (List.mem_cons_of_mem _ he))
  · have hlen : (badd (clB h bs jo G.length g.ks.length g.q ++ [qa, qb]) (g.row ++ ndC (rowAt l f.a) f.v)).length = bs.length + 3 := by
      rw [badd_len, List.length_append, hcl]; rfl
    rw [hlen]
    rcases Bool.or_eq_true_iff.1 hj with hj | hj
    · have := hi.dl j hj; omega
    · have hj := of_decide_eq_true hj
      have := hfo.kid.lt j hj
      have := (hfo.out j hj).2
      omega
  · exact same 0 _ (fun hh => hj0 hh.symm) (fun hh => (hgo.out 0 hh).2 rfl) hi.z
end Go.Proofs.YtfbikhkmamdjmaaDoor.CodesK
