/- Trees in memory that are being made: what is done is let be. -/
import Derived.Test.YtfbikhkmamdjmaaDoorWV5
namespace Go.Proofs.YtfbikhkmamdjmaaDoor.CodesK
open Go Go.Ab
set_option maxRecDepth 100000

/-- the blocks that are done -/
def only (D : Nat → Bool) : Nat → List (Option (List V)) → List (Option (List V))
  | _, [] => []
  | i, b :: r => (bif D i then b else none) :: only D (i + 1) r
theorem only_get (D : Nat → Bool) : ∀ (bs : List (Option (List V))) (i j : Nat), bget (only D i bs) j = bif D (i + j) then bget bs j else none
  | [], i, j => by cases D (i + j) <;> rfl
  | b :: r, i, 0 => by simp only [only, bget, Nat.add_zero]
  | b :: r, i, j + 1 => by
    simp only [only, bget]
    rw [only_get D r (i + 1) j, show i + 1 + j = i + (j + 1) by omega]
/-- more blocks -/
def Ext (bs bs' : List (Option (List V))) : Prop := ∀ j c, bget bs j = some c → bget bs' j = some c
theorem only_ext {D D' : Nat → Bool} {bs bs' : List (Option (List V))} (h : ∀ j, D j = true → D' j = true) (hk : ∀ j c, D j = true → bget bs j = some c → bget bs' j = some c) : Ext (only D 0 bs) (only D' 0 bs') := fun j c e => by
  rw [only_get, Nat.zero_add] at e ⊢
  cases hd : D j with
  | false => rw [hd] at e; cases e
  | true =>
    rw [hd] at e
    rw [h j hd]
    exact hk j c hd e
theorem only_sub {D : Nat → Bool} {bs : List (Option (List V))} : Ext (only D 0 bs) bs := fun j c e => by
  rw [only_get, Nat.zero_add] at e
  cases hd : D j with
  | false => rw [hd] at e; cases e
  | true => rw [hd] at e; exact e
theorem only_has {D : Nat → Bool} {bs : List (Option (List V))} {j : Nat} {c : List V} (hd : D j = true) (e : bget bs j = some c) : bget (only D 0 bs) j = some c := by
  rw [only_get, Nat.zero_add, hd]; exact e
theorem freeze_ext {h0 : Heap} {bs bs' : List (Option (List V))} (hx : Ext bs bs') : ∀ k, (∀ v u, Go.Ab.freeze (hp h0 bs) h0.next k v = some u → Go.Ab.freeze (hp h0 bs') h0.next k v = some u) ∧ (∀ l us, freezes (hp h0 bs) h0.next k l = some us → freezes (hp h0 bs') h0.next k l = some us)
  | 0 => ⟨fun v u e => by simp [Go.Ab.freeze] at e, fun l us e => by cases l <;> simp [freezes] at e ⊢; exact e⟩
  | k + 1 => by
    obtain ⟨i1, i2⟩ := freeze_ext hx k
    refine ⟨fun v u e => ?_, fun l us e => ?_⟩
    · cases v with
      | msl id sz off len cap =>
        unfold Go.Ab.freeze at e ⊢
        simp only at e ⊢
        by_cases hid : id < h0.next
        · rw [if_pos hid] at e ⊢; exact e
        · rw [if_neg hid] at e ⊢
          obtain ⟨j, rfl⟩ : ∃ j, id = h0.next + j := ⟨id - h0.next, by omega⟩
          rw [hp_cells] at e ⊢
          cases hb : bget bs j with
          | none => rw [hb] at e; cases e
          | some c =>
            rw [hb] at e
            rw [hx j c hb]
            simp only at e ⊢
            split at e
            · rename_i h1
              rw [if_pos h1]
              obtain ⟨es, h2, h3⟩ := bind_some e
              rw [i2 _ _ h2]
              exact h3
            · cases e
      | agg cs =>
        unfold Go.Ab.freeze at e ⊢
        simp only at e ⊢
        obtain ⟨es, h2, rfl⟩ := map_some e
        rw [i2 _ _ h2]; rfl
      | tup cs =>
        unfold Go.Ab.freeze at e ⊢
        simp only at e ⊢
        obtain ⟨es, h2, rfl⟩ := map_some e
        rw [i2 _ _ h2]; rfl
      | fn f a cs =>
        unfold Go.Ab.freeze at e ⊢
        simp only at e ⊢
        obtain ⟨es, h2, h3⟩ := bind_some e
        obtain ⟨es2, h4, rfl⟩ := map_some h3
        rw [i2 _ _ h2, i2 _ _ h4]
        rfl
      | ifc t v =>
        unfold Go.Ab.freeze at e ⊢
        simp only at e ⊢
        obtain ⟨es, h2, rfl⟩ := map_some e
        rw [i1 _ _ h2]; rfl
      | _ =>
        unfold Go.Ab.freeze at e ⊢
        exact e
    · cases l with
      | nil => exact e
      | cons v r =>
        simp only [freezes] at e ⊢
        obtain ⟨v', h2, h3⟩ := bind_some e
        obtain ⟨r', h4, rfl⟩ := map_some h3
        rw [i1 _ _ h2, i2 _ _ h4]
        rfl
/-- reads so, with so much fuel -/
def RdN (h0 : Heap) (bs : List (Option (List V))) (K : Nat) (v u : V) : Prop := ∀ k, K ≤ k → Go.Ab.freeze (hp h0 bs) h0.next k v = some u
theorem RdN.ext {h0 : Heap} {bs bs' : List (Option (List V))} {K : Nat} {v u : V} (h : RdN h0 bs K v u) (hx : Ext bs bs') : RdN h0 bs' K v u := fun k hk => (freeze_ext hx k).1 _ _ (h k hk)
inductive RdAll (h0 : Heap) (bs : List (Option (List V))) (K : Nat) : List V → List V → Prop
  | nil : RdAll h0 bs K [] []
  | cons {v u : V} {l us : List V} : RdN h0 bs K v u → RdAll h0 bs K l us → RdAll h0 bs K (v :: l) (u :: us)
theorem RdAll.freezes {h0 : Heap} {bs : List (Option (List V))} {K : Nat} {l us : List V} (h : RdAll h0 bs K l us) : ∀ k, K + l.length < k → Go.Ab.freezes (hp h0 bs) h0.next k l = some us := by
  induction h with
  | nil => intro k _; cases k <;> rfl
  | cons h1 _ ih =>
    intro k hk
    simp only [List.length_cons] at hk
    obtain ⟨k, rfl⟩ : ∃ j, k = j + 1 := ⟨k - 1, by omega⟩
    simp only [Go.Ab.freezes, h1 k (by omega), ih k (by omega), Option.bind_some, Option.map_some]
theorem still_all {h0 : Heap} {bs : List (Option (List V))} : ∀ {l : List V}, (∀ v ∈ l, V.still v = true) → RdAll h0 bs 1 l l
  | [], _ => .nil
  | v :: r, h => .cons (fun k hk => by
      obtain ⟨k, rfl⟩ : ∃ j, k = j + 1 := ⟨k - 1, by omega⟩
      exact freeze_still (h v List.mem_cons_self)) (still_all fun u hu => h u (List.mem_cons_of_mem _ hu))
mutual
def RT.deep : RT → Nat
  | .mk _ l => RT.deeps l + 1
def RT.deeps : List RT → Nat
  | [] => 0
  | t :: r => max t.deep (RT.deeps r)
end
theorem RT.deeps_le : ∀ (l : List RT) (m : Nat), (∀ t ∈ l, t.deep ≤ m) → RT.deeps l ≤ m
  | [], m, _ => Nat.zero_le _
  | t :: r, m, h => by
    have := RT.deeps_le r m fun y hy => h y (List.mem_cons_of_mem _ hy)
    have := h t List.mem_cons_self
    simp only [RT.deeps]; omega
theorem RT.deeps_mem : ∀ {l : List RT} {t : RT}, t ∈ l → t.deep ≤ RT.deeps l
  | y :: r, t, h => by
    simp only [RT.deeps]
    rcases List.mem_cons.1 h with rfl | h
    · omega
    · have := RT.deeps_mem h; omega
/-- a node's cells, with its parts there -/
def ndC (r : FL) (v : V) : List V := [i64 r.k, i64 r.a, i64 r.b, .str r.s, i64 r.x.k, i64 r.x.n, .str r.x.name, slV ((r.x.kids.map EX.cp).map EX.v), v, slV ((r.ws.map EX.cp).map EX.v)]
theorem ndC_len (r : FL) (v : V) : (ndC r v).length = 10 := rfl
theorem pr_v (r : FL) (l : List RT) : (RT.mk r l).pr.v = .agg (ndC r (slV ((l.map RT.pr).map ND.v))) := by
  rw [RT.pr, prs_map]
  show V.agg [i64 r.k, i64 r.a, i64 r.b, .str r.s, i64 r.x.cp.k, i64 r.x.cp.n, .str r.x.cp.name, r.x.cp.u, _, _] = _
  rw [r.x.cp_k, r.x.cp_n, r.x.cp_name, r.x.cp_u]
  rfl
theorem slV_low (l : List V) : V.low 0 (slV l) = true := low_still (slV_still l)
theorem prv_low : ∀ l : List RT, V.lows 0 ((l.map RT.pr).map ND.v) = true
  | [] => rfl
  | .mk r k :: l => by
    simp only [List.map_cons, V.lows, prv_low l, Bool.and_true]
    rw [pr_v]
    show V.lows 0 (ndC r _) = true
    refine lows_still _ fun v hv => ?_
    simp only [ndC, List.mem_cons, List.not_mem_nil, or_false] at hv
    rcases hv with rfl | rfl | rfl | rfl | rfl | rfl | rfl | rfl | rfl | rfl <;> first | rfl | exact slV_still _
/-- the parts of an open node: how they read through what is done -/
structure Kd (h0 : Heap) (bs : List (Option (List V))) (D : Nat → Bool) (v : V) (ks : List RT) : Prop where
  nil : ks = [] → v = .nilsl
  sl : ∃ row, IsSl h0 bs 10 v ks.length row ∧ ∃ K, (∀ t ∈ ks, True) ∧ K ≤ 5000 * RT.deeps ks ∧ RdAll h0 (only D 0 bs) K (elems 10 ks.length row) ((ks.map RT.pr).map ND.v)
theorem RdAll.ext {h0 : Heap} {bs bs' : List (Option (List V))} {K K' : Nat} {l us : List V} (h : RdAll h0 bs K l us) (hx : Ext bs bs') (hk : K ≤ K') : RdAll h0 bs' K' l us := by
  induction h with
  | nil => exact .nil
  | cons h1 _ ih => exact .cons (fun k hk' => (h1.ext hx) k (by omega)) ih
theorem RdAll.append {h0 : Heap} {bs : List (Option (List V))} {K : Nat} {l us l2 us2 : List V} (h : RdAll h0 bs K l us) (h2 : RdAll h0 bs K l2 us2) : RdAll h0 bs K (l ++ l2) (us ++ us2) := by
  induction h with
  | nil => exact h2
  | cons h1 _ ih => exact .cons h1 ih
theorem elems_app {sz : Nat} (hz : sz ≠ 1) (c : List V) (hc : c.length = sz) : ∀ (n : Nat) (row : List V), row.length = n * sz → elems sz (n + 1) (row ++ c) = elems sz n row ++ [.agg c]
  | 0, row, h => by
    have h1 : row = [] := List.length_eq_zero_iff.1 (by simpa using h)
    subst h1
    simp [elems, hz, List.take_of_length_le (Nat.le_of_eq hc)]
  | n + 1, row, h => by
    have h1 : sz ≤ row.length := by rw [h, Nat.add_mul, Nat.one_mul]; omega
    have ih := elems_app hz c hc n (row.drop sz) (by rw [List.length_drop, h, Nat.add_mul, Nat.one_mul]; omega)
    rw [elems, if_neg hz]
    conv => rhs; rw [elems, if_neg hz]
    rw [List.take_append_of_le_length h1, List.drop_append_of_le_length h1, ih]
    rfl
/-- a node whose parts are done, as it reads -/
theorem Kd.node {h0 : Heap} {bs : List (Option (List V))} {D : Nat → Bool} {v : V} {ks : List RT} (hk : Kd h0 bs D v ks) (r : FL) (hD : ∀ j a b c d, v = .msl (h0.next + j) a b c d → D j = true) (hl : ks.length ≤ 4000) :
    RdN h0 (only D 0 bs) (5000 * (RT.mk r ks).deep) (.agg (ndC r v)) (RT.mk r ks).pr.v := by
  have hdeep : (RT.mk r ks).deep = RT.deeps ks + 1 := rfl
  obtain ⟨row, hsl, K, _, hK, hrd⟩ := hk.sl
  have hkv : RdN h0 (only D 0 bs) (5000 * RT.deeps ks + 4500) v (slV ((ks.map RT.pr).map ND.v)) := by
    intro k hkk
    obtain ⟨k, rfl⟩ : ∃ j, k = j + 1 := ⟨k - 1, by omega⟩
    by_cases h0k : ks = []
    · subst h0k
      rw [hk.nil rfl]
      rfl
    · obtain ⟨h1, ⟨_, h2⟩ | ⟨j, c, rfl, e2, e3, e4⟩⟩ := hsl
      · exact absurd (List.length_eq_zero_iff.1 h2) h0k
      · have hj := only_has (hD j _ _ _ _ rfl) e2
        have h2 : ¬ h0.next + j < h0.next := by omega
        have h3 : (0 + ks.length) * 10 ≤ c.length := by simpa using e3
        have h6 : (c.drop (0 * 10)) = c := by simp
        have h5 : elems 10 ks.length c = elems 10 ks.length row := by rw [← e4, elems_take 10 ks.length c e3]
        have hel : (elems 10 ks.length row).length = ks.length := by
          have : ∀ (n : Nat) (l : List V), (elems 10 n l).length = n := fun n => by
            induction n with
            | zero => intro l; rfl
            | succ n ih => intro l; simp [elems, ih]
          exact this _ _
        simp only [Go.Ab.freeze, h2, if_false, hp_cells, hj, h3, decide_true, Bool.and_self, if_true, h6, h5, Nat.zero_lt_succ]
        rw [hrd.freezes k (by rw [hel]; omega)]
        simp only [Option.bind_some, prv_low, if_true]
        cases ks with
        | nil => exact absurd rfl h0k
        | cons a b => rfl
  intro k hkk
  rw [hdeep] at hkk
  rw [pr_v]
  obtain ⟨k, rfl⟩ : ∃ j, k = j + 20 := ⟨k - 20, by omega⟩
  have hs := slV_still ((r.x.kids.map EX.cp).map EX.v)
  have hs2 := slV_still ((r.ws.map EX.cp).map EX.v)
  have hv := hkv (k + 10) (by omega)
  simp only [ndC, frz_agg, frzs_cons, frzs_nil, i64, frz_int, frz_str, freeze_still hs, freeze_still hs2, hv, Option.bind_some, Option.map_some]
end Go.Proofs.YtfbikhkmamdjmaaDoor.CodesK
