/- BigGoesOn: a row that goes on where it was. -/
import Derived.Test.YtpaadclighadaaaGreatDoorWGA
import Derived.Test.YtpaadclighadaaaGreatDoorWGB
import Derived.Test.YtpaadclighadaaaGreatDoorWGC
import Derived.Test.YtpaadclighadaaaGreatDoorWGD
namespace Go.Proofs.YtpaadclighadaaaGreatDoor.CodesR
open Go Go.Ab
set_option maxHeartbeats 800000
set_option maxRecDepth 100000

theorem go_at (n at0 : Nat) (h2 : n ≤ 12) (ha : at0 < n) : goAt n at0 = true := by
  rcases (by omega : n = 1 ∨ n = 2 ∨ n = 3 ∨ n = 4 ∨ n = 5 ∨ n = 6 ∨ n = 7 ∨ n = 8 ∨ n = 9 ∨ n = 10 ∨ n = 11 ∨ n = 12) with rfl | rfl | rfl | rfl | rfl | rfl | rfl | rfl | rfl | rfl | rfl | rfl
  · obtain rfl : at0 = 0 := by omega
    exact go1x0
  · rcases (by omega : at0 = 0 ∨ at0 = 1) with rfl | rfl
    · exact go2x0
    · exact go2x1
  · rcases (by omega : at0 = 0 ∨ at0 = 1 ∨ at0 = 2) with rfl | rfl | rfl
    · exact go3x0
    · exact go3x1
    · exact go3x2
  · rcases (by omega : at0 = 0 ∨ at0 = 1 ∨ at0 = 2 ∨ at0 = 3) with rfl | rfl | rfl | rfl
    · exact go4x0
    · exact go4x1
    · exact go4x2
    · exact go4x3
  · rcases (by omega : at0 = 0 ∨ at0 = 1 ∨ at0 = 2 ∨ at0 = 3 ∨ at0 = 4) with rfl | rfl | rfl | rfl | rfl
    · exact go5x0
    · exact go5x1
    · exact go5x2
    · exact go5x3
    · exact go5x4
  · rcases (by omega : at0 = 0 ∨ at0 = 1 ∨ at0 = 2 ∨ at0 = 3 ∨ at0 = 4 ∨ at0 = 5) with rfl | rfl | rfl | rfl | rfl | rfl
    · exact go6x0
    · exact go6x1
    · exact go6x2
    · exact go6x3
    · exact go6x4
    · exact go6x5
  · rcases (by omega : at0 = 0 ∨ at0 = 1 ∨ at0 = 2 ∨ at0 = 3 ∨ at0 = 4 ∨ at0 = 5 ∨ at0 = 6) with rfl | rfl | rfl | rfl | rfl | rfl | rfl
    · exact go7x0
    · exact go7x1
    · exact go7x2
    · exact go7x3
    · exact go7x4
    · exact go7x5
    · exact go7x6
  · rcases (by omega : at0 = 0 ∨ at0 = 1 ∨ at0 = 2 ∨ at0 = 3 ∨ at0 = 4 ∨ at0 = 5 ∨ at0 = 6 ∨ at0 = 7) with rfl | rfl | rfl | rfl | rfl | rfl | rfl | rfl
    · exact go8x0
    · exact go8x1
    · exact go8x2
    · exact go8x3
    · exact go8x4
    · exact go8x5
    · exact go8x6
    · exact go8x7
  · rcases (by omega : at0 = 0 ∨ at0 = 1 ∨ at0 = 2 ∨ at0 = 3 ∨ at0 = 4 ∨ at0 = 5 ∨ at0 = 6 ∨ at0 = 7 ∨ at0 = 8) with rfl | rfl | rfl | rfl | rfl | rfl | rfl | rfl | rfl
    · exact go9x0
    · exact go9x1
    · exact go9x2
    · exact go9x3
    · exact go9x4
    · exact go9x5
    · exact go9x6
    · exact go9x7
    · exact go9x8
  · rcases (by omega : at0 = 0 ∨ at0 = 1 ∨ at0 = 2 ∨ at0 = 3 ∨ at0 = 4 ∨ at0 = 5 ∨ at0 = 6 ∨ at0 = 7 ∨ at0 = 8 ∨ at0 = 9) with rfl | rfl | rfl | rfl | rfl | rfl | rfl | rfl | rfl | rfl
    · exact go10x0
    · exact go10x1
    · exact go10x2
    · exact go10x3
    · exact go10x4
    · exact go10x5
    · exact go10x6
    · exact go10x7
    · exact go10x8
    · exact go10x9
  · rcases (by omega : at0 = 0 ∨ at0 = 1 ∨ at0 = 2 ∨ at0 = 3 ∨ at0 = 4 ∨ at0 = 5 ∨ at0 = 6 ∨ at0 = 7 ∨ at0 = 8 ∨ at0 = 9 ∨ at0 = 10) with rfl | rfl | rfl | rfl | rfl | rfl | rfl | rfl | rfl | rfl | rfl
    · exact go11x0
    · exact go11x1
    · exact go11x2
    · exact go11x3
    · exact go11x4
    · exact go11x5
    · exact go11x6
    · exact go11x7
    · exact go11x8
    · exact go11x9
    · exact go11x10
  · rcases (by omega : at0 = 0 ∨ at0 = 1 ∨ at0 = 2 ∨ at0 = 3 ∨ at0 = 4 ∨ at0 = 5 ∨ at0 = 6 ∨ at0 = 7 ∨ at0 = 8 ∨ at0 = 9 ∨ at0 = 10 ∨ at0 = 11) with rfl | rfl | rfl | rfl | rfl | rfl | rfl | rfl | rfl | rfl | rfl | rfl
    · exact go12x0
    · exact go12x1
    · exact go12x2
    · exact go12x3
    · exact go12x4
    · exact go12x5
    · exact go12x6
    · exact go12x7
    · exact go12x8
    · exact go12x9
    · exact go12x10
    · exact go12x11

theorem go_tick {n at0 t o : Nat} (h2 : n ≤ 12) (hc : at0 ≤ t) (ht : t < n) (ho1 : 1 ≤ o) (ho : o ≤ 3) {s : V} (hs : s = runV n at0 ∨ (at0 = 0 ∧ (s = zerosV n ∨ s = .nilsl))) :
    CallW D3 15 [rowV n, s, envV (nameOf t) (o : Nat)] Heap.empty fun v h1 => V.own v = true ∧ Go.Ab.freeze h1.clean 0 fuelF v = some (goA n at0 t o) := by
  obtain ⟨p, rfl⟩ : ∃ p, o = p + 1 := ⟨o - 1, by omega⟩
  obtain ⟨j, rfl⟩ : ∃ j, t = at0 + j := ⟨t - at0, by omega⟩
  have h := upto_spec (upto_spec (go_at n at0 h2 (by omega)) j (by omega)) p (by omega)
  unfold goTs at h
  split at h
  · rename_i ha
    rcases hs with rfl | ⟨rfl, hs⟩
    · exact evalF (n := 100000) (isV_spec ha)
    · simp only at h
      split at h
      · rename_i hb
        rcases hs with rfl | rfl
        · exact evalF (n := 100000) (isV_spec hb)
        · exact evalF (n := 100000) (isV_spec h)
      · cases h
  · cases h
noncomputable def D4 : OCtx := layer D3 (fun _ => false) (fun f => Nat.beq f 15)
theorem alive_pu : PuF D4 14 [] (.bool true) := PuF.orc (D := D4) (g := fun a h => match rows l1 14 a with
  | some u => some (.ret u, h)
  | none => none) rfl fun _ => rfl

/-- one element more: the blocks that are not the slice's are as they were -/
theorem app_keep {h0 : Heap} (hf : h0.Fine) {bs : List (Option (List V))} {sz n bytes j : Nat} {v : V} {row c : List V} (hs : IsSl h0 bs sz v n row) (hj : bget bs j = some c) (hc : c.length = sz) (_ : 0 < sz) (hb : (n + 1) * bytes ≤ maxRow) (hq : ∀ k a b d e, v = .msl (h0.next + k) a b d e → k ≠ 0) (hbs : 0 < bs.length) :
    ∃ v' bs', Does (.app sz bytes (.v v) (.v (.msl (h0.next + j) sz 0 1 none))) (hp h0 bs) v' (hp h0 bs') ∧ IsSl h0 bs' sz v' (n + 1) (row ++ c) ∧ bget bs' 0 = bget bs 0 ∧ (∀ k a b d e, v' = .msl (h0.next + k) a b d e → k ≠ 0) ∧ 0 < bs'.length := by
  have hrow : (hp h0 bs).row sz (.msl (h0.next + j) sz 0 1 none) = some c := by
    rw [row_msl (n := 1) hj (by omega)]
    simp [← hc]
  have hmay : ∀ k vs, (hp h0 bs).mayPut (h0.next + k) vs = true := fun k vs => hp_may hf k vs
  have hmine : ∀ k, (hp h0 bs).mine (h0.next + k) = true := fun k => by
    simp only [Heap.mine, List.all_eq_true, decide_eq_true_eq]
    exact fun f m => Nat.le_trans (hf.fl f m) (Nat.le_add_right _ _)
  have hnew : ∀ (bs1 : List (Option (List V))) (l : List V), 0 < bs1.length → bget (badd bs1 l) 0 = bget bs1 0 := fun bs1 l h => by
    rw [bget_eq, bget_eq, badd_eq, List.getElem?_append_left h]
  obtain ⟨h1, ⟨rfl, rfl⟩ | ⟨k, l, rfl, e2, e3, e4⟩⟩ := hs
  · refine ⟨.msl (h0.next + bs.length) sz 0 1 none, badd bs c, ⟨?_⟩, ⟨?_, .inr ⟨bs.length, c, rfl, bget_badd, by omega, by simp [List.length_eq_zero_iff.1 (by simpa using h1), ← hc]⟩⟩, hnew _ _ hbs, fun k a b d e h => by simp only [V.msl.injEq] at h; omega, by rw [badd_len]; omega⟩
    · rw [op1v]
      have hb' : 1 * bytes ≤ maxRow := by simpa using hb
      simp only [op1, ev, append, hrow, lenOf, hb', if_true]
      rw [← hp_new]
      rfl
    · simp only [List.length_append, h1, hc]; omega
  · have hk := bget_lt e2
    have hk0 : k ≠ 0 := hq k _ _ _ _ rfl
    by_cases hroom : (n + 1) * sz ≤ l.length
    · refine ⟨.msl (h0.next + k) sz 0 (n + 1) none, bset bs k (some (l.take (n * sz) ++ c ++ l.drop ((n + 1) * sz))), ⟨?_⟩, ⟨?_, .inr ⟨k, _, rfl, bget_bset hk, ?_, ?_⟩⟩, bget_bset_ne (Ne.symm hk0), fun q a b d e h => by simp only [V.msl.injEq] at h; omega, by rw [bset_len]; omega⟩
      · rw [op1v]
        simp only [op1, ev, append, hrow, lenOf, ne_eq, not_true_eq_false, if_false, hp_cells, e2, hroom, if_true, hmay]
        rw [← hp_set h0 hk]
        rfl
      · simp only [List.length_append, h1, hc]; rw [Nat.add_mul, Nat.one_mul]
      · simp only [List.length_append, List.length_take, List.length_drop, hc]
        have : (n + 1) * sz = n * sz + sz := by rw [Nat.add_mul, Nat.one_mul]
        omega
      · have h5 : (l.take (n * sz) ++ c).length = (n + 1) * sz := by
          simp only [List.length_append, List.length_take, hc]
          have : (n + 1) * sz = n * sz + sz := by rw [Nat.add_mul, Nat.one_mul]
          omega
        rw [List.take_append_of_le_length (by omega), List.take_of_length_le (by omega), e4]
    · refine ⟨.msl (h0.next + bs.length) sz 0 (n + 1) none, badd (bset bs k none) (l.take (n * sz) ++ c), ⟨?_⟩, ⟨?_, .inr ⟨bs.length, l.take (n * sz) ++ c, rfl, ?_, ?_, ?_⟩⟩, by rw [hnew _ _ (by rw [bset_len]; exact hbs), bget_bset_ne (Ne.symm hk0)], fun q a b d e h => by simp only [V.msl.injEq] at h; omega, by rw [badd_len, bset_len]; omega⟩
      · rw [op1v]
        have h6 : ¬ l.length < n * sz := by omega
        simp only [op1, ev, append, hrow, lenOf, ne_eq, not_true_eq_false, if_false, hp_cells, e2, hroom, h6, hmine, hb, Bool.true_and, decide_true, if_true]
        rw [← hp_new, ← hp_set h0 hk]
        rfl
      · simp only [List.length_append, h1, hc]; rw [Nat.add_mul, Nat.one_mul]
      · have := bget_badd (bs := bset bs k none) (c := l.take (n * sz) ++ c)
        rw [bset_len] at this
        exact this
      · simp only [List.length_append, List.length_take, hc]
        have : (n + 1) * sz = n * sz + sz := by rw [Nat.add_mul, Nat.one_mul]
        omega
      · have h5 : (l.take (n * sz) ++ c).length = (n + 1) * sz := by
          simp only [List.length_append, List.length_take, hc]
          have : (n + 1) * sz = n * sz + sz := by rw [Nat.add_mul, Nat.one_mul]
          omega
        rw [List.take_of_length_le (by omega), e4]

def leafB (s : List Nat) : List V := [i64 9, i64 0, i64 0, .str s, i64 0, i64 0, .str [], .nilsl, .nilsl, .nilsl]
def topG (v : V) : List V := [i64 2, i64 0, i64 0, .str [], i64 0, i64 0, .str [], .nilsl, v, .nilsl]
def rowB : Nat → List V
  | 0 => []
  | j + 1 => rowB j ++ leafB (nameOf j)
theorem rowB_len : ∀ j, (rowB j).length = j * 10
  | 0 => rfl
  | j + 1 => by simp only [rowB, List.length_append, rowB_len j, leafB, List.length_cons, List.length_nil]; omega
theorem name_all : upto (fun j => match ((([97, 98, 99, 101, 102, 103, 104, 105, 106, 107, 108, 109] : List Nat).take (j + 1)).drop j) with
  | [b] => Nat.beq b ([97, 98, 99, 101, 102, 103, 104, 105, 106, 107, 108, 109].getD j 0)
  | _ => false) 12 = true := by kernel_rfl
theorem name_at {j : Nat} (h : j < 12) : ((([97, 98, 99, 101, 102, 103, 104, 105, 106, 107, 108, 109] : List Nat).take (j + 1)).drop j) = nameOf j := by
  have := upto_spec name_all j h
  split at this
  · rename_i b hb
    rw [hb]
    have := Nat.eq_of_beq_eq_true this
    rw [this]
    rfl
  · cases this
theorem row_all : upto (fun k => upto (fun t => match ((rowB k).drop (t * 10 + 3)).head? with
  | some v => V.beq v (.str (nameOf t))
  | none => false) k) 13 = true := by kernel_rfl
theorem row_name {k t : Nat} (hk : k ≤ 12) (ht : t < k) : ((rowB k).drop (t * 10 + 3)).head? = some (.str (nameOf t)) := by
  have := upto_spec (upto_spec row_all k (by omega)) t ht
  split at this
  · rename_i v hv
    rw [hv, beq_sound _ _ this]
  · cases this
theorem elems_all : upto (fun k => V.beqs (elems 10 k (rowB k)) (up (fun i => leafV (nameOf i)) k 0)) 13 = true := by kernel_rfl
theorem elems_row {k : Nat} (hk : k ≤ 12) : elems 10 k (rowB k) = up (fun i => leafV (nameOf i)) k 0 := beqs_sound _ _ (upto_spec elems_all k (by omega))
theorem up_len (f : Nat → V) : ∀ n i, (up f n i).length = n
  | 0, _ => rfl
  | n + 1, i => by simp only [up, List.length_cons, up_len f n]
theorem frzs_up {H : Heap} {g : Nat → V} (hg : ∀ i f, Go.Ab.freeze H 0 (f + 20) (g i) = some (g i)) : ∀ n i f, freezes H 0 (f + 20 + n) (up g n i) = some (up g n i)
  | 0, _, _ => frzs_nil
  | n + 1, i, f => by
    have e : f + 20 + (n + 1) = f + 20 + n + 1 := rfl
    have e2 : f + 20 + n = f + n + 20 := by omega
    rw [e]
    show (Go.Ab.freeze H 0 (f + 20 + n) (g i)).bind (fun v' => (freezes H 0 (f + 20 + n) (up g n (i + 1))).map (v' :: ·)) = _
    rw [frzs_up hg n (i + 1) f, e2, hg]
    rfl
theorem lows_up {g : Nat → V} (hg : ∀ i, V.low 0 (g i) = true) : ∀ n i, V.lows 0 (up g n i) = true
  | 0, _ => rfl
  | n + 1, i => by simp only [up, V.lows, hg, lows_up hg n, Bool.and_self]
theorem leaf_frz {H : Heap} (s : List Nat) (f : Nat) : Go.Ab.freeze H 0 (f + 20) (leafV s) = some (leafV s) := rfl

theorem go_ans (n a t o : Nat) (ho1 : 1 ≤ o) (ho : o ≤ 3) : ∃ (z st hd : Nat) (dl tl : List V), goA n a t o = .agg [i64 (z : Nat), i64 (st : Nat), .fsl dl none, .fsl (i64 (hd : Nat) :: tl) none] ∧ tl.length = n ∧
    (o = 3 → z = 3 ∧ st = 2 + (t - a) ∧ hd = t ∧ dl.length = 1 + (t - a) ∧ V.fsl (i64 (hd : Nat) :: tl) none = runV n t) ∧ (o = 2 → z = 2 ∧ st = 2 + (t - a) ∧ hd = 0 ∧ V.fsl (i64 (hd : Nat) :: tl) none = zerosV n) ∧ (o = 1 → z = 1 ∧ st = 1 + (n - a) ∧ hd = 0 ∧ dl.length = n - a ∧ V.fsl (i64 (hd : Nat) :: tl) none = zerosV n) := by
  rcases (by omega : o = 1 ∨ o = 2 ∨ o = 3) with rfl | rfl | rfl
  · exact ⟨1, _, 0, _, _, rfl, up_len _ _ _, by omega, by omega, fun _ => ⟨rfl, rfl, rfl, up_len _ _ _, rfl⟩⟩
  · exact ⟨2, _, 0, _, _, rfl, up_len _ _ _, by omega, fun _ => ⟨rfl, rfl, rfl, rfl⟩, by omega⟩
  · exact ⟨3, _, t, _, _, rfl, up_len _ _ _, fun _ => ⟨rfl, rfl, rfl, up_len _ _ _, rfl⟩, by omega, by omega⟩

theorem isl_tail {h0 : Heap} {b b' : Option (List V)} {rest : List (Option (List V))} {sz n : Nat} {v : V} {row : List V} (hs : IsSl h0 (b :: rest) sz v n row) (hq : ∀ k x y d e, v = .msl (h0.next + k) x y d e → k ≠ 0) : IsSl h0 (b' :: rest) sz v n row := by
  obtain ⟨h1, h2 | ⟨k, l, e1, e2, e3, e4⟩⟩ := hs
  · exact ⟨h1, .inl h2⟩
  · have hk := hq k _ _ _ _ e1
    obtain ⟨p, rfl⟩ : ∃ p, k = p + 1 := ⟨k - 1, by omega⟩
    exact ⟨h1, .inr ⟨p + 1, l, e1, e2, e3, e4⟩⟩
structure GS1 where
  j : Nat
  v : V
  rest : List (Option (List V))
structure GS where
  i : Nat
  a : Nat
  s : V
  bs : List (Option (List V))
theorem law_g (n : Int) (u : V) (l : List Int) (hu : IsInts u l) : PuF D4 5 [.int .i64 n, u] (.bool true) := by
  refine PuF.tidy rfl rfl rfl rfl rfl fun h hf => ?_
  repeat' (first
      | refine W.seq ?_ | refine W.region ?_ | refine WS.nil ?_ | refine W.skip ?_ | refine W.block ?_ | refine W.ret ?_ | refine W.exit ?_ | refine W.yes rfl rfl ?_ | refine W.fork rfl (fun _ => ?_) (fun _ => ?_) | refine WS.guardT rfl ?_ | refine WS.guardF rfl rfl rfl ?_ | refine WS.guardK rfl (fun _ => ?_) (fun _ => ?_) | refine WS.near rfl o_mov rfl ?_ | refine WS.near rfl o_pickT rfl ?_ | refine WS.near rfl o_pickF rfl ?_ | refine WS.near rfl o_notT rfl ?_ | refine WS.near rfl o_lss rfl ?_ | refine WS.near rfl o_gtr rfl ?_ | refine WS.near rfl o_eql rfl ?_ | refine WS.near rfl o_neq rfl ?_ | refine WS.near rfl o_lenF rfl ?_ | refine WS.near rfl o_faddr rfl ?_ | refine WS.near rfl o_loadF rfl ?_ | refine WS.near rfl (o_build rfl) rfl ?_ | refine WS.near rfl (o_loadH rfl) rfl ?_ | refine WS.near rfl (o_storeH (by assumption) rfl rfl) rfl ?_ | refine WS.near rfl (o_allocH 0 rfl) rfl ?_
      | refine WS.near rfl (o_add (by omega) (by omega)) rfl ?_ | refine WS.near rfl (o_sub (by omega) (by omega)) rfl ?_ | refine WS.near rfl (o_iaddrF (n := 0) rfl rfl rfl) rfl ?_)
  refine WS.puF hf rfl rfl alive_pu ?_
  repeat' (first
      | refine WS.near rfl (o_lenI hu) rfl ?_ | refine W.seq ?_ | refine W.region ?_ | refine WS.nil ?_ | refine W.skip ?_ | refine W.block ?_ | refine W.ret ?_ | refine W.exit ?_ | refine W.yes rfl rfl ?_ | refine W.fork rfl (fun _ => ?_) (fun _ => ?_) | refine WS.guardT rfl ?_ | refine WS.guardF rfl rfl rfl ?_ | refine WS.guardK rfl (fun _ => ?_) (fun _ => ?_) | refine WS.near rfl o_mov rfl ?_ | refine WS.near rfl o_pickT rfl ?_ | refine WS.near rfl o_pickF rfl ?_ | refine WS.near rfl o_notT rfl ?_ | refine WS.near rfl o_lss rfl ?_ | refine WS.near rfl o_gtr rfl ?_ | refine WS.near rfl o_eql rfl ?_ | refine WS.near rfl o_neq rfl ?_ | refine WS.near rfl o_lenF rfl ?_ | refine WS.near rfl o_faddr rfl ?_ | refine WS.near rfl o_loadF rfl ?_ | refine WS.near rfl (o_build rfl) rfl ?_ | refine WS.near rfl (o_loadH rfl) rfl ?_ | refine WS.near rfl (o_storeH (by assumption) rfl rfl) rfl ?_
      | refine WS.near rfl (o_allocH 0 rfl) rfl ?_ | refine WS.near rfl (o_add (by omega) (by omega)) rfl ?_ | refine WS.near rfl (o_sub (by omega) (by omega)) rfl ?_ | refine WS.near rfl (o_iaddrF (n := 0) rfl rfl rfl) rfl ?_)
  · exact ⟨_, rfl, fin_bool rfl⟩
  · exact ⟨_, rfl, fin_bool rfl⟩
  · exact ⟨_, rfl, fin_bool rfl⟩
  rename_i g1 g2 g3
  obtain ⟨k, rfl⟩ : ∃ k : Nat, n = (k : Nat) := ⟨n.toNat, by omega⟩
  repeat' (first
      | refine W.seq ?_ | refine W.region ?_ | refine WS.nil ?_ | refine W.skip ?_ | refine W.block ?_ | refine W.ret ?_ | refine W.exit ?_ | refine W.yes rfl rfl ?_ | refine W.fork rfl (fun _ => ?_) (fun _ => ?_) | refine WS.guardT rfl ?_ | refine WS.guardF rfl rfl rfl ?_ | refine WS.guardK rfl (fun _ => ?_) (fun _ => ?_) | refine WS.near rfl o_mov rfl ?_ | refine WS.near rfl o_pickT rfl ?_ | refine WS.near rfl o_pickF rfl ?_ | refine WS.near rfl o_notT rfl ?_ | refine WS.near rfl o_lss rfl ?_ | refine WS.near rfl o_gtr rfl ?_ | refine WS.near rfl o_eql rfl ?_ | refine WS.near rfl o_neq rfl ?_ | refine WS.near rfl o_lenF rfl ?_ | refine WS.near rfl o_faddr rfl ?_ | refine WS.near rfl o_loadF rfl ?_ | refine WS.near rfl (o_build rfl) rfl ?_ | refine WS.near rfl (o_loadH rfl) rfl ?_ | refine WS.near rfl (o_storeH (by assumption) rfl rfl) rfl ?_ | refine WS.near rfl (o_allocH 0 rfl) rfl ?_
      | refine WS.near rfl (o_add (by omega) (by omega)) rfl ?_ | refine WS.near rfl (o_sub (by omega) (by omega)) rfl ?_ | refine WS.near rfl (o_iaddrF (n := 0) rfl rfl rfl) rfl ?_)
  refine W.loop (fun a : GS1 => [(0, .int .i64 (k : Nat)), (1, u), (4, .mptr (h.next + 0) 0), (5, .int .i64 (a.j : Nat))]) (fun a => hp h (some (topG a.v) :: a.rest))
    (fun a => a.j ≤ k ∧ IsSl h (some (topG a.v) :: a.rest) 10 a.v a.j (rowB a.j) ∧ (∀ q b c d e, a.v = .msl (h.next + q) b c d e → q ≠ 0)) (fun a => k - a.j)
    ⟨0, .nilsl, []⟩ ⟨Nat.zero_le _, IsSl.nil, (fun q b c d e h => by cases h)⟩ ⟨rfl, rfl, rfl, rfl, trivial⟩ rfl ?_
  · rintro ⟨j, v, rest⟩ ⟨hj, hsl, hq⟩
    simp only at hj hsl hq ⊢
    repeat' (first
        | refine W.seq ?_ | refine W.region ?_ | refine WS.nil ?_ | refine W.skip ?_ | refine W.block ?_ | refine W.ret ?_ | refine W.exit ?_ | refine W.yes rfl rfl ?_ | refine W.fork rfl (fun _ => ?_) (fun _ => ?_) | refine WS.guardT rfl ?_ | refine WS.guardF rfl rfl rfl ?_ | refine WS.guardK rfl (fun _ => ?_) (fun _ => ?_) | refine WS.near rfl o_mov rfl ?_ | refine WS.near rfl o_pickT rfl ?_ | refine WS.near rfl o_pickF rfl ?_ | refine WS.near rfl o_notT rfl ?_ | refine WS.near rfl o_lss rfl ?_ | refine WS.near rfl o_gtr rfl ?_ | refine WS.near rfl o_eql rfl ?_ | refine WS.near rfl o_neq rfl ?_ | refine WS.near rfl o_lenF rfl ?_ | refine WS.near rfl o_faddr rfl ?_ | refine WS.near rfl o_loadF rfl ?_ | refine WS.near rfl (o_build rfl) rfl ?_ | refine WS.near rfl (o_loadH rfl) rfl ?_ | refine WS.near rfl (o_storeH (by assumption) rfl rfl) rfl ?_ | refine WS.near rfl (o_allocH 0 rfl) rfl ?_
        | refine WS.near rfl (o_add (by omega) (by omega)) rfl ?_ | refine WS.near rfl (o_sub (by omega) (by omega)) rfl ?_ | refine WS.near rfl (o_iaddrF (n := 0) rfl rfl rfl) rfl ?_)
    · refine WS.near' (u := .str (nameOf j)) rfl (o_sliceS j (j + 1) rfl (by omega) (by omega) (by show j + 1 ≤ 12; omega)) rfl (by rw [name_at (by omega)]) ?_
      repeat' (first
          | refine W.seq ?_ | refine W.region ?_ | refine WS.nil ?_ | refine W.skip ?_ | refine W.block ?_ | refine W.ret ?_ | refine W.exit ?_ | refine W.yes rfl rfl ?_ | refine W.fork rfl (fun _ => ?_) (fun _ => ?_) | refine WS.guardT rfl ?_ | refine WS.guardF rfl rfl rfl ?_ | refine WS.guardK rfl (fun _ => ?_) (fun _ => ?_) | refine WS.near rfl o_mov rfl ?_ | refine WS.near rfl o_pickT rfl ?_ | refine WS.near rfl o_pickF rfl ?_ | refine WS.near rfl o_notT rfl ?_ | refine WS.near rfl o_lss rfl ?_ | refine WS.near rfl o_gtr rfl ?_ | refine WS.near rfl o_eql rfl ?_ | refine WS.near rfl o_neq rfl ?_ | refine WS.near rfl o_lenF rfl ?_ | refine WS.near rfl o_faddr rfl ?_ | refine WS.near rfl o_loadF rfl ?_ | refine WS.near rfl (o_build rfl) rfl ?_ | refine WS.near rfl (o_loadH rfl) rfl ?_ | refine WS.near rfl (o_storeH (by assumption) rfl rfl) rfl ?_ | refine WS.near rfl (o_allocH 0 rfl) rfl ?_
          | refine WS.near rfl (o_add (by omega) (by omega)) rfl ?_ | refine WS.near rfl (o_sub (by omega) (by omega)) rfl ?_ | refine WS.near rfl (o_iaddrF (n := 0) rfl rfl rfl) rfl ?_)
      refine WS.near rfl (o_litS (cs := leafB (nameOf j)) rfl) rfl ?_
      obtain ⟨v', bs', hd, hsl', hb0, hq', hlen⟩ := app_keep (c := leafB (nameOf j)) (j := (some (topG v) :: rest).length) (bytes := 144) hf hsl.badd bget_badd rfl (by decide) (by show (j + 1) * 144 ≤ 140737488355328; omega) hq (by rw [badd_len]; omega)
      refine WS.near rfl hd rfl ?_
      cases bs' with
      | nil => simp at hlen
      | cons b0 rest' =>
        have hb0' : b0 = some (topG v) := hb0
        subst hb0'
        have hsl2 := hsl'
        obtain ⟨_, ⟨_, h0⟩ | ⟨m', l', rfl, _⟩⟩ := hsl2
        · omega
        repeat' (first
            | refine W.seq ?_ | refine W.region ?_ | refine WS.nil ?_ | refine W.skip ?_ | refine W.block ?_ | refine W.ret ?_ | refine W.exit ?_ | refine W.yes rfl rfl ?_ | refine W.fork rfl (fun _ => ?_) (fun _ => ?_) | refine WS.guardT rfl ?_ | refine WS.guardF rfl rfl rfl ?_ | refine WS.guardK rfl (fun _ => ?_) (fun _ => ?_) | refine WS.near rfl o_mov rfl ?_ | refine WS.near rfl o_pickT rfl ?_ | refine WS.near rfl o_pickF rfl ?_ | refine WS.near rfl o_notT rfl ?_ | refine WS.near rfl o_lss rfl ?_ | refine WS.near rfl o_gtr rfl ?_ | refine WS.near rfl o_eql rfl ?_ | refine WS.near rfl o_neq rfl ?_ | refine WS.near rfl o_lenF rfl ?_ | refine WS.near rfl o_faddr rfl ?_ | refine WS.near rfl o_loadF rfl ?_ | refine WS.near rfl (o_build rfl) rfl ?_ | refine WS.near rfl (o_loadH rfl) rfl ?_ | refine WS.near rfl (o_storeH (by assumption) rfl rfl) rfl ?_ | refine WS.near rfl (o_allocH 0 rfl) rfl ?_
            | refine WS.near rfl (o_add (by omega) (by omega)) rfl ?_ | refine WS.near rfl (o_sub (by omega) (by omega)) rfl ?_ | refine WS.near rfl (o_iaddrF (n := 0) rfl rfl rfl) rfl ?_)
        have e5 : (j : Int) + 1 = ((j + 1 : Nat) : Int) := by omega
        exact ⟨⟨j + 1, _, rest'⟩, ⟨by show j + 1 ≤ k; omega, isl_tail hsl' hq', hq'⟩, by show k - (j + 1) < k - j; omega, ⟨rfl, rfl, rfl, congrArg (fun z => some (V.int .i64 z)) e5, trivial⟩, rfl⟩
    · obtain rfl : j = k := by omega
      obtain ⟨hl1, ⟨_, h0⟩ | ⟨m, lK, rfl, hm, hlK, hrow⟩⟩ := hsl
      · omega
      refine W.loop (fun a : GS => [(0, .int .i64 (j : Nat)), (1, u), (4, .mptr (h.next + 0) 0), (6, a.s), (7, .int .i64 (a.a : Nat)), (8, .int .i64 (a.i : Nat))]) (fun a => hp h a.bs)
        (fun a => a.i ≤ l.length ∧ a.a < j ∧ (a.s = runV j a.a ∨ (a.a = 0 ∧ (a.s = zerosV j ∨ a.s = .nilsl))) ∧ bget a.bs 0 = some (topG (.msl (h.next + m) 10 0 j none)) ∧ bget a.bs m = some lK) (fun a => l.length - a.i)
        ⟨0, 0, .nilsl, some (topG (.msl (h.next + m) 10 0 j none)) :: rest⟩ ⟨Nat.zero_le _, by show 0 < j; omega, .inr ⟨rfl, .inr rfl⟩, rfl, hm⟩ ⟨rfl, rfl, rfl, rfl, rfl, rfl, trivial⟩ rfl ?_
      clear hm hl1 hq
      rintro ⟨i, a, s, bs⟩ ⟨hi, ha, hs, hb0, hm⟩
      simp only at hi ha hs hb0 hm ⊢
      repeat' (first
          | refine WS.near rfl (o_lenI hu) rfl ?_ | refine WS.near rfl (o_iaddrI i hu rfl (by omega)) rfl ?_ | refine W.seq ?_ | refine W.region ?_ | refine WS.nil ?_ | refine W.skip ?_ | refine W.block ?_ | refine W.ret ?_ | refine W.exit ?_ | refine W.yes rfl rfl ?_ | refine W.fork rfl (fun _ => ?_) (fun _ => ?_) | refine WS.guardT rfl ?_ | refine WS.guardF rfl rfl rfl ?_ | refine WS.guardK rfl (fun _ => ?_) (fun _ => ?_) | refine WS.near rfl o_mov rfl ?_ | refine WS.near rfl o_pickT rfl ?_ | refine WS.near rfl o_pickF rfl ?_ | refine WS.near rfl o_notT rfl ?_ | refine WS.near rfl o_lss rfl ?_ | refine WS.near rfl o_gtr rfl ?_ | refine WS.near rfl o_eql rfl ?_ | refine WS.near rfl o_neq rfl ?_ | refine WS.near rfl o_lenF rfl ?_ | refine WS.near rfl o_faddr rfl ?_ | refine WS.near rfl o_loadF rfl ?_ | refine WS.near rfl (o_build rfl) rfl ?_ | refine WS.near rfl (o_loadH rfl) rfl ?_
          | refine WS.near rfl (o_storeH (by assumption) rfl rfl) rfl ?_ | refine WS.near rfl (o_allocH 0 rfl) rfl ?_ | refine WS.near rfl (o_add (by omega) (by omega)) rfl ?_ | refine WS.near rfl (o_sub (by omega) (by omega)) rfl ?_ | refine WS.near rfl (o_iaddrF (n := 0) rfl rfl rfl) rfl ?_)
      · obtain ⟨r, r0, r1, hd⟩ := o_and (a := l.getD i 0) (h0 := hp h bs)
        refine WS.near rfl hd rfl ?_
        obtain ⟨q, rfl⟩ : ∃ q : Nat, r = (q : Nat) := ⟨r.toNat, by omega⟩
        obtain ⟨o, ho⟩ : ∃ o, o = 1 + q % 3 := ⟨_, rfl⟩
        have e1 : (1 : Int) + (q : Nat) % 3 = (o : Nat) := by omega
        refine WS.near rfl (o_rem (by omega) (by omega)) rfl ?_
        refine WS.near' (u := .int .i64 (o : Nat)) rfl (o_add (by omega) (by omega)) rfl (by rw [e1]) ?_
        have ho1 : 1 ≤ o := by omega
        have ho3 : o ≤ 3 := by omega
        clear e1 hd
        repeat' (first
            | refine WS.near rfl (o_lenI hu) rfl ?_ | refine WS.near rfl (o_iaddrI i hu rfl (by omega)) rfl ?_ | refine WS.near rfl o_shr10 rfl ?_ | refine W.seq ?_ | refine W.region ?_ | refine WS.nil ?_ | refine W.skip ?_ | refine W.block ?_ | refine W.ret ?_ | refine W.exit ?_ | refine W.yes rfl rfl ?_ | refine W.fork rfl (fun _ => ?_) (fun _ => ?_) | refine WS.guardT rfl ?_ | refine WS.guardF rfl rfl rfl ?_ | refine WS.guardK rfl (fun _ => ?_) (fun _ => ?_) | refine WS.near rfl o_mov rfl ?_ | refine WS.near rfl o_pickT rfl ?_ | refine WS.near rfl o_pickF rfl ?_ | refine WS.near rfl o_notT rfl ?_ | refine WS.near rfl o_lss rfl ?_ | refine WS.near rfl o_gtr rfl ?_ | refine WS.near rfl o_eql rfl ?_ | refine WS.near rfl o_neq rfl ?_ | refine WS.near rfl o_lenF rfl ?_ | refine WS.near rfl o_faddr rfl ?_ | refine WS.near rfl o_loadF rfl ?_ | refine WS.near rfl (o_build rfl) rfl ?_
            | refine WS.near rfl (o_loadH rfl) rfl ?_ | refine WS.near rfl (o_storeH (by assumption) rfl rfl) rfl ?_ | refine WS.near rfl (o_allocH 0 rfl) rfl ?_ | refine WS.near rfl (o_add (by omega) (by omega)) rfl ?_ | refine WS.near rfl (o_sub (by omega) (by omega)) rfl ?_ | refine WS.near rfl (o_iaddrF (n := 0) rfl rfl rfl) rfl ?_)
        obtain ⟨r2, p0, p1, hd⟩ := o_and (a := (l.getD i 0).fdiv 1024) (h0 := hp h bs)
        refine WS.near rfl hd rfl ?_
        obtain ⟨x, rfl⟩ : ∃ x : Nat, r2 = (x : Nat) := ⟨r2.toNat, by omega⟩
        refine WS.near rfl (o_sub (by omega) (by omega)) rfl ?_
        refine WS.near rfl (o_rem (by omega) (by omega)) rfl ?_
        obtain ⟨t, ht⟩ : ∃ t : Nat, t = a + x % (j - a) := ⟨_, rfl⟩
        have hx1 : (x : Int) % ((j : Int) - a) = ((x % (j - a) : Nat) : Int) := by
          have : ((j - a : Nat) : Int) = (j : Int) - a := by omega
          rw [← this]; rfl
        have hx2 : x % (j - a) < j - a := Nat.mod_lt _ (by omega)
        refine WS.near' (u := .int .i64 (t : Nat)) rfl (o_add (by rw [hx1]; omega) (by rw [hx1]; omega)) rfl (by rw [hx1, ht]; rfl) ?_
        have hta : a ≤ t := by omega
        have htj : t < j := by omega
        clear hx1 hx2 hd ht ho
        have hnm : (lK.drop ((0 + t) * 10 + 3)).head? = some (.str (nameOf t)) := by
          have h5 := row_name (k := j) (by omega) htj
          rw [← hrow] at h5
          rw [List.head?_drop] at h5 ⊢
          rw [List.getElem?_take_of_lt (by omega)] at h5
          rw [Nat.zero_add]
          exact h5
        repeat' (first
            | refine WS.near rfl (o_loadHN hb0 rfl) rfl ?_ | refine WS.near rfl (o_loadH (hload_of hb0 rfl)) rfl ?_ | refine WS.near rfl (o_iaddrM (n := t) rfl (by omega)) rfl ?_ | refine WS.near rfl (o_loadH (hload_of hm hnm)) rfl ?_ | refine W.seq ?_ | refine W.region ?_ | refine WS.nil ?_ | refine W.skip ?_ | refine W.block ?_ | refine W.ret ?_ | refine W.exit ?_ | refine W.yes rfl rfl ?_ | refine W.fork rfl (fun _ => ?_) (fun _ => ?_) | refine WS.guardT rfl ?_ | refine WS.guardF rfl rfl rfl ?_ | refine WS.guardK rfl (fun _ => ?_) (fun _ => ?_) | refine WS.near rfl o_mov rfl ?_ | refine WS.near rfl o_pickT rfl ?_ | refine WS.near rfl o_pickF rfl ?_ | refine WS.near rfl o_notT rfl ?_ | refine WS.near rfl o_lss rfl ?_ | refine WS.near rfl o_gtr rfl ?_ | refine WS.near rfl o_eql rfl ?_ | refine WS.near rfl o_neq rfl ?_ | refine WS.near rfl o_lenF rfl ?_ | refine WS.near rfl o_faddr rfl ?_
            | refine WS.near rfl o_loadF rfl ?_ | refine WS.near rfl (o_build rfl) rfl ?_ | refine WS.near rfl (o_loadH rfl) rfl ?_ | refine WS.near rfl (o_storeH (by assumption) rfl rfl) rfl ?_ | refine WS.near rfl (o_allocH 0 rfl) rfl ?_ | refine WS.near rfl (o_add (by omega) (by omega)) rfl ?_ | refine WS.near rfl (o_sub (by omega) (by omega)) rfl ?_ | refine WS.near rfl (o_iaddrF (n := 0) rfl rfl rfl) rfl ?_)
        refine WS.near rfl (o_litS (cs := [.str (nameOf t), .int .i64 (o : Nat)]) rfl) rfl ?_
        repeat' (first
            | refine W.seq ?_ | refine W.region ?_ | refine WS.nil ?_ | refine W.skip ?_ | refine W.block ?_ | refine W.ret ?_ | refine W.exit ?_ | refine W.yes rfl rfl ?_ | refine W.fork rfl (fun _ => ?_) (fun _ => ?_) | refine WS.guardT rfl ?_ | refine WS.guardF rfl rfl rfl ?_ | refine WS.guardK rfl (fun _ => ?_) (fun _ => ?_) | refine WS.near rfl o_mov rfl ?_ | refine WS.near rfl o_pickT rfl ?_ | refine WS.near rfl o_pickF rfl ?_ | refine WS.near rfl o_notT rfl ?_ | refine WS.near rfl o_lss rfl ?_ | refine WS.near rfl o_gtr rfl ?_ | refine WS.near rfl o_eql rfl ?_ | refine WS.near rfl o_neq rfl ?_ | refine WS.near rfl o_lenF rfl ?_ | refine WS.near rfl o_faddr rfl ?_ | refine WS.near rfl o_loadF rfl ?_ | refine WS.near rfl (o_build rfl) rfl ?_ | refine WS.near rfl (o_loadH rfl) rfl ?_ | refine WS.near rfl (o_storeH (by assumption) rfl rfl) rfl ?_ | refine WS.near rfl (o_allocH 0 rfl) rfl ?_
            | refine WS.near rfl (o_add (by omega) (by omega)) rfl ?_ | refine WS.near rfl (o_sub (by omega) (by omega)) rfl ?_ | refine WS.near rfl (o_iaddrF (n := 0) rfl rfl rfl) rfl ?_)
        refine WS.near rfl o_allocS rfl ?_
        obtain ⟨z, st, hd, dl, tl, ea, htl, a3, a2, a1⟩ := go_ans j a t o ho1 ho3
        have hfz : freezes (hp h (badd (badd bs [.str (nameOf t), .int .i64 (o : Nat)]) [.int .i64 0, .int .i64 0, .nilsl, .nilsl])) 0 fuelF [.agg (topG (.msl (h.next + m) 10 0 j none)), s, .agg [i64 0, i64 0, i64 0, .nilsl, .msl (h.next + bs.length) 2 0 1 none, .nilsl]] = some [rowV j, s, envV (nameOf t) (o : Nat)] := by
          have m1 : ∀ f, Go.Ab.freeze (hp h (badd (badd bs [.str (nameOf t), .int .i64 (o : Nat)]) [.int .i64 0, .int .i64 0, .nilsl, .nilsl])) 0 (f + 40 + 1) (.msl (h.next + m) 10 0 j none) = some (.fsl (up (fun i => leafV (nameOf i)) j 0) none) := fun f =>
            frz_msl (bget_badd_lt (bget_badd_lt hm)) (by decide) hlK (by
              rw [← elems_take 10 j lK hlK, hrow, elems_row (by omega)]
              have : f + 40 = (f + 20 - j) + 20 + j := by omega
              rw [this]
              exact frzs_up (fun i f => leaf_frz _ f) j 0 _) (lows_up (fun i => rfl) j 0)
          have m2 : ∀ f, Go.Ab.freeze (hp h (badd (badd bs [.str (nameOf t), .int .i64 (o : Nat)]) [.int .i64 0, .int .i64 0, .nilsl, .nilsl])) 0 (f + 20 + 1) (.msl (h.next + bs.length) 2 0 1 none) = some (.fsl [.agg [.str (nameOf t), .int .i64 (o : Nat)]] none) := fun f => frz_msl (bget_badd_lt bget_badd) (by decide) (Nat.le_refl _) rfl rfl
          have m3 : ∀ f, Go.Ab.freeze (hp h (badd (badd bs [.str (nameOf t), .int .i64 (o : Nat)]) [.int .i64 0, .int .i64 0, .nilsl, .nilsl])) 0 (f + 1) s = some s := fun f => by rcases hs with rfl | ⟨_, rfl | rfl⟩ <;> rfl
          have key : ∀ f, freezes (hp h (badd (badd bs [.str (nameOf t), .int .i64 (o : Nat)]) [.int .i64 0, .int .i64 0, .nilsl, .nilsl])) 0 (f + 80) [.agg (topG (.msl (h.next + m) 10 0 j none)), s, .agg [i64 0, i64 0, i64 0, .nilsl, .msl (h.next + bs.length) 2 0 1 none, .nilsl]] = some [rowV j, s, envV (nameOf t) (o : Nat)] := fun f => by
            generalize hp h (badd (badd bs [.str (nameOf t), .int .i64 (o : Nat)]) [.int .i64 0, .int .i64 0, .nilsl, .nilsl]) = H at m1 m2 m3
            simp only [frzs_cons, frzs_nil, topG, i64, frz_agg, frz_int, frz_str, frz_nilsl, m1, m2, m3, Option.bind_some, Option.map_some]
            rfl
          exact key 99920
        refine WS.fresh (p := [rowV j, s, envV (nameOf t) (o : Nat)]) (u := goA j a t o) rfl rfl rfl rfl hfz (go_tick (by omega) hta htj ho1 ho3 hs) ?_
        rw [ea]
        refine WS.near rfl (o_storeH hf bget_badd rfl) rfl ?_
        have g1 := bget_bput (off := 0) (n := 4) (cs := [i64 (z : Nat), i64 (st : Nat), .fsl dl none, .fsl (i64 (hd : Nat) :: tl) none]) (bget_badd (bs := badd bs [.str (nameOf t), .int .i64 (o : Nat)]) (c := [.int .i64 0, .int .i64 0, .nilsl, .nilsl]))
        have keep : ∀ q lq, bget bs q = some lq → bget (bput (badd (badd bs [.str (nameOf t), .int .i64 (o : Nat)]) [.int .i64 0, .int .i64 0, .nilsl, .nilsl]) (badd bs [.str (nameOf t), .int .i64 (o : Nat)]).length 0 4 (V.agg [i64 (z : Nat), i64 (st : Nat), .fsl dl none, .fsl (i64 (hd : Nat) :: tl) none]).cells) q = some lq := fun q lq e => by
          rw [bget_bput_ne (by have := bget_lt e; rw [badd_len]; omega)]
          exact bget_badd_lt (bget_badd_lt e)
        replace hb0 := keep _ _ hb0
        replace hm := keep _ _ hm
        clear keep hfz
        have g2 : bget (bput (badd (badd bs [.str (nameOf t), .int .i64 (o : Nat)]) [.int .i64 0, .int .i64 0, .nilsl, .nilsl]) (badd bs [.str (nameOf t), .int .i64 (o : Nat)]).length 0 4 (V.agg [i64 (z : Nat), i64 (st : Nat), .fsl dl none, .fsl (i64 (hd : Nat) :: tl) none]).cells) (badd bs [.str (nameOf t), .int .i64 (o : Nat)]).length = some [i64 (z : Nat), i64 (st : Nat), .fsl dl none, .fsl (i64 (hd : Nat) :: tl) none] := g1
        clear g1
        generalize (badd bs [.str (nameOf t), .int .i64 (o : Nat)]).length = K at hb0 hm g2 ⊢
        generalize bput (badd (badd bs [.str (nameOf t), .int .i64 (o : Nat)]) [.int .i64 0, .int .i64 0, .nilsl, .nilsl]) K 0 4 (V.agg [i64 (z : Nat), i64 (st : Nat), .fsl dl none, .fsl (i64 (hd : Nat) :: tl) none]).cells = B3 at hb0 hm g2 ⊢
        have hlen2 : (i64 (hd : Nat) :: tl).length = j + 1 := by simp [htl]
        repeat' (first
            | refine WS.near rfl (o_loadH (hload_of g2 rfl)) rfl ?_ | refine WS.near rfl (o_iaddrF (n := 0) rfl rfl rfl) rfl ?_ | refine W.seq ?_ | refine W.region ?_ | refine WS.nil ?_ | refine W.skip ?_ | refine W.block ?_ | refine W.ret ?_ | refine W.exit ?_ | refine W.yes rfl rfl ?_ | refine W.fork rfl (fun _ => ?_) (fun _ => ?_) | refine WS.guardT rfl ?_ | refine WS.guardF rfl rfl rfl ?_ | refine WS.guardK rfl (fun _ => ?_) (fun _ => ?_) | refine WS.near rfl o_mov rfl ?_ | refine WS.near rfl o_pickT rfl ?_ | refine WS.near rfl o_pickF rfl ?_ | refine WS.near rfl o_notT rfl ?_ | refine WS.near rfl o_lss rfl ?_ | refine WS.near rfl o_gtr rfl ?_ | refine WS.near rfl o_eql rfl ?_ | refine WS.near rfl o_neq rfl ?_ | refine WS.near rfl o_lenF rfl ?_ | refine WS.near rfl o_faddr rfl ?_ | refine WS.near rfl o_loadF rfl ?_ | refine WS.near rfl (o_build rfl) rfl ?_
            | refine WS.near rfl (o_loadH rfl) rfl ?_ | refine WS.near rfl (o_storeH (by assumption) rfl rfl) rfl ?_ | refine WS.near rfl (o_allocH 0 rfl) rfl ?_ | refine WS.near rfl (o_add (by omega) (by omega)) rfl ?_ | refine WS.near rfl (o_sub (by omega) (by omega)) rfl ?_ | refine WS.near rfl (o_iaddrF (n := 0) rfl rfl rfl) rfl ?_)
        all_goals first | (exfalso; omega) | skip
        · obtain ⟨b1, b2, b3, b4, b5⟩ := a3 (by omega)
          have e8 : (i : Int) + 1 = ((i + 1 : Nat) : Int) := by omega
          exact ⟨⟨i + 1, t, .fsl (i64 (hd : Nat) :: tl) none, B3⟩, ⟨by show i + 1 ≤ l.length; omega, htj, .inl b5, hb0, hm⟩, by show l.length - (i + 1) < l.length - i; omega, ⟨rfl, rfl, rfl, rfl, rfl, congrArg (fun z => some (V.int .i64 z)) e8, trivial⟩, rfl⟩
        · obtain ⟨b1, b2, b3, b5⟩ := a2 (by omega)
          have e8 : (i : Int) + 1 = ((i + 1 : Nat) : Int) := by omega
          exact ⟨⟨i + 1, 0, .fsl (i64 (hd : Nat) :: tl) none, B3⟩, ⟨by show i + 1 ≤ l.length; omega, by show 0 < j; omega, .inr ⟨rfl, .inl b5⟩, hb0, hm⟩, by show l.length - (i + 1) < l.length - i; omega, ⟨rfl, rfl, rfl, rfl, rfl, congrArg (fun z => some (V.int .i64 z)) e8, trivial⟩, rfl⟩
        · obtain ⟨b1, b2, b3, b4, b5⟩ := a1 (by omega)
          have e8 : (i : Int) + 1 = ((i + 1 : Nat) : Int) := by omega
          exact ⟨⟨i + 1, 0, .fsl (i64 (hd : Nat) :: tl) none, B3⟩, ⟨by show i + 1 ≤ l.length; omega, by show 0 < j; omega, .inr ⟨rfl, .inl b5⟩, hb0, hm⟩, by show l.length - (i + 1) < l.length - i; omega, ⟨rfl, rfl, rfl, rfl, rfl, congrArg (fun z => some (V.int .i64 z)) e8, trivial⟩, rfl⟩
      · exact ⟨_, rfl, fin_bool rfl⟩
theorem law_w (n : Int) (u : V) (l : List Int) (hu : IsInts u l) : CallW D4 5 [.int .i64 n, u] Heap.empty fun v _ => v = .bool true := (law_g n u l hu Heap.empty fine0).mono fun _ _ hc => hc.1
end Go.Proofs.YtpaadclighadaaaGreatDoor.CodesR
