/- Plans: a state that is cut. -/
import Derived.Test.YtpaadclighadaaaDoorWG4
namespace Go.Proofs.YtpaadclighadaaaDoor.CodesG
open Go Go.Ab Go.Goap
set_option maxHeartbeats 800000
set_option maxRecDepth 100000

theorem hp_hp (h : Heap) (a b : List (Option (List V))) : hp (hp h a) b = hp h (a ++ b) := by
  simp [hp, Nat.add_assoc, List.map_append, List.reverse_append]
theorem bget_old {a b : List (Option (List V))} {k : Nat} {l : List V} (e : bget a k = some l) : bget (a ++ b) k = some l := by
  have hk := bget_lt e
  rw [bget_eq] at e ⊢
  rw [List.getElem?_append_left hk]
  exact e
theorem bget_new {a b : List (Option (List V))} {k : Nat} : bget (a ++ b) (a.length + k) = bget b k := by
  rw [bget_eq, bget_eq, List.getElem?_append_right (by omega)]
  congr 2
  omega
theorem isl_new {h : Heap} {a b : List (Option (List V))} {sz n : Nat} {v : V} {row : List V} (hs : IsSl (hp h a) b sz v n row) : IsSl h (a ++ b) sz v n row := by
  obtain ⟨h1, h2 | ⟨k, l, e1, e2, e3, e4⟩⟩ := hs
  · exact ⟨h1, .inl h2⟩
  · exact ⟨h1, .inr ⟨a.length + k, l, by rw [e1]; show V.msl (h.next + a.length + k) _ _ _ _ = _; rw [Nat.add_assoc], by rw [bget_new]; exact e2, e3, e4⟩⟩

/-- a list of whole numbers that a call has made -/
def Made (h : Heap) (bs : List (Option (List V))) (v : V) (l : List Int) : Prop := IsSl h bs 1 v l.length (intsV l)
theorem Made.ints {h : Heap} {bs : List (Option (List V))} {v : V} {l : List Int} (m : Made h bs v l) : IntsAt (hp h bs) v l := by
  obtain ⟨h1, ⟨rfl, h2⟩ | ⟨k, c, rfl, e2, e3, e4⟩⟩ := m
  · have : l = [] := List.length_eq_zero_iff.1 h2
    subst this
    exact ⟨rfl, .inl rfl⟩
  · refine ⟨?_, .inr (.inr (.inr ⟨_, _, _, _, rfl, rfl⟩))⟩
    rw [row_msl e2 e3, e4]
theorem Made.keep {h : Heap} {bs bs' : List (Option (List V))} {v : V} {l : List Int} (m : Made h bs v l) (hk : ∀ k c, bget bs k = some c → bget bs' k = some c) : Made h bs' v l := IsSl.keep m hk
theorem ints_set {l : List Int} {i : Nat} {w : Int} : (intsV l).set i (i64 w) = intsV (l.set i w) := by simp [intsV, i64, List.map_set]
/-- one of them is set -/
theorem Made.put {h : Heap} {bs : List (Option (List V))} {v : V} {l : List Int} (m : Made h bs v l) {i : Nat} (hi : i < l.length) (w : Int) :
    ∃ k c, v = .msl (h.next + k) 1 0 l.length none ∧ bget bs k = some c ∧ i + 1 ≤ c.length ∧ Made h (bput bs k i 1 [i64 w]) v (l.set i w) := by
  obtain ⟨h1, ⟨_, h2⟩ | ⟨k, c, rfl, e2, e3, e4⟩⟩ := m
  · omega
  · have hc : i < c.length := by omega
    refine ⟨k, c, rfl, e2, by omega, ?_, .inr ⟨k, splice c i 1 [i64 w], by rw [List.length_set], bget_bput e2, ?_, ?_⟩⟩
    · rw [ints_len]; simp
    · have : (splice c i 1 [i64 w]).length = c.length := by simp [splice, List.length_take, List.length_drop]; omega
      rw [this, List.length_set]
      exact e3
    · have h5 : splice c i 1 [i64 w] = c.set i (i64 w) := by
        rw [List.set_eq_take_append_cons_drop]
        simp [splice, hc]
      rw [h5, List.length_set, ← ints_set, ← e4, List.take_set]

/-! ### the program's -/

theorem o_mkints {h : Heap} {bs : List (Option (List V))} {n : Nat} (hn : n * 8 ≤ maxRow) : Does (.mkslice 1 8 [.int .i64 0] (.v (.int .i64 (n : Nat))) (.v (.int .i64 (n : Nat)))) (hp h bs) (.msl (h.next + bs.length) 1 0 n none) (hp h (badd bs (intsV (List.replicate n 0)))) := by
  refine ⟨?_⟩; rw [op1v]
  have h1 : (0 : Int) ≤ (n : Nat) ∧ ((n : Nat) : Int) ≤ (n : Nat) ∧ ((n : Nat) : Int) * ((8 : Nat) : Int) ≤ maxRow ∧ ((n : Nat) : Int) < 2 ^ 62 := by
    unfold maxRow at hn ⊢
    refine ⟨by omega, by omega, by omega, by omega⟩
  have h2 : (List.replicate n [V.int .i64 0]).flatten = intsV (List.replicate n 0) := by
    induction n with
    | zero => rfl
    | succ n ih => simp [intsV, List.replicate_succ]
  simp only [op1, ev, h1, and_self, if_true, Int.toNat_natCast, h2]
  rw [← hp_new]
  rfl
/-- the first n of them, and 0 behind -/
def pad (n : Nat) (l : List Int) : List Int := l.take n ++ (List.replicate n 0).drop (min l.length n)
theorem pad_len (n : Nat) (l : List Int) : (pad n l).length = n := by simp [pad, List.length_take]; omega
theorem pad_at (n : Nat) (l : List Int) {i : Nat} (hi : i < n) : (pad n l).getD i 0 = l.getD i 0 := by
  simp only [pad, List.getD]
  by_cases h : i < l.length
  · rw [List.getElem?_append_left (by simp; omega), List.getElem?_take_of_lt hi]
  · rw [List.getElem?_append_right (by simp; omega), List.getElem?_eq_none (by omega : l.length ≤ i)]
    simp [List.getElem?_replicate, List.length_take]
    split <;> rfl
theorem o_copyI {h : Heap} {bs : List (Option (List V))} {k n : Nat} {v : V} {l : List Int} (hf : h.Fine) (hb : IntsAt (hp h bs) v l) (e : bget bs k = some (intsV (List.replicate n 0))) :
    Does (.copy 1 (.v (.msl (h.next + k) 1 0 n none)) (.v v)) (hp h bs) (.int .i64 (min l.length n : Nat)) (hp h (bset bs k (some (intsV (pad n l))))) := by
  refine ⟨?_⟩; rw [op1v]
  have hr := hb.row
  have hl := hb.len
  have hcs : (hp h bs).cellsOf (h.next + k) = some (intsV (List.replicate n 0)) := (hp_cells ..).trans e
  have hlen : (intsV (List.replicate n 0)).length = n := by rw [ints_len, List.length_replicate]
  have hle : (0 + n) * 1 ≤ (intsV (List.replicate n 0)).length := by omega
  have hmay := hp_may hf k ((intsV l).take (min l.length n * 1)) (bs := bs)
  simp only [op1, ev, hl, hr, ne_eq, not_true_eq_false, if_false, hcs, hle, decide_true, hmay, Bool.and_self, if_true]
  have h3 : (intsV (List.replicate n 0)).take (0 * 1) ++ (intsV l).take (min l.length n * 1) ++ (intsV (List.replicate n 0)).drop (0 * 1 + min l.length n * 1) = intsV (pad n l) := by
    simp only [List.take_zero, List.nil_append, Nat.mul_one, Nat.zero_add]
    have : (intsV l).take (min l.length n) = intsV (l.take n) := by
      simp only [intsV, ← List.map_take]
      congr 1
      rw [List.take_eq_take_iff]
      omega
    rw [this]
    simp only [intsV, pad, List.map_append, List.map_drop]
  rw [h3, ← hp_set h (bget_lt e)]
  rfl
theorem splice_ints {l : List Int} {i : Nat} {w : Int} (hi : i < l.length) : splice (intsV l) i 1 [i64 w] = intsV (l.set i w) := by
  rw [← ints_set, List.set_eq_take_append_cons_drop]
  simp [splice, ints_len, hi]

theorem keep2 {b0 b1 : Option (List V)} {junk : List (Option (List V))} {z cs : List V} {n : Nat} : ∃ j, bput (badd (b0 :: b1 :: junk) z) (b0 :: b1 :: junk).length 0 n cs = b0 :: b1 :: j := ⟨_, rfl⟩
structure CS where
  i : Nat
  cur : List Int
  junk : List (Option (List V))
theorem cut_w (d : DR) {v : V} {l : List Int} (hl : d.vars.length < 2 ^ 40) (h0 : Heap) (hf : h0.Fine) (hb : IntsAt h0 v l) :
    CallW D1 30 [d.v, v] h0 fun r h' => ∃ bs, h' = hp h0 bs ∧ Made h0 bs r (cutF d.vars l) := by
  refine CallW.open rfl rfl rfl rfl rfl ?_
  rw [← hp_nil (h0 := h0)]
  rw [← hp_nil (h0 := h0)] at hb
  have hml : (d.vars.map varV).length = d.vars.length := List.length_map ..
  have hcl := cut_len d.vars l
  repeat' (first
      | refine WS.near rfl (o_lenZ d.hvs) rfl ?_ | refine W.seq ?_ | refine W.region ?_ | refine WS.nil ?_ | refine W.skip ?_ | refine W.block ?_ | refine W.ret ?_ | refine W.exit ?_ | refine W.fork rfl (fun _ => ?_) (fun _ => ?_) | refine WS.near rfl o_mov rfl ?_ | refine WS.near rfl o_lss rfl ?_ | refine WS.near rfl o_faddr rfl ?_ | refine WS.near rfl o_loadF rfl ?_ | refine WS.near rfl (o_loadH rfl) rfl ?_ | refine WS.near rfl (o_boxH 0 rfl) rfl ?_ | refine WS.near rfl (o_add (by omega) (by omega)) rfl ?_ | refine WS.near rfl (o_faddrF (Nat.le_of_ble_eq_true rfl)) rfl ?_)
  rw [hml]
  refine WS.near rfl (o_mkints (by unfold maxRow; omega)) rfl ?_
  repeat' (first
      | refine W.seq ?_ | refine W.region ?_ | refine WS.nil ?_ | refine W.skip ?_ | refine W.block ?_ | refine W.ret ?_ | refine W.exit ?_ | refine W.fork rfl (fun _ => ?_) (fun _ => ?_) | refine WS.near rfl o_mov rfl ?_ | refine WS.near rfl o_lss rfl ?_ | refine WS.near rfl o_faddr rfl ?_ | refine WS.near rfl o_loadF rfl ?_ | refine WS.near rfl (o_loadH rfl) rfl ?_ | refine WS.near rfl (o_boxH 0 rfl) rfl ?_ | refine WS.near rfl (o_add (by omega) (by omega)) rfl ?_ | refine WS.near rfl (o_faddrF (Nat.le_of_ble_eq_true rfl)) rfl ?_)
  refine WS.near rfl (o_copyI (k := 1) hf (IntsAt.hp hf (by rw [hp_nil] at hb; exact hb)) rfl) rfl ?_
  repeat' (first
      | refine WS.near rfl (o_lenZ d.hvs) rfl ?_ | refine W.seq ?_ | refine W.region ?_ | refine WS.nil ?_ | refine W.skip ?_ | refine W.block ?_ | refine W.ret ?_ | refine W.exit ?_ | refine W.fork rfl (fun _ => ?_) (fun _ => ?_) | refine WS.near rfl o_mov rfl ?_ | refine WS.near rfl o_lss rfl ?_ | refine WS.near rfl o_faddr rfl ?_ | refine WS.near rfl o_loadF rfl ?_ | refine WS.near rfl (o_loadH rfl) rfl ?_ | refine WS.near rfl (o_boxH 0 rfl) rfl ?_ | refine WS.near rfl (o_add (by omega) (by omega)) rfl ?_ | refine WS.near rfl (o_faddrF (Nat.le_of_ble_eq_true rfl)) rfl ?_)
  refine W.loop (fun a : CS => [(2, .mptr (h0.next + 0) 0), (4, .msl (h0.next + 1) 1 0 d.vars.length none), (12, d.vs), (13, .int .i64 ((d.vars.map varV).length : Nat)), (14, .int .i64 (a.i : Nat))]) (fun a => hp h0 (some d.cells :: some (intsV a.cur) :: a.junk))
    (fun a => a.i ≤ d.vars.length ∧ a.cur.length = d.vars.length ∧ (∀ j, j < a.i → a.cur.getD j 0 = (cutF d.vars l).getD j 0) ∧ (∀ j, a.i ≤ j → j < d.vars.length → a.cur.getD j 0 = l.getD j 0)) (fun a => d.vars.length - a.i)
    ⟨0, pad d.vars.length l, []⟩ ⟨Nat.zero_le _, pad_len _ _, (fun j h => absurd h (Nat.not_lt_zero _)), fun j _ h => pad_at _ _ h⟩ ⟨rfl, rfl, rfl, rfl, rfl, trivial⟩ rfl ?_
  rintro ⟨i, cur, junk⟩ ⟨hi, hcur, hlo, hhi⟩
  simp only at hi hcur hlo hhi ⊢
  repeat' (first
      | refine W.seq ?_ | refine W.region ?_ | refine WS.nil ?_ | refine W.skip ?_ | refine W.block ?_ | refine W.ret ?_ | refine W.exit ?_ | refine W.fork rfl (fun _ => ?_) (fun _ => ?_) | refine WS.near rfl o_mov rfl ?_ | refine WS.near rfl o_lss rfl ?_ | refine WS.near rfl o_faddr rfl ?_ | refine WS.near rfl o_loadF rfl ?_ | refine WS.near rfl (o_loadH rfl) rfl ?_ | refine WS.near rfl (o_boxH 0 rfl) rfl ?_ | refine WS.near rfl (o_add (by omega) (by omega)) rfl ?_ | refine WS.near rfl (o_faddrF (Nat.le_of_ble_eq_true rfl)) rfl ?_)
  · have hlt : i < d.vars.length := by omega
    refine WS.near rfl (o_iaddrZ i d.hvs rfl (fz_at (d := default) i hlt) rfl) rfl ?_
    repeat' (first
        | refine WS.near rfl (o_loadA rfl) rfl ?_ | refine W.seq ?_ | refine W.region ?_ | refine WS.nil ?_ | refine W.skip ?_ | refine W.block ?_ | refine W.ret ?_ | refine W.exit ?_ | refine W.fork rfl (fun _ => ?_) (fun _ => ?_) | refine WS.near rfl o_mov rfl ?_ | refine WS.near rfl o_lss rfl ?_ | refine WS.near rfl o_faddr rfl ?_ | refine WS.near rfl o_loadF rfl ?_ | refine WS.near rfl (o_loadH rfl) rfl ?_ | refine WS.near rfl (o_boxH 0 rfl) rfl ?_ | refine WS.near rfl (o_add (by omega) (by omega)) rfl ?_ | refine WS.near rfl (o_faddrF (Nat.le_of_ble_eq_true rfl)) rfl ?_)
    refine WS.near rfl o_allocS rfl ?_
    repeat' (first
        | refine W.seq ?_ | refine W.region ?_ | refine WS.nil ?_ | refine W.skip ?_ | refine W.block ?_ | refine W.ret ?_ | refine W.exit ?_ | refine W.fork rfl (fun _ => ?_) (fun _ => ?_) | refine WS.near rfl o_mov rfl ?_ | refine WS.near rfl o_lss rfl ?_ | refine WS.near rfl o_faddr rfl ?_ | refine WS.near rfl o_loadF rfl ?_ | refine WS.near rfl (o_loadH rfl) rfl ?_ | refine WS.near rfl (o_boxH 0 rfl) rfl ?_ | refine WS.near rfl (o_add (by omega) (by omega)) rfl ?_ | refine WS.near rfl (o_faddrF (Nat.le_of_ble_eq_true rfl)) rfl ?_)
    refine WS.near rfl (o_storeH hf (bget_badd (bs := some d.cells :: some (intsV cur) :: junk)) rfl) rfl ?_
    obtain ⟨j2, hj2⟩ := keep2 (b0 := some d.cells) (b1 := some (intsV cur)) (junk := junk) (z := [.str [], .int .i64 0, .int .i64 0]) (cs := (varV (d.vars.getD i default)).cells)
    have g1 := bget_bput (off := 0) (n := 3) (cs := (varV (d.vars.getD i default)).cells) (bget_badd (bs := some d.cells :: some (intsV cur) :: junk) (c := [.str [], .int .i64 0, .int .i64 0]))
    have hj3 : bput (badd (some d.cells :: some (intsV cur) :: junk) [.str [], .int .i64 0, .int .i64 0]) (some d.cells :: some (intsV cur) :: junk).length 0 3 (V.agg [.str (d.vars.getD i default).name, i64 (d.vars.getD i default).low, i64 (d.vars.getD i default).high]).cells = some d.cells :: some (intsV cur) :: j2 := hj2
    rw [hj2] at g1
    have hj4 : (bput (badd (some d.cells :: some (intsV cur) :: junk) [.str [], .int .i64 0, .int .i64 0]) (some d.cells :: some (intsV cur) :: junk).length 0 3 (varV (d.vars.getD i default)).cells) = some d.cells :: some (intsV cur) :: j2 := hj2
    clear hj3
    change WS D1 (capOfD c30.dep) [] _ (hp h0 (bput (badd (some d.cells :: some (intsV cur) :: junk) [.str [], .int .i64 0, .int .i64 0]) (some d.cells :: some (intsV cur) :: junk).length 0 3 (varV (d.vars.getD i default)).cells)) _
    rw [hj4]
    clear hj2 hj4
    generalize (some d.cells :: some (intsV cur) :: junk).length = K at g1 ⊢
    have hcell : ((intsV cur).drop ((0 + i) * 1)).head? = some (i64 (cur.getD i 0)) := by
      rw [List.head?_drop, show (0 + i) * 1 = i by omega]
      exact intsV_at (by omega)
    have hw := cut_at d.vars l i hlt
    have hci := hhi i (Nat.le_refl _) hlt
    repeat' (first
        | refine WS.near rfl (o_iaddrM (n := i) rfl hlt) rfl ?_ | refine WS.near rfl (o_loadH (hload_of (k := 1) rfl hcell)) rfl ?_ | refine WS.near rfl (o_loadH (hload_of g1 rfl)) rfl ?_ | refine W.seq ?_ | refine W.region ?_ | refine WS.nil ?_ | refine W.skip ?_ | refine W.block ?_ | refine W.ret ?_ | refine W.exit ?_ | refine W.fork rfl (fun _ => ?_) (fun _ => ?_) | refine WS.near rfl o_mov rfl ?_ | refine WS.near rfl o_lss rfl ?_ | refine WS.near rfl o_faddr rfl ?_ | refine WS.near rfl o_loadF rfl ?_ | refine WS.near rfl (o_loadH rfl) rfl ?_ | refine WS.near rfl (o_boxH 0 rfl) rfl ?_ | refine WS.near rfl (o_add (by omega) (by omega)) rfl ?_ | refine WS.near rfl (o_faddrF (Nat.le_of_ble_eq_true rfl)) rfl ?_)
    refine WS.puF hf rfl rfl (within_pu (cur.getD i 0) (d.vars.getD i default).low (d.vars.getD i default).high) ?_
    repeat' (first
        | refine WS.near rfl (o_iaddrM (n := i) rfl hlt) rfl ?_ | refine W.seq ?_ | refine W.region ?_ | refine WS.nil ?_ | refine W.skip ?_ | refine W.block ?_ | refine W.ret ?_ | refine W.exit ?_ | refine W.fork rfl (fun _ => ?_) (fun _ => ?_) | refine WS.near rfl o_mov rfl ?_ | refine WS.near rfl o_lss rfl ?_ | refine WS.near rfl o_faddr rfl ?_ | refine WS.near rfl o_loadF rfl ?_ | refine WS.near rfl (o_loadH rfl) rfl ?_ | refine WS.near rfl (o_boxH 0 rfl) rfl ?_ | refine WS.near rfl (o_add (by omega) (by omega)) rfl ?_ | refine WS.near rfl (o_faddrF (Nat.le_of_ble_eq_true rfl)) rfl ?_)
    obtain ⟨w, hwd⟩ : ∃ w, w = cutIn (cur.getD i 0) (d.vars.getD i default).low (d.vars.getD i default).high := ⟨_, rfl⟩
    rw [← hwd]
    refine WS.near rfl (o_storeH (k := 1) (l := intsV cur) hf rfl (by rw [Bool.and_eq_true]; exact ⟨rfl, by rw [lenL_eq, ints_len, hcur, Nat.ble_eq]; omega⟩)) rfl ?_
    have hs : bput (some d.cells :: some (intsV cur) :: j2) 1 ((0 + i) * 1) 1 (i64 w).cells = some d.cells :: some (intsV (cur.set i w)) :: j2 := by
      show some d.cells :: some (splice (intsV cur) ((0 + i) * 1) 1 [i64 w]) :: j2 = _
      rw [show (0 + i) * 1 = i by omega, splice_ints (by omega)]
    change WS D1 (capOfD c30.dep) [] _ (hp h0 (bput (some d.cells :: some (intsV cur) :: j2) 1 ((0 + i) * 1) 1 (i64 w).cells)) _
    rw [hs]
    repeat' (first
        | refine W.seq ?_ | refine W.region ?_ | refine WS.nil ?_ | refine W.skip ?_ | refine W.block ?_ | refine W.ret ?_ | refine W.exit ?_ | refine W.fork rfl (fun _ => ?_) (fun _ => ?_) | refine WS.near rfl o_mov rfl ?_ | refine WS.near rfl o_lss rfl ?_ | refine WS.near rfl o_faddr rfl ?_ | refine WS.near rfl o_loadF rfl ?_ | refine WS.near rfl (o_loadH rfl) rfl ?_ | refine WS.near rfl (o_boxH 0 rfl) rfl ?_ | refine WS.near rfl (o_add (by omega) (by omega)) rfl ?_ | refine WS.near rfl (o_faddrF (Nat.le_of_ble_eq_true rfl)) rfl ?_)
    have e1 : (i : Int) + 1 = ((i + 1 : Nat) : Int) := by omega
    refine ⟨⟨i + 1, cur.set i w, j2⟩, ⟨by show i + 1 ≤ d.vars.length; omega, by show (cur.set i w).length = _; rw [List.length_set]; exact hcur, fun j hj => ?_, fun j hj hj2 => ?_⟩, by show d.vars.length - (i + 1) < d.vars.length - i; omega, ⟨rfl, rfl, rfl, rfl, congrArg (fun z => some (V.int .i64 z)) e1, trivial⟩, rfl⟩
    · have hj : j < i + 1 := hj
      show (cur.set i w).getD j 0 = _
      by_cases hji : j = i
      · subst hji
        have : (cur.set j w).getD j 0 = w := by simp [List.getD, hcur, hlt]
        rw [this, hw, hwd, hci]
      · have : (cur.set i w).getD j 0 = cur.getD j 0 := by simp only [List.getD, List.getElem?_set, Ne.symm hji, if_false]
        rw [this]
        exact hlo j (by omega)
    · have hj : i + 1 ≤ j := hj
      show (cur.set i w).getD j 0 = _
      have hne : ¬ i = j := by omega
      have : (cur.set i w).getD j 0 = cur.getD j 0 := by simp only [List.getD, List.getElem?_set, hne, if_false]
      rw [this]
      exact hhi j (by omega) hj2
  · have hin : i = d.vars.length := by omega
    have hcc : cur = cutF d.vars l := by
      apply List.ext_getElem?
      intro j
      by_cases hj : j < d.vars.length
      · have h1 : cur[j]? = some (cur.getD j 0) := by simp [List.getD, List.getElem?_eq_getElem (by omega : j < cur.length)]
        have h2 : (cutF d.vars l)[j]? = some ((cutF d.vars l).getD j 0) := by simp [List.getD, List.getElem?_eq_getElem (by omega : j < (cutF d.vars l).length)]
        rw [h1, h2, hlo j (by omega)]
      · rw [List.getElem?_eq_none (by omega), List.getElem?_eq_none (by omega)]
    refine ⟨_, rfl, some d.cells :: some (intsV cur) :: junk, by rw [hp_nil], ?_⟩
    rw [hp_nil, ← hcc]
    refine ⟨by rw [ints_len]; omega, .inr ⟨1, intsV cur, by rw [hcur]; rfl, rfl, by rw [ints_len]; omega, by rw [← ints_len cur, Nat.mul_one, List.take_length]⟩⟩
/-- what the caller has left is as it was -/
theorem cut_hp (d : DR) {v : V} {l : List Int} (hl : d.vars.length < 2 ^ 40) {h0 : Heap} {bs : List (Option (List V))} (hf : h0.Fine) (hb : IntsAt (hp h0 bs) v l) :
    CallW D1 30 [d.v, v] (hp h0 bs) fun r h' => ∃ bs', h' = hp h0 bs' ∧ Made h0 bs' r (cutF d.vars l) ∧ ∀ q c, bget bs q = some c → bget bs' q = some c :=
  (cut_w d hl _ (hp_fine hf) hb).mono fun r h' ⟨b2, e, m⟩ => ⟨bs ++ b2, by rw [e, hp_hp], isl_new m, fun q c e => bget_old e⟩

/-- one element more: the blocks that are not the slice's are as they were -/
theorem app_keep {h0 : Heap} (hf : h0.Fine) {bs : List (Option (List V))} {sz n bytes j : Nat} {v : V} {row c : List V} (hs : IsSl h0 bs sz v n row) (hj : bget bs j = some c) (hc : c.length = sz) (_ : 0 < sz) (hb : (n + 1) * bytes ≤ maxRow) (hq : ∀ k a b d e, v = .msl (h0.next + k) a b d e → k ≠ 0) (hbs : 0 < bs.length) :
    ∃ v' bs', Does (.app sz bytes (.v v) (.v (.msl (h0.next + j) sz 0 1 none))) (hp h0 bs) v' (hp h0 bs') ∧ IsSl h0 bs' sz v' (n + 1) (row ++ c) ∧ bget bs' 0 = bget bs 0 ∧ (∀ k a b d e, v' = .msl (h0.next + k) a b d e → k ≠ 0) ∧ 0 < bs'.length := by
  have hrow : (hp h0 bs).row sz (.msl (h0.next + j) sz 0 1 none) = some c := by
    rw [row_msl (n := 1) hj (by omega)]
    simp [← hc]
  have hmay : ∀ k vs, (hp h0 bs).mayPut (h0.next + k) vs = true := fun k vs => hp_may hf k vs
  have hmine : ∀ k, (hp h0 bs).mine (h0.next + k) = true := fun k => by
    simp only [Heap.mine, List.all_eq_true, decide_eq_true_eq]
    exact fun f m => Nat.le_trans (hf.fl f m) (Nat.le_add_right _ _)
  have hnew : ∀ (bs1 : List (Option (List V))) (l : List V), 0 < bs1.length → bget (badd bs1 l) 0 = bget bs1 0 := fun bs1 l h => by
    rw [bget_eq, bget_eq, badd_eq, List.getElem?_append_left h]
  obtain ⟨h1, ⟨rfl, rfl⟩ | ⟨k, l, rfl, e2, e3, e4⟩⟩ := hs
  · refine ⟨.msl (h0.next + bs.length) sz 0 1 none, badd bs c, ⟨?_⟩, ⟨?_, .inr ⟨bs.length, c, rfl, bget_badd, by omega, by simp [List.length_eq_zero_iff.1 (by simpa using h1), ← hc]⟩⟩, hnew _ _ hbs, fun k a b d e h => by simp only [V.msl.injEq] at h; omega, by rw [badd_len]; omega⟩
    · rw [op1v]
      have hb' : 1 * bytes ≤ maxRow := by simpa using hb
      simp only [op1, ev, append, hrow, lenOf, hb', if_true]
      rw [← hp_new]
      rfl
    · simp only [List.length_append, h1, hc]; omega
  · have hk := bget_lt e2
    have hk0 : k ≠ 0 := hq k _ _ _ _ rfl
    by_cases hroom : (n + 1) * sz ≤ l.length
    · refine ⟨.msl (h0.next + k) sz 0 (n + 1) none, bset bs k (some (l.take (n * sz) ++ c ++ l.drop ((n + 1) * sz))), ⟨?_⟩, ⟨?_, .inr ⟨k, _, rfl, bget_bset hk, ?_, ?_⟩⟩, bget_bset_ne (Ne.symm hk0), fun q a b d e h => by simp only [V.msl.injEq] at h; omega, by rw [bset_len]; omega⟩
      · rw [op1v]
        simp only [op1, ev, append, hrow, lenOf, ne_eq, not_true_eq_false, if_false, hp_cells, e2, hroom, if_true, hmay]
        rw [← hp_set h0 hk]
        rfl
      · simp only [List.length_append, h1, hc]; rw [Nat.add_mul, Nat.one_mul]
      · simp only [List.length_append, List.length_take, List.length_drop, hc]
        have : (n + 1) * sz = n * sz + sz := by rw [Nat.add_mul, Nat.one_mul]
        omega
      · have h5 : (l.take (n * sz) ++ c).length = (n + 1) * sz := by
          simp only [List.length_append, List.length_take, hc]
          have : (n + 1) * sz = n * sz + sz := by rw [Nat.add_mul, Nat.one_mul]
          omega
        rw [List.take_append_of_le_length (by omega), List.take_of_length_le (by omega), e4]
    · refine ⟨.msl (h0.next + bs.length) sz 0 (n + 1) none, badd (bset bs k none) (l.take (n * sz) ++ c), ⟨?_⟩, ⟨?_, .inr ⟨bs.length, l.take (n * sz) ++ c, rfl, ?_, ?_, ?_⟩⟩, by rw [hnew _ _ (by rw [bset_len]; exact hbs), bget_bset_ne (Ne.symm hk0)], fun q a b d e h => by simp only [V.msl.injEq] at h; omega, by rw [badd_len, bset_len]; omega⟩
      · rw [op1v]
        have h6 : ¬ l.length < n * sz := by omega
        simp only [op1, ev, append, hrow, lenOf, ne_eq, not_true_eq_false, if_false, hp_cells, e2, hroom, h6, hmine, hb, Bool.true_and, decide_true, if_true]
        rw [← hp_new, ← hp_set h0 hk]
        rfl
      · simp only [List.length_append, h1, hc]; rw [Nat.add_mul, Nat.one_mul]
      · have := bget_badd (bs := bset bs k none) (c := l.take (n * sz) ++ c)
        rw [bset_len] at this
        exact this
      · simp only [List.length_append, List.length_take, hc]
        have : (n + 1) * sz = n * sz + sz := by rw [Nat.add_mul, Nat.one_mul]
        omega
      · have h5 : (l.take (n * sz) ++ c).length = (n + 1) * sz := by
          simp only [List.length_append, List.length_take, hc]
          have : (n + 1) * sz = n * sz + sz := by rw [Nat.add_mul, Nat.one_mul]
          omega
        rw [List.take_of_length_le (by omega), e4]

/-! ### the document's -/

structure CR where
  i : Nat
  v : V
  bs : List (Option (List V))
theorem cutR_w (d : DR) {v : V} {l : List Int} (hl : d.vars.length < 2 ^ 40) (h0 : Heap) (hf : h0.Fine) (hb : IntsAt h0 v l) :
    CallW D1 35 [d.v, v] h0 fun r h' => ∃ bs, h' = hp h0 bs ∧ Made h0 bs r (cutF d.vars l) := by
  refine CallW.open rfl rfl rfl rfl rfl ?_
  rw [← hp_nil (h0 := h0)]
  rw [← hp_nil (h0 := h0)] at hb
  have hml : (d.vars.map varV).length = d.vars.length := List.length_map ..
  have hcl := cut_len d.vars l
  repeat' (first
      | refine W.seq ?_ | refine W.region ?_ | refine WS.nil ?_ | refine W.skip ?_ | refine W.block ?_ | refine W.ret ?_ | refine W.exit ?_ | refine W.fork rfl (fun _ => ?_) (fun _ => ?_) | refine WS.near rfl o_mov rfl ?_ | refine WS.near rfl o_lss rfl ?_ | refine WS.near rfl o_faddr rfl ?_ | refine WS.near rfl o_loadF rfl ?_ | refine WS.near rfl (o_loadH rfl) rfl ?_ | refine WS.near rfl (o_boxH 0 rfl) rfl ?_ | refine WS.near rfl (o_add (by omega) (by omega)) rfl ?_ | refine WS.near rfl (o_faddrF (Nat.le_of_ble_eq_true rfl)) rfl ?_)
  refine W.loop (fun a : CR => [(1, v), (2, .mptr (h0.next + 0) 0), (4, a.v), (5, .int .i64 (a.i : Nat))]) (fun a => hp h0 a.bs)
    (fun a => a.i ≤ d.vars.length ∧ bget a.bs 0 = some d.cells ∧ Made h0 a.bs a.v ((cutF d.vars l).take a.i) ∧ (∀ q x y z w, a.v = .msl (h0.next + q) x y z w → q ≠ 0) ∧ 0 < a.bs.length) (fun a => d.vars.length - a.i)
    ⟨0, .nilsl, [some d.cells]⟩ ⟨Nat.zero_le _, rfl, IsSl.nil, (fun q x y z w h => by cases h), Nat.succ_pos _⟩ ⟨rfl, rfl, rfl, rfl, trivial⟩ rfl ?_
  rintro ⟨i, u, bs⟩ ⟨hi, hb0, hm, hq, hbl⟩
  simp only at hi hb0 hm hq hbl ⊢
  repeat' (first
      | refine WS.near rfl (o_loadH (hload_of hb0 rfl)) rfl ?_ | refine WS.near rfl (o_lenZ d.hvs) rfl ?_ | refine WS.near rfl (o_lenA (IntsAt.hp hf (by rw [hp_nil] at hb; exact hb))) rfl ?_ | refine W.seq ?_ | refine W.region ?_ | refine WS.nil ?_ | refine W.skip ?_ | refine W.block ?_ | refine W.ret ?_ | refine W.exit ?_ | refine W.fork rfl (fun _ => ?_) (fun _ => ?_) | refine WS.near rfl o_mov rfl ?_ | refine WS.near rfl o_lss rfl ?_ | refine WS.near rfl o_faddr rfl ?_ | refine WS.near rfl o_loadF rfl ?_ | refine WS.near rfl (o_loadH rfl) rfl ?_ | refine WS.near rfl (o_boxH 0 rfl) rfl ?_ | refine WS.near rfl (o_add (by omega) (by omega)) rfl ?_ | refine WS.near rfl (o_faddrF (Nat.le_of_ble_eq_true rfl)) rfl ?_)
  · rename_i hil
    have hlt : i < d.vars.length := by omega
    have hw := cut_at d.vars l i hlt
    obtain ⟨a, d1, d2⟩ := o_at (h := hp h0 bs) (k := .i64) i (IntsAt.hp hf (by rw [hp_nil] at hb; exact hb)) rfl (by omega : i < l.length)
    refine WS.near rfl d1 rfl ?_
    refine WS.near rfl d2 rfl ?_
    repeat' (first
        | refine WS.near rfl (o_loadH (hload_of hb0 rfl)) rfl ?_ | refine WS.near rfl (o_iaddrZ i d.hvs rfl (fz_at (d := default) i hlt) rfl) rfl ?_ | refine W.seq ?_ | refine W.region ?_ | refine WS.nil ?_ | refine W.skip ?_ | refine W.block ?_ | refine W.ret ?_ | refine W.exit ?_ | refine W.fork rfl (fun _ => ?_) (fun _ => ?_) | refine WS.near rfl o_mov rfl ?_ | refine WS.near rfl o_lss rfl ?_ | refine WS.near rfl o_faddr rfl ?_ | refine WS.near rfl o_loadF rfl ?_ | refine WS.near rfl (o_loadH rfl) rfl ?_ | refine WS.near rfl (o_boxH 0 rfl) rfl ?_ | refine WS.near rfl (o_add (by omega) (by omega)) rfl ?_ | refine WS.near rfl (o_faddrF (Nat.le_of_ble_eq_true rfl)) rfl ?_)
    refine WS.puF hf rfl rfl (withinR_pu (l.getD i 0) (d.vars.getD i default).low (d.vars.getD i default).high) ?_
    rw [← hw]
    refine WS.near rfl (o_litS (cs := [i64 ((cutF d.vars l).getD i 0)]) rfl) rfl ?_
    obtain ⟨v', bs', hd, hsl', hb0', hq', hlen⟩ := app_keep (c := [i64 ((cutF d.vars l).getD i 0)]) (j := bs.length) (bytes := 8) hf hm.badd bget_badd rfl (by decide) (by rw [List.length_take, hcl]; unfold maxRow; omega) hq (by rw [badd_len]; omega)
    refine WS.near rfl hd rfl ?_
    repeat' (first
        | refine W.seq ?_ | refine W.region ?_ | refine WS.nil ?_ | refine W.skip ?_ | refine W.block ?_ | refine W.ret ?_ | refine W.exit ?_ | refine W.fork rfl (fun _ => ?_) (fun _ => ?_) | refine WS.near rfl o_mov rfl ?_ | refine WS.near rfl o_lss rfl ?_ | refine WS.near rfl o_faddr rfl ?_ | refine WS.near rfl o_loadF rfl ?_ | refine WS.near rfl (o_loadH rfl) rfl ?_ | refine WS.near rfl (o_boxH 0 rfl) rfl ?_ | refine WS.near rfl (o_add (by omega) (by omega)) rfl ?_ | refine WS.near rfl (o_faddrF (Nat.le_of_ble_eq_true rfl)) rfl ?_)
    have e1 : (i : Int) + 1 = ((i + 1 : Nat) : Int) := by omega
    refine ⟨⟨i + 1, v', bs'⟩, ⟨by show i + 1 ≤ d.vars.length; omega, ?_, ?_, hq', hlen⟩, by show d.vars.length - (i + 1) < d.vars.length - i; omega, ⟨rfl, rfl, rfl, congrArg (fun z => some (V.int .i64 z)) e1, trivial⟩, rfl⟩
    · rw [hb0', ← hb0, bget_eq, bget_eq, badd_eq, List.getElem?_append_left hbl]
    · have h3 : (cutF d.vars l).take (i + 1) = (cutF d.vars l).take i ++ [(cutF d.vars l).getD i 0] := by
        rw [List.take_add_one]
        congr 1
        have : i < (cutF d.vars l).length := by omega
        simp [List.getD, List.getElem?_eq_getElem this]
      show Made h0 bs' v' ((cutF d.vars l).take (i + 1))
      unfold Made
      rw [h3]
      have h4 : ((cutF d.vars l).take i ++ [(cutF d.vars l).getD i 0]).length = ((cutF d.vars l).take i).length + 1 := by simp
      rw [h4]
      have h5 : intsV ((cutF d.vars l).take i ++ [(cutF d.vars l).getD i 0]) = intsV ((cutF d.vars l).take i) ++ [i64 ((cutF d.vars l).getD i 0)] := by simp [intsV, i64]
      rw [h5]
      exact hsl'
  · rename_i hil
    have hlt : i < d.vars.length := by omega
    have hw := cut_at d.vars l i hlt
    have hz : l.getD i 0 = 0 := by simp [List.getD, List.getElem?_eq_none (by omega : l.length ≤ i)]
    refine WS.rep (t := 6) (v := i64 (l.getD i 0)) rfl (by rw [hz]; rfl) ?_
    repeat' (first
        | refine WS.near rfl (o_loadH (hload_of hb0 rfl)) rfl ?_ | refine WS.near rfl (o_iaddrZ i d.hvs rfl (fz_at (d := default) i hlt) rfl) rfl ?_ | refine W.seq ?_ | refine W.region ?_ | refine WS.nil ?_ | refine W.skip ?_ | refine W.block ?_ | refine W.ret ?_ | refine W.exit ?_ | refine W.fork rfl (fun _ => ?_) (fun _ => ?_) | refine WS.near rfl o_mov rfl ?_ | refine WS.near rfl o_lss rfl ?_ | refine WS.near rfl o_faddr rfl ?_ | refine WS.near rfl o_loadF rfl ?_ | refine WS.near rfl (o_loadH rfl) rfl ?_ | refine WS.near rfl (o_boxH 0 rfl) rfl ?_ | refine WS.near rfl (o_add (by omega) (by omega)) rfl ?_ | refine WS.near rfl (o_faddrF (Nat.le_of_ble_eq_true rfl)) rfl ?_)
    refine WS.puF hf rfl rfl (withinR_pu (l.getD i 0) (d.vars.getD i default).low (d.vars.getD i default).high) ?_
    rw [← hw]
    refine WS.near rfl (o_litS (cs := [i64 ((cutF d.vars l).getD i 0)]) rfl) rfl ?_
    obtain ⟨v', bs', hd, hsl', hb0', hq', hlen⟩ := app_keep (c := [i64 ((cutF d.vars l).getD i 0)]) (j := bs.length) (bytes := 8) hf hm.badd bget_badd rfl (by decide) (by rw [List.length_take, hcl]; unfold maxRow; omega) hq (by rw [badd_len]; omega)
    refine WS.near rfl hd rfl ?_
    repeat' (first
        | refine W.seq ?_ | refine W.region ?_ | refine WS.nil ?_ | refine W.skip ?_ | refine W.block ?_ | refine W.ret ?_ | refine W.exit ?_ | refine W.fork rfl (fun _ => ?_) (fun _ => ?_) | refine WS.near rfl o_mov rfl ?_ | refine WS.near rfl o_lss rfl ?_ | refine WS.near rfl o_faddr rfl ?_ | refine WS.near rfl o_loadF rfl ?_ | refine WS.near rfl (o_loadH rfl) rfl ?_ | refine WS.near rfl (o_boxH 0 rfl) rfl ?_ | refine WS.near rfl (o_add (by omega) (by omega)) rfl ?_ | refine WS.near rfl (o_faddrF (Nat.le_of_ble_eq_true rfl)) rfl ?_)
    have e1 : (i : Int) + 1 = ((i + 1 : Nat) : Int) := by omega
    refine ⟨⟨i + 1, v', bs'⟩, ⟨by show i + 1 ≤ d.vars.length; omega, ?_, ?_, hq', hlen⟩, by show d.vars.length - (i + 1) < d.vars.length - i; omega, ⟨rfl, rfl, rfl, congrArg (fun z => some (V.int .i64 z)) e1, trivial⟩, rfl⟩
    · rw [hb0', ← hb0, bget_eq, bget_eq, badd_eq, List.getElem?_append_left hbl]
    · have h3 : (cutF d.vars l).take (i + 1) = (cutF d.vars l).take i ++ [(cutF d.vars l).getD i 0] := by
        rw [List.take_add_one]
        congr 1
        have : i < (cutF d.vars l).length := by omega
        simp [List.getD, List.getElem?_eq_getElem this]
      show Made h0 bs' v' ((cutF d.vars l).take (i + 1))
      unfold Made
      rw [h3]
      have h4 : ((cutF d.vars l).take i ++ [(cutF d.vars l).getD i 0]).length = ((cutF d.vars l).take i).length + 1 := by simp
      rw [h4]
      have h5 : intsV ((cutF d.vars l).take i ++ [(cutF d.vars l).getD i 0]) = intsV ((cutF d.vars l).take i) ++ [i64 ((cutF d.vars l).getD i 0)] := by simp [intsV, i64]
      rw [h5]
      exact hsl'
  · have hin : i = d.vars.length := by omega
    refine ⟨_, rfl, bs, by rw [hp_nil], ?_⟩
    rw [hp_nil]
    rw [hin, ← hcl, List.take_length] at hm
    exact hm
theorem cutR_hp (d : DR) {v : V} {l : List Int} (hl : d.vars.length < 2 ^ 40) {h0 : Heap} {bs : List (Option (List V))} (hf : h0.Fine) (hb : IntsAt (hp h0 bs) v l) :
    CallW D1 35 [d.v, v] (hp h0 bs) fun r h' => ∃ bs', h' = hp h0 bs' ∧ Made h0 bs' r (cutF d.vars l) ∧ ∀ q c, bget bs q = some c → bget bs' q = some c :=
  (cutR_w d hl _ (hp_fine hf) hb).mono fun r h' ⟨b2, e, m⟩ => ⟨bs ++ b2, by rw [e, hp_hp], isl_new m, fun q c e => bget_old e⟩
end Go.Proofs.YtpaadclighadaaaDoor.CodesG
