/- The last open node becomes a part of the one ahead: walked. -/
import Derived.Test.YtfbikhkmamdjmaaDoorWV15
namespace Go.Proofs.YtfbikhkmamdjmaaDoor.CodesK
open Go Go.Ab
set_option maxHeartbeats 3200000
set_option maxRecDepth 100000

theorem bput_last {bs : List (Option (List V))} {z cs : List V} {off n : Nat} : bput (badd bs z) bs.length off n cs = badd bs (splice z off n cs) := by
  rw [bput_eq bget_badd, badd_eq, badd_eq]
  simp
theorem bset_badd_old {bs : List (Option (List V))} {z : List V} {c : Option (List V)} {j : Nat} (hj : j < bs.length) : bset (badd bs z) j c = badd (bset bs j c) z := by
  rw [bset_eq, bset_eq, badd_eq, badd_eq, List.set_append_left _ _ hj]
theorem bput_badd_old {bs : List (Option (List V))} {z cs : List V} {j off n : Nat} (hj : j < bs.length) : bput (badd bs z) j off n cs = badd (bput bs j off n cs) z := by
  unfold bput
  rw [bset_badd_old hj]
  have : bget (badd bs z) j = bget bs j := by
    rw [bget_eq, bget_eq, badd_eq, List.getElem?_append_left hj]
  rw [this]
theorem o_storeLast {h0 : Heap} {bs : List (Option (List V))} {x y : V} (hf : h0.Fine) (hx : x.cells = [x]) : Does (.store 1 (.v (.mptr (h0.next + bs.length) 0)) (.v x)) (hp h0 (badd bs [y])) .undef (hp h0 (badd bs [x])) := by
  have := o_storeO (off := 0) (x := x) hf (bget_badd (bs := bs) (c := [y])) hx rfl
  rw [bput_last] at this
  exact this
theorem o_sliceM {h0 : Heap} {bs : List (Option (List V))} {sz len j m : Nat} {k : IntKind} {b : Int} {l : List V} (hj : bget bs j = some l) (hb : b = m) (hl : m * sz ≤ l.length) :
    Does (.slice sz (.v (.msl (h0.next + j) sz 0 len none)) none (some (.v (.int k b))) none) (hp h0 bs) (.msl (h0.next + j) sz 0 m none) (hp h0 bs) := by
  subst hb
  refine ⟨?_⟩
  rw [op1v]
  simp only [op1, ev, hp_cells, hj, optIdx, idx_nat, Option.bind_some]
  simp [hl]
/-- the block that is given up when a slice grows -/
def left0 (bs : List (Option (List V))) : Option Nat → List (Option (List V))
  | none => bs
  | some j => bset bs j none
theorem left0_len {bs : List (Option (List V))} : ∀ {q : Option Nat}, (left0 bs q).length = bs.length
  | none => rfl
  | some _ => bset_len
theorem left0_badd {bs : List (Option (List V))} {z : List V} : ∀ {q : Option Nat}, (∀ j, q = some j → j < bs.length) → left0 (badd bs z) q = badd (left0 bs q) z
  | none, _ => rfl
  | some j, h => bset_badd_old (h j rfl)
structure Kid (h0 : Heap) (bs : List (Option (List V))) (va : V) (m : Nat) (row : List V) (q : Option Nat) : Prop where
  len : row.length = m * 10
  is : (va = .nilsl ∧ m = 0 ∧ row = [] ∧ q = none) ∨ ∃ j, va = .msl (h0.next + j) 10 0 m none ∧ bget bs j = some row ∧ q = some j
theorem Kid.lt {h0 : Heap} {bs : List (Option (List V))} {va : V} {m : Nat} {row : List V} {q : Option Nat} (h : Kid h0 bs va m row q) : ∀ j, q = some j → j < bs.length := fun j hj => by
  obtain ⟨_, ⟨_, _, _, rfl⟩ | ⟨k, _, h2, rfl⟩⟩ := h
  · cases hj
  · cases hj; exact bget_lt h2
theorem Kid.badd {h0 : Heap} {bs : List (Option (List V))} {va : V} {m : Nat} {row c : List V} {q : Option Nat} (h : Kid h0 bs va m row q) : Kid h0 (badd bs c) va m row q := by
  obtain ⟨h1, h2 | ⟨k, e1, h2, e2⟩⟩ := h
  · exact ⟨h1, .inl h2⟩
  · exact ⟨h1, .inr ⟨k, e1, bget_badd_lt h2, e2⟩⟩
theorem app_kid {h0 : Heap} (hf : h0.Fine) {bs : List (Option (List V))} {va : V} {m j : Nat} {row c : List V} {q : Option Nat} (hk : Kid h0 bs va m row q) (hj : bget bs j = some c) (hc : c.length = 10) (hm : m < 2 ^ 24) :
    Does (.app 10 144 (.v va) (.v (.msl (h0.next + j) 10 0 1 none))) (hp h0 bs) (.msl (h0.next + bs.length) 10 0 (m + 1) none) (hp h0 (Go.Ab.badd (left0 bs q) (row ++ c))) := by
  have hrow : (hp h0 bs).row 10 (.msl (h0.next + j) 10 0 1 none) = some c := by
    rw [row_msl (n := 1) hj (by omega)]
    simp [← hc]
  have hmine : ∀ k, (hp h0 bs).mine (h0.next + k) = true := fun k => by
    simp only [Heap.mine, List.all_eq_true, decide_eq_true_eq]
    exact fun f m => Nat.le_trans (hf.fl f m) (Nat.le_add_right _ _)
  obtain ⟨hl, ⟨rfl, rfl, rfl, rfl⟩ | ⟨k, rfl, h2, rfl⟩⟩ := hk
  · refine ⟨?_⟩
    rw [op1v]
    have hb' : 1 * 144 ≤ maxRow := by decide
    simp only [op1, ev, append, hrow, lenOf, hb', if_true]
    show some _ = _
    rw [← hp_new]
    rfl
  · refine ⟨?_⟩
    rw [op1v]
    have h3 : ¬ (m + 1) * 10 ≤ row.length := by omega
    have h6 : ¬ row.length < m * 10 := by omega
    have hb' : (m + 1) * 144 ≤ maxRow := by show (m + 1) * 144 ≤ 140737488355328; omega
    simp only [op1, ev, append, hrow, lenOf, ne_eq, not_true_eq_false, if_false, hp_cells, h2, h3, h6, hmine, hb', Bool.true_and, decide_true, if_true]
    show some _ = _
    rw [← hp_new]
    unfold left0
    rw [← hp_set h0 (bget_lt h2), List.take_of_length_le (by omega)]
    have : ∀ H : Heap, (H.put (h0.next + k) none).next = H.next := fun _ => rfl
    simp [Heap.new, Heap.put, hp]
def clB (h0 : Heap) (bs : List (Option (List V))) (jo n m : Nat) (q : Option Nat) : List (Option (List V)) := bput (left0 bs q) jo ((0 + n) * 11 + 1 + 8) 1 [.msl (h0.next + (bs.length + 2)) 10 0 (m + 1) none]
theorem cl_end {h0 : Heap} {bs : List (Option (List V))} {jo n m : Nat} {q : Option Nat} {a b c : List V} (hjo : jo < bs.length) (hq : ∀ j, q = some j → j < bs.length) :
    bput (badd (left0 (badd (badd bs a) b) q) c) jo ((0 + n) * 11 + 1 + 8) 1 [.msl (h0.next + (badd (badd bs a) b).length) 10 0 (m + 1) none] = badd (badd (badd (clB h0 bs jo n m q) a) b) c := by
  rw [left0_badd (fun j hj => by rw [badd_len]; have := hq j hj; omega), left0_badd hq, bput_badd_old (by rw [badd_len, badd_len, left0_len]; omega), bput_badd_old (by rw [badd_len, left0_len]; omega), bput_badd_old (by rw [left0_len]; omega), badd_len, badd_len]
  rfl
theorem splice_len {l cs : List V} {off n : Nat} (h1 : cs.length = n) (h2 : off + n ≤ l.length) : (splice l off n cs).length = l.length := by
  unfold splice
  simp only [List.length_append, List.length_take, List.length_drop]
  omega
theorem o_storeR {h0 : Heap} {bs : List (Option (List V))} {off n k : Nat} {l : List V} {x : V} (hf : h0.Fine) (e : bget bs k = some l) (hx : x.cells.length = n) (hl : off + n ≤ l.length) :
    Does (.store n (.v (.mptr (h0.next + k) off)) (.v x)) (hp h0 bs) .undef (hp h0 (bput bs k off n x.cells)) :=
  o_storeH hf e (by rw [lenL_eq, lenL_eq, hx, Bool.and_eq_true]; exact ⟨Nat.beq_refl n, Nat.ble_eq_true_of_le hl⟩)
theorem kid_len {h0 : Heap} {bs : List (Option (List V))} {va : V} {m : Nat} {row : List V} {q : Option Nat} (h : Kid h0 bs va m row q) (H : Heap) : Does (.len 1 (.v va)) H (.int .i64 (m : Nat)) H := by
  obtain ⟨_, ⟨rfl, rfl, _, _⟩ | ⟨j, rfl, _, _⟩⟩ := h
  · exact o_lenN
  · exact o_lenM
theorem cl_end2 {h0 : Heap} {bs : List (Option (List V))} {jo n m : Nat} {q : Option Nat} {a b row c : List V} (hjo : jo < bs.length) (hq : ∀ j, q = some j → j < bs.length) (hr : row.length = m * 10) :
    bput (bput (badd (left0 (badd (badd bs a) b) q) (row ++ zN)) jo ((0 + n) * 11 + 1 + 8) 1 [.msl (h0.next + (badd (badd bs a) b).length) 10 0 (m + 1) none]) (badd (badd bs a) b).length ((0 + m) * 10) 10 c = badd (badd (badd (clB h0 bs jo n m q) a) b) (row ++ c) := by
  rw [cl_end hjo hq]
  have e : (badd (badd bs a) b).length = (badd (badd (clB h0 bs jo n m q) a) b).length := by
    rw [badd_len, badd_len, badd_len, badd_len]
    unfold clB
    rw [bput_len, left0_len]
  rw [e, bput_last]
  congr 1
  unfold splice
  have h1 : (0 + m) * 10 = row.length := by omega
  rw [h1, List.take_left, List.drop_of_length_le (by rw [List.length_append]; show row.length + 10 ≤ row.length + 10; omega), List.append_nil]
theorem closed_w {h : Heap} (hf : h.Fine) (hm : NoMap h) {bs : List (Option (List V))} {jo n m : Nat} {co row : List V} {va vb : V} {r : FL} {q : Option Nat}
    (hjo : bget bs jo = some co) (hle : (n + 2) * 11 ≤ co.length) (hva : (co.drop ((0 + n) * 11 + 1 + 8)).head? = some va) (hnc : (co.drop ((0 + (n + 1)) * 11 + 1)).take 10 = ndC r vb)
    (hn : n < 2 ^ 24) (hm' : m < 2 ^ 24) (hk : Kid h bs va m row q) (hqj : q ≠ some jo) :
    CallW D1 125 [.msl (h.next + jo) 11 0 (n + 2) none] (hp h bs) fun u h' => u = .msl (h.next + jo) 11 0 (n + 1) none ∧ ∃ qa qb, h' = hp h (badd (clB h bs jo n m q ++ [qa, qb]) (row ++ ndC r vb)) := by
  have hjl := bget_lt hjo
  have hlen : Nat.ble ((0 + (n + 1)) * 11 + 1 + 10) (lenL co) = true := by rw [lenL_eq]; exact Nat.ble_eq_true_of_le (by omega)
  have hl8 : Nat.ble ((0 + n) * 11 + 1 + 8 + 1) (lenL co) = true := by rw [lenL_eq]; exact Nat.ble_eq_true_of_le (by omega)
  have hsp : ∀ x : V, (splice co ((0 + n) * 11 + 1 + 8) 1 [x]).length = co.length := fun x => splice_len rfl (by omega)
  refine CallW.two hm (o1 := v125x0) (o2 := v125x1) (B := clB h bs jo n m q) (by unfold clB; rw [bput_len, left0_len]) rfl (by decide) (by decide) rfl rfl rfl ?_ ?_
  · have hj1 : ∀ a b c : List V, bget (badd (left0 (badd (badd bs a) b) q) c) jo = some co := fun a b c => by
      refine bget_badd_lt ?_
      cases q with
      | none => exact bget_badd_lt (bget_badd_lt hjo)
      | some k =>
        show bget (bset _ k none) jo = _
        rw [bget_bset_ne (fun hh => hqj (by rw [hh]))]
        exact bget_badd_lt (bget_badd_lt hjo)
    repeat' (first
        | refine WS.near rfl o_allocS rfl ?_ | refine WS.near rfl (o_storeLast hf rfl) rfl ?_ | refine WS.near rfl (o_loadH (hload_of bget_badd rfl)) rfl ?_ | refine WS.near rfl (o_iaddrM (n := n) (by omega) (by omega)) rfl ?_ | refine WS.near rfl (o_iaddrM (n := n + 1) (by omega) (by omega)) rfl ?_ | refine WS.near rfl (o_loadH (hload_of (bget_badd_lt hjo) hva)) rfl ?_ | refine WS.near' rfl (o_loadHN (bget_badd_lt hjo) hlen) rfl (congrArg V.agg hnc) ?_ | refine WS.near rfl (o_litS (cs := ndC r vb) rfl) rfl ?_ | refine WS.near rfl (app_kid hf (Kid.badd (Kid.badd hk)) bget_badd rfl hm') rfl ?_ | refine WS.near rfl (o_storeO hf (hj1 _ _ _) rfl hl8) rfl ?_ | refine WS.near rfl (o_sliceM (m := n + 1) (bget_bput (hj1 _ _ _)) (by omega) (by rw [hsp]; omega)) rfl ?_ | refine W.seq ?_ | refine W.region ?_ | refine WS.nil ?_ | refine W.ret ?_ | refine W.no rfl rfl ?_ | refine WS.near rfl o_mov rfl ?_
        | refine WS.near rfl o_lenM rfl ?_ | refine WS.near rfl o_faddr rfl ?_ | refine WS.near rfl (o_sub (by omega) (by omega)) rfl ?_ | fail)
    exact ⟨_, rfl, rfl, [.bool false], ndC r vb, congrArg (hp h) (cl_end hjl hk.lt)⟩
  · have hj1 : ∀ a b c : List V, bget (badd (left0 (badd (badd bs a) b) q) c) jo = some co := fun a b c => by
      refine bget_badd_lt ?_
      cases q with
      | none => exact bget_badd_lt (bget_badd_lt hjo)
      | some k =>
        show bget (bset _ k none) jo = _
        rw [bget_bset_ne (fun hh => hqj (by rw [hh]))]
        exact bget_badd_lt (bget_badd_lt hjo)
    have hj2 : ∀ (a b c cs : List V) (off w : Nat), bget (bput (badd (left0 (badd (badd bs a) b) q) c) jo off w cs) (badd (badd bs a) b).length = some c := fun a b c cs off w => by
      rw [bget_bput_ne (by rw [badd_len, badd_len]; omega)]
      have := bget_badd (bs := left0 (badd (badd bs a) b) q) (c := c)
      rwa [left0_len] at this
    have hrl := hk.len
    have hj3 : ∀ (a b c cs cs2 : List V) (off off2 w w2 : Nat), bget (bput (bput (badd (left0 (badd (badd bs a) b) q) c) jo off w cs) (badd (badd bs a) b).length off2 w2 cs2) jo = some (splice co off w cs) := fun a b c cs cs2 off off2 w w2 => by
      rw [bget_bput_ne (by rw [badd_len, badd_len]; omega)]
      exact bget_bput (hj1 _ _ _)
    repeat' (first
        | refine WS.near rfl o_allocS rfl ?_ | refine WS.near rfl (o_storeLast hf rfl) rfl ?_ | refine WS.near rfl (o_loadH (hload_of bget_badd rfl)) rfl ?_ | refine WS.near rfl (o_iaddrM (n := n) (by omega) (by omega)) rfl ?_ | refine WS.near rfl (o_iaddrM (n := n + 1) (by omega) (by omega)) rfl ?_ | refine WS.near rfl (o_iaddrM (n := m) rfl (by omega)) rfl ?_ | refine WS.near rfl (o_loadH (hload_of (bget_badd_lt hjo) hva)) rfl ?_ | refine WS.near' rfl (o_loadHN (bget_badd_lt hjo) hlen) rfl (congrArg V.agg hnc) ?_ | refine WS.near rfl (kid_len hk _) rfl ?_ | refine WS.near rfl (o_litS (cs := zN) rfl) rfl ?_ | refine WS.near rfl (app_kid hf (Kid.badd (Kid.badd hk)) bget_badd rfl hm') rfl ?_ | refine WS.near rfl (o_storeO hf (hj1 _ _ _) rfl hl8) rfl ?_ | refine WS.near rfl (o_storeR hf (hj2 _ _ _ _ _ _) rfl (by rw [List.length_append, hrl]; show (0 + m) * 10 + 10 ≤ m * 10 + 10; omega)) rfl ?_
        | refine WS.near rfl (o_sliceM (m := n + 1) (hj3 _ _ _ _ _ _ _ _ _) (by omega) (by rw [hsp]; omega)) rfl ?_ | refine W.seq ?_ | refine W.region ?_ | refine WS.nil ?_ | refine W.ret ?_ | refine W.yes rfl rfl ?_ | refine WS.near rfl o_mov rfl ?_ | refine WS.near rfl o_lenM rfl ?_ | refine WS.near rfl o_faddr rfl ?_ | refine WS.near rfl (o_sub (by omega) (by omega)) rfl ?_ | fail)
    exact ⟨_, rfl, rfl, [.bool true], zN, congrArg (hp h) (cl_end2 hjl hk.lt hk.len)⟩
end Go.Proofs.YtfbikhkmamdjmaaDoor.CodesK
