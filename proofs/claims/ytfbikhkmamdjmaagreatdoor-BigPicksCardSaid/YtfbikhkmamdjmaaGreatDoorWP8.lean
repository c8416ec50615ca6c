/- A pick: the lists that the law makes. -/
import Derived.Test.YtfbikhkmamdjmaaGreatDoorWP7
import Derived.Test.YtfbikhkmamdjmaaGreatDoorWA53
namespace Go.Proofs.YtfbikhkmamdjmaaGreatDoor.CodesS
open Go Go.Ab
set_option maxRecDepth 100000
set_option maxHeartbeats 4000000
def kC (i : Nat) : List V := [i64 9, i64 0, i64 0, .str (nameP i), i64 0, i64 0, .str [], .nilsl, .nilsl, .nilsl]
def wC (i : Nat) : List V := [i64 2, i64 0, .str (nameP i), .nilsl]
def bC (ws : List Int) (i : Nat) : List V := [.str (nameP i), i64 0, i64 (ws.getD i 0), i64 0, .str [], .cpx .f64 0 0]
def oC (i : Nat) : List V := [.str (nameP i), i64 3]
def tC (k w : V) : List V := [i64 11, i64 0, i64 0, .str [], i64 0, i64 0, .str [], .nilsl, k, w]
def eC (b o : V) : List V := [i64 0, i64 0, i64 0, b, o, .nilsl]
def rowsOf (f : Nat → List V) (n : Nat) : List V := (List.range n).flatMap f
theorem rows_succ (f : Nat → List V) (n : Nat) : rowsOf f (n + 1) = rowsOf f n ++ f n := by simp [rowsOf, List.range_succ]
theorem rows_len {f : Nat → List V} {sz : Nat} (hf : ∀ i, (f i).length = sz) : ∀ n, (rowsOf f n).length = n * sz
  | 0 => by simp [rowsOf]
  | n + 1 => by rw [rows_succ, List.length_append, rows_len hf n, hf, Nat.add_mul, Nat.one_mul]
theorem rows_at {f : Nat → List V} {sz : Nat} (hf : ∀ i, (f i).length = sz) {a c : Nat} (hc : c < sz) : ∀ n, a < n → (rowsOf f n)[a * sz + c]? = (f a)[c]?
  | 0, h => by omega
  | n + 1, h => by
    rw [rows_succ]
    have hl := rows_len hf n
    by_cases hn : a < n
    · have : a * sz + c < n * sz := by
        have h1 : (a + 1) * sz ≤ n * sz := Nat.mul_le_mul_right sz hn
        rw [Nat.add_mul, Nat.one_mul] at h1
        omega
      rw [List.getElem?_append_left (by omega), rows_at hf hc n hn]
    · obtain rfl : a = n := by omega
      rw [List.getElem?_append_right (by omega), hl, Nat.add_sub_cancel_left]
theorem cell_at {f : Nat → List V} {sz n a c : Nat} {l : List V} {v : V} (hf : ∀ i, (f i).length = sz) (hl : l.take (n * sz) = rowsOf f n) (ha : a < n) (hc : c < sz) (hv : (f a)[c]? = some v) : (l.drop (a * sz + c)).head? = some v := by
  have h1 : a * sz + c < n * sz := by
    have h1 : (a + 1) * sz ≤ n * sz := Nat.mul_le_mul_right sz ha
    rw [Nat.add_mul, Nat.one_mul] at h1
    omega
  rw [List.head?_drop, ← hv, ← rows_at hf hc n ha, ← hl, List.getElem?_take_of_lt h1]
theorem upP_eq (f : Nat → V) : ∀ (n i : Nat), upP f n i = (List.range n).map fun j => f (i + j)
  | 0, _ => rfl
  | n + 1, i => by
    rw [upP, upP_eq f n (i + 1), List.range_succ_eq_map, List.map_cons, List.map_map]
    congr 1
    exact List.map_congr_left fun j _ => by show f (i + 1 + j) = f (i + (j + 1)); rw [show i + 1 + j = i + (j + 1) by omega]
theorem bdP_eq : ∀ (ws : List Int) (i : Nat), bdP ws i = (List.range ws.length).map fun j => V.agg [.str (nameP (i + j)), i64 0, i64 (ws.getD j 0), i64 0, .str [], .cpx .f64 0 0]
  | [], _ => rfl
  | w :: r, i => by
    rw [bdP, bdP_eq r (i + 1), List.length_cons, List.range_succ_eq_map, List.map_cons, List.map_map]
    congr 1
    refine List.map_congr_left fun j _ => ?_
    show V.agg [.str (nameP (i + 1 + j)), _, _, _, _, _] = V.agg [.str (nameP (i + (j + 1))), i64 0, i64 ((w :: r).getD (j + 1) 0), _, _, _]
    rw [show i + 1 + j = i + (j + 1) by omega]
    rfl
theorem upP_len (f : Nat → V) (n i : Nat) : (upP f n i).length = n := by rw [upP_eq]; simp
theorem slV_ne {l : List V} (h : l ≠ []) : slV l = .fsl l none := by
  cases l with
  | nil => exact absurd rfl h
  | cons a r => rfl
section
variable {h : Heap} {bs : List (Option (List V))}
/-- a list that was made, as it reads -/
theorem frz_rows {f : Nat → List V} {sz n : Nat} {v : V} (hs : IsSl h bs sz v n (rowsOf f n)) (hz : 1 < sz) (hsz : sz < 20) (hn : 0 < n) (hn8 : n ≤ 8) (hf : ∀ i, (f i).length = sz) (hst : ∀ i, ∀ u ∈ f i, V.still u = true) :
    ∀ k, 60 < k → Go.Ab.freeze (hp h bs) 0 k v = some (.fsl ((List.range n).map fun i => V.agg (f i)) none) := fun k hk => by
  have hl : (List.range n).length = n := List.length_range
  have h1 := frz_made (l := List.range n) (k := k) f (by rw [hl]; exact hs) hz hf (by rw [hl]; omega) (fun x _ => hst x) (fun h => by have := congrArg List.length h; rw [hl] at this; simp at this; omega)
  rw [h1, slV_ne (fun h => by have := congrArg List.length h; simp at this; omega)]
theorem frz3 {H : Heap} {a b c a' b' c' : V} (ha : ∀ k, 100 < k → Go.Ab.freeze H 0 k a = some a') (hb : ∀ k, 100 < k → Go.Ab.freeze H 0 k b = some b') (hc : ∀ k, 100 < k → Go.Ab.freeze H 0 k c = some c') : freezes H 0 fuelF [a, b, c] = some [a', b', c'] := by
  have key : ∀ f, freezes H 0 (f + 200) [a, b, c] = some [a', b', c'] := fun f => by
    have h1 := ha (f + 199) (by omega)
    have h2 := hb (f + 198) (by omega)
    have h3 := hc (f + 197) (by omega)
    simp only [frzs_cons, frzs_nil, h1, h2, h3, Option.bind_some, Option.map_some]
  exact key 999999999999800
theorem frz_top {H : Heap} {k w k' w' : V} (hk : ∀ j, 60 < j → Go.Ab.freeze H 0 j k = some k') (hw : ∀ j, 60 < j → Go.Ab.freeze H 0 j w = some w') : ∀ j, 100 < j → Go.Ab.freeze H 0 j (.agg (tC k w)) = some (.agg (tC k' w')) := fun j hj => by
  obtain ⟨f, rfl⟩ : ∃ f, j = f + 90 := ⟨j - 90, by omega⟩
  have h1 := hk (f + 80) (by omega)
  have h2 := hw (f + 79) (by omega)
  simp only [tC, i64, frz_agg, frzs_cons, frzs_nil, frz_int, frz_str, frz_nilsl, h1, h2, Option.bind_some, Option.map_some]
theorem frz_env {H : Heap} {b o b' o' : V} (hb : ∀ j, 60 < j → Go.Ab.freeze H 0 j b = some b') (ho : ∀ j, 60 < j → Go.Ab.freeze H 0 j o = some o') : ∀ j, 100 < j → Go.Ab.freeze H 0 j (.agg (eC b o)) = some (.agg (eC b' o')) := fun j hj => by
  obtain ⟨f, rfl⟩ : ∃ f, j = f + 90 := ⟨j - 90, by omega⟩
  have h1 := hb (f + 85) (by omega)
  have h2 := ho (f + 84) (by omega)
  simp only [eC, i64, frz_agg, frzs_cons, frzs_nil, frz_int, frz_nilsl, h1, h2, Option.bind_some, Option.map_some]
theorem o_sliceI {m : List Int} {n : Nat} {H : Heap} (hn : n ≤ m.length) : Does (.slice 1 (.v (.fsl (m.map i64) none)) none (some (.v (.int .i64 (n : Nat)))) none) H (.fsl ((m.take n).map i64) none) H := by
  refine ⟨?_⟩; rw [op1v]
  have hz : headSz 1 (m.map i64) = true := by cases m <;> rfl
  simp [op1, ev, optIdx, idx_nat, hn, hz, List.map_take]
theorem o_lenSt {n t : Nat} {H : Heap} : Does (.len 1 (.v (stP n t))) H (.int .i64 ((n + 1 : Nat) : Int)) H := by
  have := o_lenF (es := i64 (t + 1 : Nat) :: upP (bitP t) n 0) (cap := none) (h := H)
  rw [List.length_cons, upP_len] at this
  exact this
theorem o_eqlY {k : IntKind} {a b : Int} {H : Heap} (e : a = b) : Does (.bin .eql (.v (.int k a)) (.v (.int k b))) H (.bool true) H := by subst e; refine ⟨?_⟩; rw [op1v]; simp [op1, ev, bin, intBin]
theorem o_eqlX {k : IntKind} {a b : Int} {H : Heap} (e : a ≠ b) : Does (.bin .eql (.v (.int k a)) (.v (.int k b))) H (.bool false) H := by refine ⟨?_⟩; rw [op1v]; simp [op1, ev, bin, intBin, e]
theorem o_neqX {k : IntKind} {a b : Int} {H : Heap} (e : a = b) : Does (.bin .neq (.v (.int k a)) (.v (.int k b))) H (.bool false) H := by subst e; refine ⟨?_⟩; rw [op1v]; simp [op1, ev, bin, intBin]
theorem o_sneqX {s : List Nat} {H : Heap} : Does (.bin .neq (.v (.str s)) (.v (.str s))) H (.bool false) H := by refine ⟨?_⟩; rw [op1v]; simp [op1, ev, bin]
end
theorem st_of {l : List V} (h : l.all V.still = true) : ∀ u ∈ l, V.still u = true := fun u hu => List.all_eq_true.1 h u hu
/-- a slot that is not empty -/
theorem sl_some {h0 : Heap} {bs : List (Option (List V))} {sz n : Nat} {v : V} {row : List V} (hs : IsSl h0 bs sz v n row) (hn : 0 < n) : ∃ k c, v = .msl (h0.next + k) sz 0 n none ∧ bget bs k = some c ∧ n * sz ≤ c.length ∧ c.take (n * sz) = row := by
  obtain ⟨_, ⟨_, h0⟩ | ⟨k, c, e, h1, h2, h3⟩⟩ := hs
  · omega
  · exact ⟨k, c, e, h1, h2, h3⟩
section
variable {h : Heap} {bs : List (Option (List V))} {n : Nat} {v : V} {k : Nat}
theorem frz_k (hs : IsSl h bs 10 v n (rowsOf kC n)) (hn : 0 < n) (hn8 : n ≤ 8) (hk : 60 < k) : Go.Ab.freeze (hp h bs) 0 k v = some (.fsl (upP doP n 0) none) := by
  rw [frz_rows hs (by decide) (by decide) hn hn8 (fun _ => rfl) (fun i => st_of rfl) k hk, upP_eq]
  exact congrArg (fun z => some (V.fsl z none)) (List.map_congr_left fun j _ => by rw [Nat.zero_add]; rfl)
theorem frz_w (hs : IsSl h bs 4 v n (rowsOf wC n)) (hn : 0 < n) (hn8 : n ≤ 8) (hk : 60 < k) : Go.Ab.freeze (hp h bs) 0 k v = some (.fsl (upP wtP n 0) none) := by
  rw [frz_rows hs (by decide) (by decide) hn hn8 (fun _ => rfl) (fun i => st_of rfl) k hk, upP_eq]
  exact congrArg (fun z => some (V.fsl z none)) (List.map_congr_left fun j _ => by rw [Nat.zero_add]; rfl)
theorem frz_o (hs : IsSl h bs 2 v n (rowsOf oC n)) (hn : 0 < n) (hn8 : n ≤ 8) (hk : 60 < k) : Go.Ab.freeze (hp h bs) 0 k v = some (.fsl (upP outP n 0) none) := by
  rw [frz_rows hs (by decide) (by decide) hn hn8 (fun _ => rfl) (fun i => st_of rfl) k hk, upP_eq]
  exact congrArg (fun z => some (V.fsl z none)) (List.map_congr_left fun j _ => by rw [Nat.zero_add]; rfl)
theorem frz_b {m : List Int} (hs : IsSl h bs 6 v n (rowsOf (bC m) n)) (hn : 0 < n) (hn8 : n ≤ 8) (hm : n ≤ m.length) (hk : 60 < k) : Go.Ab.freeze (hp h bs) 0 k v = some (.fsl (bdP (m.take n) 0) none) := by
  rw [frz_rows hs (by decide) (by decide) hn hn8 (fun _ => rfl) (fun i => st_of rfl) k hk, bdP_eq, List.length_take, Nat.min_eq_left hm]
  refine congrArg (fun z => some (V.fsl z none)) (List.map_congr_left fun j hj => ?_)
  have hjn : j < n := List.mem_range.1 hj
  have e : (m.take n).getD j 0 = m.getD j 0 := by simp only [List.getD, List.getElem?_take_of_lt hjn]
  rw [Nat.zero_add, e]
  rfl
end
theorem Slots.app2 {h0 : Heap} (hf : h0.Fine) {bs : List (Option (List V))} {F : Nat → Prop} {A B : List Slot} {s : Slot} (hs : Slots h0 bs F (A ++ s :: B)) {c : List V} {bytes : Nat} (hc : c.length = s.sz) (hz : 0 < s.sz) (hb : (s.n + 1) * bytes ≤ maxRow) :
    ∃ k bs', Does (.app s.sz bytes (.v s.v) (.v (.msl (h0.next + bs.length) s.sz 0 1 none))) (hp h0 (Go.Ab.badd bs c)) (.msl (h0.next + k) s.sz 0 (s.n + 1) none) (hp h0 bs') ∧ Slots h0 bs' F (A ++ ⟨.msl (h0.next + k) s.sz 0 (s.n + 1) none, s.sz, s.n + 1, s.row ++ c⟩ :: B) ∧ (∀ j l, F j → bget bs j = some l → bget bs' j = some l) := by
  obtain ⟨v', bs', hd, hS, hk⟩ := hs.app hf hc hz hb
  obtain ⟨_, ⟨_, h0⟩ | ⟨k, l, e, _⟩⟩ := hS.sl ⟨v', s.sz, s.n + 1, s.row ++ c⟩ (by simp)
  · simp at h0
  · simp only at e
    subst e
    exact ⟨k, bs', hd, hS, hk⟩
theorem WS.putV {D : OCtx} {cap : Nat} {m : Kn} {h0 : Heap} {bs : List (Option (List V))} {K : Kn → Heap → Prop} {op : AOp} {d : Option Nat} {L : List Step} {n k off : Nat} {x : V} {l : List V} (e : mapO (kop m) op = some (.store n (.v (.mptr (h0.next + k) off)) (.v x))) (hf : h0.Fine) (hb : bget bs k = some l)
    (hx : (Nat.beq (lenL x.cells) n && Nat.ble (off + n) (lenL l)) = true) (hop : (op.far || op.isRecover || !dOk cap d) = false) (w : ∀ bs2, bs2 = bput bs k off n x.cells → WS D cap L (kput m d .undef) (hp h0 bs2) K) : WS D cap (⟨d, op, none, []⟩ :: L) m (hp h0 bs) K :=
  WS.near e (o_storeH hf hb hx) hop (w _ rfl)
end Go.Proofs.YtfbikhkmamdjmaaGreatDoor.CodesS
