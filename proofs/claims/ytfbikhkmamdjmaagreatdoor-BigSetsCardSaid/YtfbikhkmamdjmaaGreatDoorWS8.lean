/- BigSets: the tree that is made, and how it reads. -/
import Derived.Test.YtfbikhkmamdjmaaGreatDoorWS1
namespace Go.Proofs.YtfbikhkmamdjmaaGreatDoor.CodesS
open Go Go.Ab
set_option maxHeartbeats 4000000
set_option maxRecDepth 100000

def and1023 (a : Int) : Nat := (BitVec.ofInt 64 a &&& BitVec.ofInt 64 1023).toNat
theorem o_andF {a : Int} {h0 : Heap} : Does (.bin .and (.v (.int .i64 a)) (.v (.int .i64 1023))) h0 (.int .i64 ((and1023 a : Nat) : Int)) h0 := by
  have e0 : (BitVec.ofInt 64 1023).toNat = 1023 := by decide
  have h1 : (BitVec.ofInt 64 a &&& BitVec.ofInt 64 1023).toNat ≤ 1023 := by
    rw [BitVec.toNat_and, e0]
    exact Nat.and_le_right
  refine ⟨?_⟩
  rw [op1v]
  have h2 : IntKind.wrap .i64 ((BitVec.ofInt 64 a &&& BitVec.ofInt 64 1023).toNat : Nat) = ((BitVec.ofInt 64 a &&& BitVec.ofInt 64 1023).toNat : Nat) := wrap_i64 (by omega) (by omega)
  show (((evS (Op.intBits .and .i64 a 1023)).bind ofLit).map fun v => (v, h0)) = _
  show (((evS (pure (Value.int .i64 (IntKind.wrap .i64 ((BitVec.ofInt 64 a &&& BitVec.ofInt 64 1023).toNat : Nat))) : Sem Value)).bind ofLit).map fun v => (v, h0)) = _
  rw [h2]
  rfl
def exprB (q : Nat) : List V := [i64 2, i64 0, .str [97], .nilsl, i64 0, i64 (q : Nat), .str [], .nilsl]
def kidC (h : Heap) (j : Nat) : List V := [i64 8, i64 0, i64 0, .str [97], i64 6, i64 0, .str [], .msl (h.next + j) 4 0 2 none, .nilsl, .nilsl]
def topB (v : V) : List V := [i64 0, i64 0, i64 0, .str [], i64 0, i64 0, .str [], .nilsl, v, .nilsl]
def rowB (h : Heap) : List Nat → List V
  | [] => []
  | j :: r => kidC h j ++ rowB h r
theorem rowB_snoc (h : Heap) : ∀ (js : List Nat) (j : Nat), rowB h (js ++ [j]) = rowB h js ++ kidC h j
  | [], j => by simp [rowB]
  | k :: r, j => by simp only [List.cons_append, rowB, rowB_snoc h r j, List.append_assoc]
theorem rowB_len (h : Heap) : ∀ js : List Nat, (rowB h js).length = js.length * 10
  | [] => rfl
  | k :: r => by simp only [rowB, List.length_append, rowB_len h r, List.length_cons]; show 10 + r.length * 10 = _; omega
theorem rowB_elems (h : Heap) : ∀ js : List Nat, elems 10 js.length (rowB h js) = js.map fun j => V.agg (kidC h j)
  | [] => rfl
  | k :: r => by
    have h1 : (kidC h k ++ rowB h r).take 10 = kidC h k := List.take_append_of_le_length (l₁ := kidC h k) (Nat.le_refl 10) ▸ (List.take_of_length_le (l := kidC h k) (Nat.le_refl 10))
    have h2 : (kidC h k ++ rowB h r).drop 10 = rowB h r := by
      rw [List.drop_append_of_le_length (Nat.le_refl 10)]
      rfl
    simp only [List.length_cons, elems, rowB, h1, h2, rowB_elems h r, List.map_cons]
    rfl
theorem kids_low : ∀ qs : List Nat, V.lows 0 (qs.map kidV) = true
  | [] => rfl
  | q :: r => by
    simp only [List.map_cons, V.lows, kids_low r, Bool.and_true]
    rfl
theorem frz_kids {h : Heap} {bs : List (Option (List V))} : ∀ (js qs : List Nat), js.length = qs.length → (∀ m, m < js.length → bget bs (js.getD m 0) = some (exprB (qs.getD m 0))) → ∀ f, freezes (hp h bs) 0 (f + 40 + js.length) (js.map fun j => V.agg (kidC h j)) = some (qs.map kidV)
  | [], [], _, _, f => frzs_nil
  | [], _ :: _, h1, _, _ => by cases h1
  | _ :: _, [], h1, _, _ => by cases h1
  | j :: js, q :: qs, h1, h2, f => by
    have ih := frz_kids (h := h) (bs := bs) js qs (by simpa using h1) (fun m hm => by
      have := h2 (m + 1) (by simp only [List.length_cons]; omega)
      simpa using this) f
    have h0 : bget bs j = some (exprB q) := by
      have := h2 0 (by simp)
      simpa using this
    have hk : ∀ k, Go.Ab.freeze (hp h bs) 0 (k + 30) (.msl (h.next + j) 4 0 2 none) = some (.fsl [nameX, numX (q : Nat)] none) := fun k => by
      refine frz_msl (fuel := k + 29) (es := [nameX, numX (q : Nat)]) h0 (by decide) (by show 2 * 4 ≤ 8; decide) ?_ rfl
      show freezes (hp h bs) 0 (k + 9 + 20) [.agg [i64 2, i64 0, .str [97], .nilsl], .agg [i64 0, i64 (q : Nat), .str [], .nilsl]] = _
      simp only [frzs_cons, frzs_nil, i64, frz_agg, frz_int, frz_str, frz_nilsl, Option.bind_some, Option.map_some]
      rfl
    simp only [List.map_cons, List.length_cons]
    rw [show f + 40 + (js.length + 1) = (f + 40 + js.length) + 1 by omega, frzs_cons, ih]
    have h3 : Go.Ab.freeze (hp h bs) 0 (f + 40 + js.length) (.agg (kidC h j)) = some (kidV q) := by
      rw [show f + 40 + js.length = (f + js.length) + 40 by omega]
      generalize f + js.length = g
      simp only [kidC, frz_agg, frzs_cons, frzs_nil, i64, frz_int, frz_str, frz_nilsl, hk, Option.bind_some, Option.map_some]
      rfl
    rw [h3]
    rfl
/-- the sums, one by one -/
def sumF : Int → List Nat → Nat → Int
  | n, _, 0 => n
  | n, [], _ + 1 => n
  | n, m :: r, i + 1 => sumF (addM n (m : Nat)) r i
theorem sumF_succ : ∀ (q : List Nat) (n : Int) (i : Nat), i < q.length → sumF n q (i + 1) = addM (sumF n q i) (q.getD i 0 : Nat)
  | [], _, _, h => by cases h
  | m :: r, n, 0, _ => by simp [sumF]
  | m :: r, n, i + 1, h => by
    have := sumF_succ r (addM n (m : Nat)) i (by simpa using h)
    simpa [sumF] using this
theorem sets_get : ∀ (q : List Nat) (n : Int) (i : Nat), i < q.length → (sets n q)[i]? = some (deedV (sumF n q (i + 1)))
  | [], _, _, h => by cases h
  | m :: r, n, 0, _ => by simp [sets, sumF]
  | m :: r, n, i + 1, h => by
    have := sets_get r (addM n (m : Nat)) i (by simpa using h)
    simpa [sets, sumF] using this
theorem sets_len : ∀ (q : List Nat) (n : Int), (sets n q).length = q.length
  | [], _ => rfl
  | m :: r, n => by simp [sets, sets_len r]
end Go.Proofs.YtfbikhkmamdjmaaGreatDoor.CodesS
