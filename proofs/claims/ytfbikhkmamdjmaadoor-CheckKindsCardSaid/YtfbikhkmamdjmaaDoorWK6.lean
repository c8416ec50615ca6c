/- The kinds of expressions: what the sign makes of them. -/
import Derived.Test.YtfbikhkmamdjmaaDoorWK5
import Derived.Test.YtfbikhkmamdjmaaDoorWK4
namespace Go.Proofs.YtfbikhkmamdjmaaDoor.CodesK
open Go Go.Ab
set_option maxHeartbeats 4000000
set_option maxRecDepth 100000

/-- what a sign makes of kinds, and whether it takes them -/
def jn (k a b : Int) : Int × Bool :=
  if k = 6 ∨ k = 7 then (a, decide ((a = 0 ∧ b = 0) ∨ (a = 4 ∧ b = 4)))
  else if k = 8 ∨ k = 9 then (0, decide (a = 0 ∧ b = 0))
  else if k = 10 then (1, decide (a = b))
  else if k = 11 then (1, decide (a = 0 ∧ b = 0))
  else if k = 12 ∨ k = 13 then (1, decide (a = 1 ∧ b = 1))
  else if k = 14 then (1, decide (a = 1))
  else if k = 15 then (4, decide (a = 0 ∧ b = 0))
  else if k = 16 ∨ k = 17 then (0, decide (a = 4))
  else if k = 18 then (4, decide (a = 4))
  else (0, decide (a = 4 ∧ b = 4))
def jnV (k a b : Int) : V := .tup [i64 (jn k a b).1, .bool (jn k a b).2]
def uptoB (p : Nat → Bool) : Nat → Bool
  | 0 => true
  | k + 1 => match p k with
    | true => uptoB p k
    | false => false
theorem uptoB_spec {p : Nat → Bool} : ∀ {n : Nat}, uptoB p n = true → ∀ i, i < n → p i = true
  | n + 1, h, i, hi => by
    unfold uptoB at h
    split at h
    · rename_i hp
      rcases Nat.lt_succ_iff_lt_or_eq.1 hi with h1 | rfl
      · exact uptoB_spec h i h1
      · exact hp
    · cases h
def isO (u : V) : Option Out → Bool
  | some (.ret v) => V.beq v u
  | _ => false
theorem isO_spec {u : V} {q : Option Out} (h : isO u q = true) : q = some (.ret u) := by
  unfold isO at h
  split at h
  · rename_i v
    have := beq_sound _ _ h
    subst this
    rfl
  · cases h
noncomputable def jTwo (k a b : Nat) : Bool := isO (jnV (k : Nat) (a : Nat) (b : Nat)) (out1 (callFast D1 100000 79 [i64 (k : Nat), .fsl [i64 (a : Nat), i64 (b : Nat)] none] Heap.empty))
noncomputable def jOne (k a : Nat) : Bool := isO (jnV (k : Nat) (a : Nat) 0) (out1 (callFast D1 100000 79 [i64 (k : Nat), .fsl [i64 (a : Nat)] none] Heap.empty))
theorem jTwo_all : uptoB (fun k => uptoB (fun a => uptoB (jTwo (k + 6) a) 5) 5) 8 = true := by kernel_rfl
theorem jTwo_all2 : uptoB (fun a => uptoB (jTwo 15 a) 5) 5 = true := by kernel_rfl
theorem jTwo_all3 : uptoB (fun a => uptoB (jTwo 19 a) 5) 5 = true := by kernel_rfl
theorem jOne_all : uptoB (fun k => uptoB (jOne (k + 16)) 5) 3 = true := by kernel_rfl
theorem jOne_all2 : uptoB (jOne 14) 5 = true := by kernel_rfl
theorem joined_w (k : Int) (of : List Int) (h1 : (of.length : Int) = arity k) (h2 : 0 < of.length) (h3 : ∀ z ∈ of, 0 ≤ z ∧ z ≤ 4) : CallW D1 79 [i64 k, .fsl (of.map i64) none] Heap.empty fun v _ => v = jnV k (of.getD 0 0) (of.getD 1 0) := by
  have hk := arity_eq k
  match of, h1, h2, h3 with
  | [a], h1, _, h3 =>
    have ha := h3 a (by simp)
    obtain ⟨m, rfl⟩ : ∃ m : Nat, a = m := ⟨a.toNat, by omega⟩
    have hm : m < 5 := by omega
    have h4 : k = 14 ∨ (16 ≤ k ∧ k ≤ 18) := by
      rw [hk] at h1
      simp only [List.length_cons, List.length_nil] at h1
      by_cases h5 : (6 ≤ k ∧ k ≤ 13) ∨ k = 15 ∨ k = 19
      · rw [if_pos h5] at h1; omega
      · rw [if_neg h5] at h1
        by_cases h6 : k = 14 ∨ (16 ≤ k ∧ k ≤ 18)
        · exact h6
        · rw [if_neg h6] at h1; omega
    rcases h4 with rfl | h4
    · exact evalW (isO_spec (uptoB_spec jOne_all2 m hm))
    · obtain ⟨q, rfl⟩ : ∃ q : Nat, k = (q + 16 : Nat) := ⟨(k - 16).toNat, by omega⟩
      exact evalW (isO_spec (uptoB_spec (uptoB_spec jOne_all q (by omega)) m hm))
  | [a, b], h1, _, h3 =>
    have ha := h3 a (by simp)
    have hb := h3 b (by simp)
    obtain ⟨m, rfl⟩ : ∃ m : Nat, a = m := ⟨a.toNat, by omega⟩
    obtain ⟨n, rfl⟩ : ∃ n : Nat, b = n := ⟨b.toNat, by omega⟩
    have h4 : (6 ≤ k ∧ k ≤ 13) ∨ k = 15 ∨ k = 19 := by
      rw [hk] at h1
      simp only [List.length_cons, List.length_nil] at h1
      by_cases h5 : (6 ≤ k ∧ k ≤ 13) ∨ k = 15 ∨ k = 19
      · exact h5
      · rw [if_neg h5] at h1
        split at h1 <;> omega
    rcases h4 with h4 | rfl | rfl
    · obtain ⟨q, rfl⟩ : ∃ q : Nat, k = (q + 6 : Nat) := ⟨(k - 6).toNat, by omega⟩
      exact evalW (isO_spec (uptoB_spec (uptoB_spec (uptoB_spec jTwo_all q (by omega)) m (by omega)) n (by omega)))
    · exact evalW (isO_spec (uptoB_spec (uptoB_spec jTwo_all2 m (by omega)) n (by omega)))
    · exact evalW (isO_spec (uptoB_spec (uptoB_spec jTwo_all3 m (by omega)) n (by omega)))
  | a :: b :: c :: r, h1, _, _ =>
    have := arity_le k
    simp only [List.length_cons] at h1
    omega
def pl2 (f : Nat) : Bool := Nat.beq f 10 || (Nat.beq f 11 || (Nat.beq f 37 || (Nat.beq f 39 || (Nat.beq f 47 || (Nat.beq f 78 || Nat.beq f 79)))))
noncomputable def D2 : OCtx := layer D1 pl2 (fun _ => false)
theorem frz_fz {u : V} {rows : List V} (hu : IsFz u rows) {h : Heap} {n k : Nat} : Go.Ab.freeze h n (k + 1) u = some u := by
  rcases hu with ⟨rfl, _⟩ | ⟨rfl, _⟩ | ⟨c, rfl⟩ <;> rfl
theorem frz_x {x : EX} (hx : x.Ok) {h : Heap} {k : Nat} : Go.Ab.freeze h 0 (k + 10) x.v = some x.v := by
  show (freezes h 0 (k + 9) x.cells).map V.agg = _
  simp only [EX.cells, i64, frzs_cons, frzs_nil, frz_int, frz_str, frz_fz hx.fz, Option.bind_some, Option.map_some]
  rfl
theorem alive2 : PuF D2 10 [] (.bool true) := PuF.up rfl (fun _ => rfl) rfl alive_pu
theorem big2 (x : EX) (hx : x.Ok) : PuF D2 11 [x.v, i64 0] (.bool (bigF 46 x)) := by
  have h1 := big_pu 46 x (by omega) hx
  rw [show (46 - ((46 : Nat) : Int)) = 0 by omega] at h1
  refine PuF.up (p := [x.v, i64 0]) rfl (fun h => ?_) rfl h1
  show freezes h 0 (99980 + 20) _ = _
  rw [frzs_cons, frz_x hx (k := 99989)]
  rfl
theorem right2 (x : EX) (hx : x.Ok) : PuF D2 37 [x.v] (.bool (rightF 40 x)) := by
  refine PuF.up (p := [x.v]) rfl (fun h => ?_) rfl (right_pu x hx)
  show freezes h 0 (99980 + 20) _ = _
  rw [frzs_cons, frz_x hx (k := 99989)]
  rfl
theorem rright2 (x : EX) (hx : x.Ok) (hb : bigF 46 x = false) : PuF D2 39 [x.v] (.bool (rightF 40 x)) := by
  refine PuF.up (p := [x.v]) rfl (fun h => ?_) rfl (rightR_pu x hx hb)
  show freezes h 0 (99980 + 20) _ = _
  rw [frzs_cons, frz_x hx (k := 99989)]
  rfl
theorem findKey2 (u : V) (l : List KY) (hu : IsFz u (l.map KY.v)) (hl : l.length ≤ 30) (s : List Nat) : PuF D2 47 [u, .str s] (i64 (firstK s 0 l)) := by
  refine PuF.up (p := [u, .str s]) rfl (fun h => ?_) rfl (findKey_pu u l hu hl s)
  show freezes h 0 (99980 + 20) _ = _
  rw [frzs_cons, frz_fz hu]
  rfl
theorem plain2 (x : EX) (hx : x.Ok) (u : V) (l : List KY) (hu : IsFz u (l.map KY.v)) (hl : l.length ≤ 30) : PuF D2 78 [x.v, u] (.tup [i64 (plainF x l).1, i64 (plainF x l).2]) := by
  refine PuF.up (p := [x.v, u]) rfl (fun h => ?_) rfl (plain_pu x u l hu hl)
  show freezes h 0 (99980 + 20) _ = _
  rw [frzs_cons, frz_x hx (k := 99989), frzs_cons, frz_fz hu]
  rfl
end Go.Proofs.YtfbikhkmamdjmaaDoor.CodesK
