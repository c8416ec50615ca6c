/- The lexer's tokens, told plainly; how deep expressions may stand in one another. -/
import Derived.Test.YtfbikhkmamdjmaaDoorWXM
import Derived.Test.YtfbikhkmamdjmaaDoorWX9
namespace Go.Proofs.YtfbikhkmamdjmaaDoor.CodesX
open Go Go.Ab
set_option maxHeartbeats 1600000
set_option maxRecDepth 20000
/-- a list, evaluated first -/
noncomputable def heldL {α : Type} (l : List Nat) (k : List Nat → α) : α := List.rec (motive := fun _ => (List Nat → α) → α) (fun k => k []) (fun a _ ih k => heldN a fun a => ih fun r => k (a :: r)) l k
theorem heldL_eq {α : Type} : ∀ (l : List Nat) (k : List Nat → α), heldL l k = k l
  | [], k => rfl
  | a :: r, k => by
    show heldN a (fun a => heldL r fun r => k (a :: r)) = _
    rw [heldN_eq, heldL_eq r]
noncomputable def lexT : Nat → List Nat → Nat → Option (List Tk)
  | 0, _, _ => none
  | f + 1, s, at0 => match skC false s at0 with
    | (p, r) => heldN p fun p => (match r with
      | [] => some [⟨0, 0, p, []⟩]
      | c :: t => (match oneC (c :: t) with
        | ⟨k, n, x, l, true⟩ => heldN k.toNat fun k => heldN n.toNat fun n => heldL x fun x => heldN l fun l => (match lexT f ((c :: t).drop l) (p + l) with
          | some ts => some (⟨k, n, p, x⟩ :: ts)
          | none => none)
        | ⟨_, _, _, _, false⟩ => none))
theorem oneC_nn (s : List Nat) : 0 ≤ (oneC s).kind ∧ 0 ≤ (oneC s).n := by
  unfold oneC
  split
  · rw [heldN_eq]; split <;> exact ⟨Int.natCast_nonneg _, Int.natCast_nonneg 0⟩
  · split
    · rw [heldN_eq]
      split <;> exact ⟨Int.natCast_nonneg 3, Int.natCast_nonneg _⟩
    · split <;> exact ⟨Int.natCast_nonneg 4, Int.natCast_nonneg 0⟩
theorem lexT_ok : ∀ (f : Nat) (s : List Nat) (p : Nat) (acc : List V) (ts : List Tk), lexT f s p = some ts → ∃ q : Nat, toksC f s p acc = .tup [.fsl (acc.reverse ++ ts.map Tk.v) none, .int .i64 (q : Int), .int .i64 0]
  | 0, _, _, _, _, h => by cases h
  | f + 1, s, p, acc, ts, h => by
    unfold lexT at h
    unfold toksC
    generalize skC false s p = pr at h ⊢
    obtain ⟨p', r⟩ := pr
    simp only [heldN_eq] at h ⊢
    cases r with
    | nil =>
      simp only at h ⊢
      cases h
      exact ⟨p', by rw [revV_eq]; simp [Tk.v, Tk.cells, endTok]⟩
    | cons c t =>
      simp only at h ⊢
      have hnn := oneC_nn (c :: t)
      generalize oneC (c :: t) = T at h hnn ⊢
      obtain ⟨k, n, x, l, ok⟩ := T
      cases ok with
      | false => cases h
      | true =>
        simp only [heldL_eq] at h hnn ⊢
        cases hr : lexT f ((c :: t).drop l) (p' + l) with
        | none => rw [hr] at h; cases h
        | some ts' =>
          rw [hr] at h
          cases h
          obtain ⟨q, hq⟩ := lexT_ok f ((c :: t).drop l) (p' + l) (.agg [.int .i64 k, .int .i64 n, .int .i64 (p' : Int), .str x] :: acc) ts' hr
          refine ⟨q, hq.trans ?_⟩
          have h1 : (k.toNat : Int) = k := Int.toNat_of_nonneg hnn.1
          have h2 : (n.toNat : Int) = n := Int.toNat_of_nonneg hnn.2
          simp only [List.reverse_cons, List.append_assoc, List.cons_append, List.nil_append, List.map_cons, Tk.v, Tk.cells, h1, h2]
/-- the document's tokens of a text -/
theorem lex_pu {s : List Nat} {ts : List Tk} (hs : Small s) (hl : s.length ≤ 65536) (h : lexT (s.length + 1) s 0 = some ts) : ∃ q : Nat, PuF D1 33 [bV s] (.tup [Lv ts, i64 (q : Nat), i64 0]) := by
  obtain ⟨q, hq⟩ := lexT_ok _ _ _ [] _ h
  refine ⟨q, ?_⟩
  have := rtokens_pu s hs hl
  rw [← toksC_all, hq] at this
  exact this
def rep (x : List Nat) : Nat → List Nat
  | 0 => []
  | i + 1 => rep x i ++ x
theorem rep_len (x : List Nat) : ∀ i, (rep x i).length = i * x.length
  | 0 => by simp [rep]
  | i + 1 => by simp [rep, rep_len x i, Nat.add_mul]
theorem rep_small {x : List Nat} (h : Small x) : ∀ i, Small (rep x i)
  | 0 => fun b hb => by cases hb
  | i + 1 => fun b hb => by
    rcases List.mem_append.1 hb with hb | hb
    · exact rep_small h i b hb
    · exact h b hb
theorem rep_nil : ∀ i, rep [] i = []
  | 0 => rfl
  | i + 1 => by simp [rep, rep_nil i]
def hdT : Nat → List Nat
  | 0 => [40]
  | 1 => [110, 111, 116, 32]
  | 2 => []
  | _ => [40, 49, 32, 42, 32]
def tlT : Nat → List Nat
  | 0 => [41]
  | 1 => []
  | 2 => [32, 43, 32, 49]
  | _ => [41]
def textT (w n : Nat) : List Nat := (rep (hdT w) n ++ [97]) ++ rep (tlT w) n
def okT (n : Nat) (ts : List Tk) : Bool := match ts with
  | [] => false
  | t :: r => Nat.blt r.length 1000000 && ((t :: r).all (fun t => Nat.blt t.n 9223372036854775808) && (match runR 10000 (.level 0 0) (t :: r) with
    | .ok _ _ => Nat.ble n 39
    | .bad e _ => Nat.beq e 4 && Nat.blt 39 n
    | .out => false))
noncomputable def checkT (w n : Nat) : Bool := heldL (textT w n) fun s => match lexT (s.length + 1) s 0 with
  | some ts => okT n ts
  | none => false
end Go.Proofs.YtfbikhkmamdjmaaDoor.CodesX
