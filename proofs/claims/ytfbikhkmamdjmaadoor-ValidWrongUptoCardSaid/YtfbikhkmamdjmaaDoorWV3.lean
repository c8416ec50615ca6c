/- A flat list's tree: by the stack and by recursion the same. -/
import Derived.Test.YtfbikhkmamdjmaaDoorWV1
namespace Go.Proofs.YtfbikhkmamdjmaaDoor.CodesK
open Go Go.Ab

inductive RT where
  | mk (r : FL) (kids : List RT)
instance : Inhabited RT := ⟨.mk default []⟩
def RT.r : RT → FL | .mk r _ => r
def RT.kids : RT → List RT | .mk _ l => l
def rowAt (l : List FL) (i : Nat) : FL := l.getD i default

/-- by recursion: the loop over the parts -/
def bl (step : Nat → RT × Int) (e : Nat) : Nat → Nat → List RT → List RT × Int
  | 0, _, acc => (acc, -1)
  | g + 1, to, acc => if to < e then (if (step to).2 < 0 ∨ (e : Int) < (step to).2 then (acc, -1) else bl step e g (step to).2.toNat (acc ++ [(step to).1])) else (acc, (to : Nat))
def badRow (l : List FL) (at' : Nat) (par : Int) : Prop := (rowAt l at').p ≠ par ∨ (rowAt l at').e ≤ (at' : Int) ∨ (l.length : Int) < (rowAt l at').e
instance (l : List FL) (i : Nat) (p : Int) : Decidable (badRow l i p) := inferInstanceAs (Decidable (_ ∨ _))
def bk (l : List FL) : Nat → Nat → Int → RT × Int
  | 0, at', _ => (.mk (rowAt l at') [], -1)
  | f + 1, at', par => if badRow l at' par then (.mk (rowAt l at') [], -1) else
    (.mk (rowAt l at') (bl (fun to => bk l f to (at' : Nat)) (rowAt l at').e.toNat (l.length - at') (at' + 1) []).1, (bl (fun to => bk l f to (at' : Nat)) (rowAt l at').e.toNat (l.length - at') (at' + 1) []).2)

theorem bk_succ (l : List FL) (f at' : Nat) (par : Int) : bk l (f + 1) at' par = if badRow l at' par then (.mk (rowAt l at') [], -1) else
    (.mk (rowAt l at') (bl (fun to => bk l f to (at' : Nat)) (rowAt l at').e.toNat (l.length - at') (at' + 1) []).1, (bl (fun to => bk l f to (at' : Nat)) (rowAt l at').e.toNat (l.length - at') (at' + 1) []).2) := rfl

/-- by the stack: those that end here are parts of what they stand in -/
def pop (l : List FL) (at' : Nat) : Nat × List RT → List (Nat × List RT) → (Nat × List RT) × List (Nat × List RT)
  | t, [] => (t, [])
  | t, b :: r => if (rowAt l t.1).e = (at' : Int) then pop l at' (b.1, b.2 ++ [.mk (rowAt l t.1) t.2]) r else (t, b :: r)
def go (l : List FL) (at' : Nat) (t : Nat × List RT) (rest : List (Nat × List RT)) : Option RT :=
  if at' < l.length then
    (if badRow l at' (t.1 : Nat) ∨ (rowAt l t.1).e < (rowAt l at').e then none else go l (at' + 1) (pop l (at' + 1) (at', []) (t :: rest)).1 (pop l (at' + 1) (at', []) (t :: rest)).2)
  else if rest = [] ∧ (rowAt l 0).e = (l.length : Int) then some (.mk (rowAt l t.1) t.2) else none
termination_by l.length - at'
decreasing_by omega
def start (l : List FL) : Option RT :=
  if 0 < l.length then (if badRow l 0 (-1) then none else go l 1 (0, []) []) else none

theorem bl_end (step : Nat → RT × Int) (e : Nat) (hs : ∀ to, to < e → (step to).2 < 0 ∨ (to : Int) < (step to).2) : ∀ (g to : Nat) (acc : List RT), to ≤ e → e - to < g → (bl step e g to acc).2 = -1 ∨ (bl step e g to acc).2 = (e : Int)
  | 0, _, _, _, h => by omega
  | g + 1, to, acc, hle, hg => by
    unfold bl
    by_cases h1 : to < e
    · rw [if_pos h1]
      by_cases h2 : (step to).2 < 0 ∨ (e : Int) < (step to).2
      · rw [if_pos h2]; exact .inl rfl
      · rw [if_neg h2]
        have := hs to h1
        exact bl_end step e hs g _ _ (by omega) (by omega)
    · rw [if_neg h1]
      right
      show (to : Int) = e
      omega
theorem bk_end (l : List FL) : ∀ (f at' : Nat) (par : Int), (bk l f at' par).2 = -1 ∨ ((bk l f at' par).2 = (rowAt l at').e ∧ ¬ badRow l at' par)
  | 0, _, _ => .inl rfl
  | f + 1, at', par => by
    unfold bk
    by_cases h1 : badRow l at' par
    · rw [if_pos h1]; exact .inl rfl
    · rw [if_neg h1]
      unfold badRow at h1
      have := bl_end (fun to => bk l f to (at' : Nat)) (rowAt l at').e.toNat (fun to hto => by
        rcases bk_end l f to (at' : Nat) with h | ⟨h, h3⟩
        · left; show (bk l f to _).2 < 0; omega
        · right
          unfold badRow at h3
          show (to : Int) < (bk l f to _).2
          omega) (l.length - at') (at' + 1) [] (by omega) (by omega)
      rcases this with h | h
      · exact .inl h
      · exact .inr ⟨by show _ = _; rw [h]; omega, by unfold badRow; omega⟩

theorem pop_no {l : List FL} {at' : Nat} {t : Nat × List RT} {R : List (Nat × List RT)} (h : (rowAt l t.1).e ≠ (at' : Int)) : pop l at' t R = (t, R) := by
  cases R with
  | nil => rfl
  | cons b r => unfold pop; rw [if_neg h]

/-- the stack does what the recursion does -/
def Sub (l : List FL) (f : Nat) : Prop := ∀ (at' : Nat) (t : Nat × List RT) (R : List (Nat × List RT)), t.1 < at' → (at' : Int) < (rowAt l t.1).e → (rowAt l t.1).e ≤ (l.length : Int) → l.length - at' ≤ f →
  (0 ≤ (bk l f at' (t.1 : Nat)).2 ∧ (bk l f at' (t.1 : Nat)).2 ≤ (rowAt l t.1).e → go l at' t R = go l (bk l f at' (t.1 : Nat)).2.toNat (pop l (bk l f at' (t.1 : Nat)).2.toNat (t.1, t.2 ++ [(bk l f at' (t.1 : Nat)).1]) R).1 (pop l (bk l f at' (t.1 : Nat)).2.toNat (t.1, t.2 ++ [(bk l f at' (t.1 : Nat)).1]) R).2) ∧
  (¬ (0 ≤ (bk l f at' (t.1 : Nat)).2 ∧ (bk l f at' (t.1 : Nat)).2 ≤ (rowAt l t.1).e) → go l at' t R = none)
theorem sub_loop {l : List FL} {f : Nat} (ih : Sub l f) {a : Nat} (he : (rowAt l a).e ≤ (l.length : Int)) (R : List (Nat × List RT)) : ∀ (g to : Nat) (acc : List RT), a < to → (to : Int) < (rowAt l a).e → l.length - to ≤ f → (rowAt l a).e.toNat - to < g →
    (0 ≤ (bl (fun to => bk l f to (a : Nat)) (rowAt l a).e.toNat g to acc).2 → go l to (a, acc) R = go l (rowAt l a).e.toNat (pop l (rowAt l a).e.toNat (a, (bl (fun to => bk l f to (a : Nat)) (rowAt l a).e.toNat g to acc).1) R).1 (pop l (rowAt l a).e.toNat (a, (bl (fun to => bk l f to (a : Nat)) (rowAt l a).e.toNat g to acc).1) R).2) ∧
    ((bl (fun to => bk l f to (a : Nat)) (rowAt l a).e.toNat g to acc).2 < 0 → go l to (a, acc) R = none)
  | 0, _, _, _, _, _, h => by omega
  | g + 1, to, acc, hat, hto, hf, hg => by
    obtain ⟨h1, h2⟩ := ih to (a, acc) R hat hto he hf
    simp only at h1 h2
    unfold bl
    rw [if_pos (show to < (rowAt l a).e.toNat by omega)]
    have hend := bk_end l f to (a : Nat)
    by_cases h3 : (bk l f to (a : Nat)).2 < 0 ∨ ((rowAt l a).e.toNat : Int) < (bk l f to (a : Nat)).2
    · rw [if_pos h3]
      exact ⟨fun h => by simp at h, fun _ => h2 (by omega)⟩
    · rw [if_neg h3]
      have h4 := h1 (by omega)
      have h5 : (to : Int) < (bk l f to (a : Nat)).2 := by
        rcases hend with h | ⟨h, h6⟩
        · omega
        · unfold badRow at h6; omega
      generalize bk l f to (a : Nat) = kr at h3 h4 h5 ⊢
      rw [h4]
      by_cases h6 : kr.2 = (rowAt l a).e
      · have h7 : kr.2.toNat = (rowAt l a).e.toNat := by rw [h6]
        rw [h7]
        have h8 : ∀ acc, bl (fun to => bk l f to (a : Nat)) (rowAt l a).e.toNat g (rowAt l a).e.toNat acc = (acc, ((rowAt l a).e.toNat : Int)) := fun acc => by
          obtain ⟨g', rfl⟩ : ∃ g', g = g' + 1 := ⟨g - 1, by omega⟩
          unfold bl
          rw [if_neg (Nat.lt_irrefl _)]
        rw [h8]
        exact ⟨fun _ => rfl, fun h => by simp only at h; omega⟩
      · have h9 := pop_no (l := l) (at' := kr.2.toNat) (t := (a, acc ++ [kr.1])) (R := R) (by simp only; omega)
        rw [h9]
        exact sub_loop ih he R g kr.2.toNat (acc ++ [kr.1]) (by omega) (by omega) (by omega) (by omega)
theorem sub_all (l : List FL) : ∀ f, Sub l f
  | 0 => fun at' t R h1 h2 h3 h4 => by omega
  | f + 1 => fun at' t R h1 h2 h3 h4 => by
    have ih := sub_all l f
    have hend := bk_end l (f + 1) at' (t.1 : Nat)
    have hlt : at' < l.length := by omega
    rw [go, if_pos hlt]
    by_cases hb : badRow l at' (t.1 : Nat)
    · rw [if_pos (.inl hb)]
      exact ⟨fun h => hend.elim (fun h5 => by omega) fun h5 => absurd hb h5.2, fun _ => rfl⟩
    · by_cases ht : (rowAt l t.1).e < (rowAt l at').e
      · rw [if_pos (.inr ht)]
        exact ⟨fun h => by rcases hend with h5 | ⟨h5, _⟩ <;> omega, fun _ => rfl⟩
      · rw [if_neg (by rintro (h | h) <;> contradiction)]
        have hb' := hb
        unfold badRow at hb'
        unfold bk at hend ⊢
        rw [if_neg hb] at hend ⊢
        by_cases he : (rowAt l at').e = ((at' + 1 : Nat) : Int)
        · have h5 : bl (fun to => bk l f to (at' : Nat)) (rowAt l at').e.toNat (l.length - at') (at' + 1) [] = ([], ((at' + 1 : Nat) : Int)) := by
            obtain ⟨g, hg⟩ : ∃ g, l.length - at' = g + 1 := ⟨l.length - at' - 1, by omega⟩
            rw [hg]
            unfold bl
            rw [if_neg (by omega)]
          rw [h5]
          refine ⟨fun _ => ?_, fun h => absurd ⟨by simp only; omega, by simp only; omega⟩ h⟩
          have h6 : pop l (at' + 1) (at', []) (t :: R) = pop l (at' + 1) (t.1, t.2 ++ [.mk (rowAt l at') []]) R := by
            rw [pop, if_pos he]
          rw [h6]
          rfl
        · have h6 : pop l (at' + 1) (at', []) (t :: R) = ((at', []), t :: R) := pop_no he
          rw [h6]
          obtain ⟨g1, g2⟩ := sub_loop ih (a := at') (by omega) (t :: R) (l.length - at') (at' + 1) [] (by omega) (by omega) (by omega) (by omega)
          generalize bl (fun to => bk l f to (at' : Nat)) (rowAt l at').e.toNat (l.length - at') (at' + 1) [] = q at g1 g2 hend ⊢
          simp only at hend ⊢
          refine ⟨fun h => ?_, fun h => g2 (by rcases hend with h7 | ⟨h7, _⟩ <;> omega)⟩
          rw [g1 h.1]
          have h7 : q.2 = (rowAt l at').e := by rcases hend with h7 | ⟨h7, _⟩ <;> omega
          have h8 : pop l (rowAt l at').e.toNat (at', q.1) (t :: R) = pop l (rowAt l at').e.toNat (t.1, t.2 ++ [.mk (rowAt l at') q.1]) R := by
            rw [pop, if_pos (by simp only; omega)]
          rw [h8, h7]
theorem go_end (l : List FL) (q : List RT) : go l l.length (0, q) [] = if (rowAt l 0).e = (l.length : Int) then some (.mk (rowAt l 0) q) else none := by
  rw [go, if_neg (Nat.lt_irrefl _)]
  simp
/-- both come to the same -/
theorem start_eq (l : List FL) : start l = if 0 < l.length ∧ (bk l l.length 0 (-1)).2 = (l.length : Int) then some (bk l l.length 0 (-1)).1 else none := by
  unfold start
  by_cases h0 : 0 < l.length
  · rw [if_pos h0]
    obtain ⟨f, hf⟩ : ∃ f, l.length = f + 1 := ⟨l.length - 1, by omega⟩
    have hend := bk_end l l.length 0 (-1)
    by_cases hb : badRow l 0 (-1)
    · rw [if_pos hb, if_neg (fun h => hend.elim (fun h5 => by omega) fun h5 => h5.2 hb)]
    · rw [if_neg hb]
      have hb' := hb
      unfold badRow at hb'
      have ih := sub_all l f
      have hk : bk l l.length 0 (-1) = (.mk (rowAt l 0) (bl (fun to => bk l f to ((0 : Nat) : Int)) (rowAt l 0).e.toNat (l.length - 0) (0 + 1) []).1, (bl (fun to => bk l f to ((0 : Nat) : Int)) (rowAt l 0).e.toNat (l.length - 0) (0 + 1) []).2) := by
        conv => lhs; rw [show bk l l.length 0 (-1) = bk l (f + 1) 0 (-1) by rw [← hf]]
        rw [bk_succ, if_neg hb]
      have last : ∀ q : List RT, go l (rowAt l 0).e.toNat (0, q) [] = if (rowAt l 0).e = (l.length : Int) then some (.mk (rowAt l 0) q) else none := fun q => by
        by_cases hl : (rowAt l 0).e = (l.length : Int)
        · have : (rowAt l 0).e.toNat = l.length := by omega
          rw [this]
          exact go_end l q
        · rw [if_neg hl, go, if_pos (by omega), if_pos ?_]
          by_cases h9 : badRow l (rowAt l 0).e.toNat ((0 : Nat) : Int)
          · exact .inl h9
          · right
            unfold badRow at h9
            simp only
            omega
      by_cases he : (rowAt l 0).e = 1
      · have h5 : bl (fun to => bk l f to ((0 : Nat) : Int)) (rowAt l 0).e.toNat (l.length - 0) (0 + 1) [] = ([], ((1 : Nat) : Int)) := by
          rw [show l.length - 0 = f + 1 by omega]
          unfold bl
          rw [if_neg (by omega)]
        have h6 := last []
        rw [show (rowAt l 0).e.toNat = 1 by omega] at h6
        rw [h6, hk, h5]
        simp only [h0, true_and]
        by_cases hl : (rowAt l 0).e = (l.length : Int)
        · rw [if_pos hl, if_pos (by omega)]
        · rw [if_neg hl, if_neg (by omega)]
      · obtain ⟨g1, g2⟩ := sub_loop ih (a := 0) (by omega) [] (l.length - 0) (0 + 1) [] (by omega) (by omega) (by omega) (by omega)
        rw [hk] at hend
        rw [hk]
        generalize bl (fun to => bk l f to ((0 : Nat) : Int)) (rowAt l 0).e.toNat (l.length - 0) (0 + 1) [] = q at g1 g2 hend ⊢
        simp only at hend ⊢
        by_cases hq : q.2 < 0
        · rw [if_neg (by omega)]
          exact g2 hq
        · have h7 : q.2 = (rowAt l 0).e := by rcases hend with h7 | ⟨h7, _⟩ <;> omega
          have h8 := g1 (by omega)
          rw [show (1 : Nat) = 0 + 1 by rfl, h8]
          show go l _ (0, q.1) [] = _
          rw [last, h7]
          by_cases hl : (rowAt l 0).e = (l.length : Int)
          · rw [if_pos hl, if_pos ⟨h0, hl⟩]
          · rw [if_neg hl, if_neg (fun h => hl h.2)]
  · rw [if_neg h0, if_neg (fun h => h0 h.1)]
end Go.Proofs.YtfbikhkmamdjmaaDoor.CodesK
