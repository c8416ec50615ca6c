/- A flat list that can be run, in which one number is turned, can't be run. -/
import Derived.Test.YtfbikhkmamdjmaaDoorWV5
namespace Go.Proofs.YtfbikhkmamdjmaaDoor.CodesK
open Go Go.Ab
set_option maxRecDepth 100000

def rowGood (r : FL) : Prop := r.k ≤ 15 ∧ r.k ≠ 10 ∧ 0 ≤ r.b ∧ r.b ≤ 16
structure Tight (l : List FL) (a e : Nat) : Prop where
  in1 : ∀ j : Nat, a ≤ j → j < e → (j : Int) < (rowAt l j).e ∧ (rowAt l j).e ≤ (e : Int)
  q2 : ∀ i j : Nat, a ≤ i → i < j → j < e → (j : Int) < (rowAt l i).e → (i : Int) ≤ (rowAt l j).p
  q3 : ∀ i j : Nat, a ≤ i → i < j → j < e → (rowAt l i).e ≤ (j : Int) → (rowAt l j).p < (i : Int) ∨ (rowAt l i).e ≤ (rowAt l j).p
  lt : ∀ j : Nat, a ≤ j → j < e → (rowAt l j).p < (j : Int)
  good : ∀ j : Nat, a ≤ j → j < e → rowGood (rowAt l j)
theorem bl_mem (step : Nat → RT × Int) (e : Nat) : ∀ (g to : Nat) (acc : List RT) (y : RT), y ∈ acc → y ∈ (bl step e g to acc).1
  | 0, _, _, _, h => h
  | g + 1, to, acc, y, h => by
    unfold bl
    split
    · split
      · exact h
      · exact bl_mem step e g _ _ y (List.mem_append_left _ h)
    · exact h
theorem nodesF_mem {l : List ND} (h : nodesF l = true) {n : ND} (hn : n ∈ l) : nodeF n = true := by
  rw [nodesF_all, List.all_eq_true] at h
  exact h n hn
def SubT (l : List FL) (f : Nat) : Prop := ∀ (at' : Nat) (par : Int), par < (at' : Int) → 0 ≤ (bk l f at' par).2 → nodeF (bk l f at' par).1.rf = true →
  (rowAt l at').p = par ∧ (at' : Int) < (bk l f at' par).2 ∧ (bk l f at' par).2 = (rowAt l at').e ∧ Tight l at' (bk l f at' par).2.toNat ∧ ∀ j : Nat, at' < j → (j : Int) < (bk l f at' par).2 → (at' : Int) ≤ (rowAt l j).p
theorem tight_loop {l : List FL} {f : Nat} (ih : SubT l f) {p e : Nat} : ∀ (g to : Nat) (acc : List RT), p + 1 ≤ to → Tight l (p + 1) to → (∀ j : Nat, p + 1 ≤ j → j < to → (p : Int) ≤ (rowAt l j).p) →
    0 ≤ (bl (fun to => bk l f to (p : Nat)) e g to acc).2 → (∀ y ∈ (bl (fun to => bk l f to (p : Nat)) e g to acc).1, nodeF y.rf = true) →
    Tight l (p + 1) (bl (fun to => bk l f to (p : Nat)) e g to acc).2.toNat ∧ ∀ j : Nat, p + 1 ≤ j → (j : Int) < (bl (fun to => bk l f to (p : Nat)) e g to acc).2 → (p : Int) ≤ (rowAt l j).p
  | 0, _, _, _, _, _, h, _ => by simp [bl] at h
  | g + 1, to, acc, hto, ht, hp, h, hm => by
    unfold bl at h hm ⊢
    by_cases h1 : to < e
    · rw [if_pos h1] at h hm ⊢
      by_cases h2 : (bk l f to (p : Nat)).2 < 0 ∨ (e : Int) < (bk l f to (p : Nat)).2
      · rw [if_pos h2] at h
        simp at h
      · rw [if_neg h2] at h hm ⊢
        have hk : nodeF (bk l f to (p : Nat)).1.rf = true := hm _ (bl_mem _ _ _ _ _ _ (List.mem_append_right _ (List.mem_singleton.2 rfl)))
        obtain ⟨s1, s2, s3, s4, s5⟩ := ih to (p : Nat) (by omega) (by omega) hk
        generalize hkr : bk l f to (p : Nat) = kr at h2 h hm s2 s3 s4 s5 ⊢
        refine tight_loop ih g kr.2.toNat (acc ++ [kr.1]) (by omega) ⟨fun j h3 h4 => ?_, fun i j h3 h4 h5 h6 => ?_, fun i j h3 h4 h5 h6 => ?_, fun j h3 h4 => ?_, fun j h3 h4 => ?_⟩ (fun j h3 h4 => ?_) h hm
        · rcases Nat.lt_or_ge j to with h5 | h5
          · have := ht.in1 j h3 h5; omega
          · exact s4.in1 j h5 h4
        · rcases Nat.lt_or_ge i to with h7 | h7
          · rcases Nat.lt_or_ge j to with h8 | h8
            · exact ht.q2 i j h3 h4 h8 h6
            · have := ht.in1 i h3 h7; omega
          · exact s4.q2 i j h7 h4 h5 h6
        · rcases Nat.lt_or_ge i to with h7 | h7
          · have h9 := ht.in1 i h3 h7
            rcases Nat.lt_or_ge j to with h8 | h8
            · exact ht.q3 i j h3 h4 h8 h6
            · rcases Nat.lt_or_eq_of_le h8 with h10 | h10
              · have := s5 j h10 (by omega); omega
              · rw [← h10, s1]; omega
          · exact s4.q3 i j h7 h4 h5 h6
        · rcases Nat.lt_or_ge j to with h5 | h5
          · exact ht.lt j h3 h5
          · exact s4.lt j h5 h4
        · rcases Nat.lt_or_ge j to with h5 | h5
          · exact ht.good j h3 h5
          · exact s4.good j h5 h4
        · rcases Nat.lt_or_ge j to with h5 | h5
          · exact hp j h3 h5
          · rcases Nat.lt_or_eq_of_le h5 with h10 | h10
            · have := s5 j h10 (by omega); omega
            · rw [← h10, s1]; omega
    · rw [if_neg h1] at h hm ⊢
      have h3 : ((to : Int)).toNat = to := by omega
      refine ⟨by rw [h3]; exact ht, fun j h4 h5 => hp j h4 (by simp only at h5; omega)⟩
theorem tight_all (l : List FL) : ∀ f, SubT l f
  | 0 => fun at' par _ h _ => by simp [bk] at h
  | f + 1 => fun at' par hpar h hn => by
    have ih := tight_all l f
    have hend := bk_end l (f + 1) at' par
    have h1 : (bk l (f + 1) at' par).2 = (rowAt l at').e ∧ ¬ badRow l at' par := by
      rcases hend with h1 | h1
      · omega
      · exact h1
    obtain ⟨h1, hb⟩ := h1
    have hb' := hb
    unfold badRow at hb'
    unfold bk at h hn h1 ⊢
    rw [if_neg hb] at h hn h1 ⊢
    rw [RT.rf, nodeF, Bool.and_eq_true] at hn
    obtain ⟨hok, hns⟩ := hn
    have hok := @of_decide_eq_true _ (Classical.propDecidable _) hok
    have hgood : rowGood (rowAt l at') := by
      refine ⟨hok.k1, hok.k2, ?_, ?_⟩
      · by_cases h4 : (rowAt l at').k = 4
        · have := hok.par h4; omega
        · by_cases h6 : (rowAt l at').k = 6
          · have := hok.rep h6; omega
          · have := hok.bare h4 h6; omega
      · by_cases h4 : (rowAt l at').k = 4
        · have := hok.par h4
          have := hok.many (.inl (by omega))
          omega
        · by_cases h6 : (rowAt l at').k = 6
          · have := hok.rep h6; omega
          · have := hok.bare h4 h6; omega
    obtain ⟨t1, t2⟩ := tight_loop ih (p := at') (e := (rowAt l at').e.toNat) (l.length - at') (at' + 1) [] (Nat.le_refl _) ⟨fun j h3 h4 => by omega, fun i j h3 h4 h5 => by omega, fun i j h3 h4 h5 => by omega, fun j h3 h4 => by omega, fun j h3 h4 => by omega⟩ (fun j h3 h4 => by omega) h
      (fun y hy => nodesF_mem hns (by rw [rfs_map]; exact List.mem_map_of_mem hy))
    generalize bl (fun to => bk l f to (at' : Nat)) (rowAt l at').e.toNat (l.length - at') (at' + 1) [] = q at t1 t2 h h1 ⊢
    simp only at h h1 ⊢
    refine ⟨by omega, by omega, h1, ⟨fun j h3 h4 => ?_, fun i j h3 h4 h5 h6 => ?_, fun i j h3 h4 h5 h6 => ?_, fun j h3 h4 => ?_, fun j h3 h4 => ?_⟩, fun j h3 h4 => t2 j h3 h4⟩
    · rcases Nat.lt_or_eq_of_le h3 with h5 | h5
      · exact t1.in1 j h5 h4
      · rw [← h5]; omega
    · rcases Nat.lt_or_eq_of_le h3 with h7 | h7
      · exact t1.q2 i j h7 h4 h5 h6
      · have := t2 j (by omega) (by omega); omega
    · rcases Nat.lt_or_eq_of_le h3 with h7 | h7
      · exact t1.q3 i j h7 h4 h5 h6
      · rw [← h7] at h6; omega
    · rcases Nat.lt_or_eq_of_le h3 with h5 | h5
      · exact t1.lt j h5 h4
      · rw [← h5]; omega
    · rcases Nat.lt_or_eq_of_le h3 with h5 | h5
      · exact t1.good j h5 h4
      · rw [← h5]; exact hgood
structure Ran (l : List FL) : Prop where
  pos : 0 < l.length
  t : Tight l 0 l.length
  root : (rowAt l 0).p = -1
  par : ∀ j : Nat, 0 < j → j < l.length → 0 ≤ (rowAt l j).p
theorem run_tight {l : List FL} (h : runF l = true) : Ran l := by
  unfold runF at h
  rw [start_eq] at h
  by_cases h0 : 0 < l.length ∧ (bk l l.length 0 (-1)).2 = (l.length : Int)
  · rw [if_pos h0] at h
    simp only [Bool.and_eq_true] at h
    obtain ⟨s1, s2, s3, s4, s5⟩ := tight_all l l.length 0 (-1) (by omega) (by omega) h.2.2
    rw [h0.2] at s4 s5
    exact ⟨h0.1, by simpa using s4, s1, fun j h1 h2 => by have := s5 j h1 (by omega); omega⟩
  · rw [if_neg h0] at h
    cases h
/-- which row is turned -/
structure Turned (l l' : List FL) (a : Nat) : Prop where
  lt : a < l.length
  len : l'.length = l.length
  same : ∀ j, j ≠ a → rowAt l' j = rowAt l j
theorem wrong_end {l l' : List FL} {a : Nat} (h : runF l = true) (ht : Turned l l' a) {by' : Int} (hb : 0 < by') (he : (rowAt l' a).e = (rowAt l a).e + by') : runF l' = false := by
  cases hr : runF l' with
  | false => rfl
  | true =>
    exfalso
    have r := run_tight h
    have r' := run_tight hr
    have hl := ht.len
    have ha := ht.lt
    have i1 := r.t.in1 a (Nat.zero_le _) ha
    have i2 := r'.t.in1 a (Nat.zero_le _) (by omega)
    have hj : ((rowAt l a).e.toNat : Int) = (rowAt l a).e := by omega
    have q2 := r'.t.q2 a (rowAt l a).e.toNat (Nat.zero_le _) (by omega) (by omega) (by omega)
    have q3 := r.t.q3 a (rowAt l a).e.toNat (Nat.zero_le _) (by omega) (by omega) (by omega)
    have lt := r.t.lt (rowAt l a).e.toNat (Nat.zero_le _) (by omega)
    rw [ht.same _ (by omega)] at q2
    omega
theorem wrong_parent {l l' : List FL} {a : Nat} (h : runF l = true) (ht : Turned l l' a) {by' : Int} (hb : 0 < by') (he : (rowAt l' a).p = (rowAt l a).p - by') (hs : (rowAt l' a).e = (rowAt l a).e) : runF l' = false := by
  cases hr : runF l' with
  | false => rfl
  | true =>
    exfalso
    have r := run_tight h
    have r' := run_tight hr
    have hl := ht.len
    have ha := ht.lt
    by_cases h0 : a = 0
    · subst h0
      have := r.root
      have := r'.root
      omega
    · have hp := r.par a (by omega) ha
      have hlt := r.t.lt a (Nat.zero_le _) ha
      have hq : ((rowAt l a).p.toNat : Int) = (rowAt l a).p := by omega
      have i1 := r.t.in1 (rowAt l a).p.toNat (Nat.zero_le _) (by omega)
      have h1 : (a : Int) < (rowAt l (rowAt l a).p.toNat).e := by
        rcases Int.lt_or_le (a : Int) (rowAt l (rowAt l a).p.toNat).e with h1 | h1
        · exact h1
        · have := r.t.q3 (rowAt l a).p.toNat a (Nat.zero_le _) (by omega) ha h1
          omega
      have q2 := r'.t.q2 (rowAt l a).p.toNat a (Nat.zero_le _) (by omega) (by omega) (by rw [ht.same _ (by omega)]; exact h1)
      omega
theorem wrong_row {l l' : List FL} {a : Nat} (ht : Turned l l' a) (hg : ¬ rowGood (rowAt l' a)) : runF l' = false := by
  cases hr : runF l' with
  | false => rfl
  | true => exact absurd ((run_tight hr).t.good a (Nat.zero_le _) (by rw [ht.len]; exact ht.lt)) hg
theorem wrong_more {l : List FL} {x : FL} (h : 0 < l.length) (hx : x.p = -1) : runF (l ++ [x]) = false := by
  cases hr : runF (l ++ [x]) with
  | false => rfl
  | true =>
    have := (run_tight hr).par l.length h (by simp)
    have e : rowAt (l ++ [x]) l.length = x := by simp [rowAt, List.getD]
    rw [e, hx] at this
    omega
end Go.Proofs.YtfbikhkmamdjmaaDoor.CodesK
