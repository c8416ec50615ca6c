/- Domains, acts and guesses: what they come to, in plain Lean. -/
namespace Go.Goap

def sat (z : Int) : Int := max (-9223372036854775808) (min z 9223372036854775807)
def cutIn (n lo hi : Int) : Int := max lo (min n hi)
def costF (c : Int) : Int := cutIn c 1 1000
def apartF (a b : Int) : Int := sat (max a b - min a b)

structure Var where
  name : List Nat
  low : Int
  high : Int
  deriving Inhabited
structure Mk where
  name : List Nat
  add : Bool
  n : Int
structure Cd where
  name : List Nat
  op : Int
  n : Int
structure PAct where
  name : List Nat
  cost : Int
  need : List Cd
  make : List Mk
  deriving Inhabited
structure Dom where
  name : List Nat
  vars : List Var
  acts : List PAct
  goal : List Cd

def varI : List Var → List Nat → Option Nat
  | [], _ => none
  | v :: r, s => if v.name = s then some 0 else (varI r s).map (· + 1)
def cutF : List Var → List Int → List Int
  | [], _ => []
  | v :: r, l => cutIn (l.headD 0) v.low v.high :: cutF r l.tail
def cmpF (op x n : Int) : Bool := if op = 0 then decide (n ≤ x) else if op = 1 then decide (x ≤ n) else decide (op = 2) && decide (x = n)
def holdsF (vs : List Var) (at0 : List Int) (c : Cd) : Bool := match varI vs c.name with
  | none => false
  | some i => cmpF c.op (at0.getD i 0) c.n
def allF (vs : List Var) (at0 : List Int) (l : List Cd) : Bool := l.all (holdsF vs at0)
def turn (v : Var) (x : Int) (m : Mk) : Int := cutIn (if m.add then sat (x + m.n) else m.n) v.low v.high
def makeF (vs : List Var) (at0 : List Int) (m : Mk) : List Int := match varI vs m.name with
  | none => at0
  | some i => at0.set i (turn (vs.getD i default) (at0.getD i 0) m)
def makesF (vs : List Var) (at0 : List Int) (l : List Mk) : List Int := l.foldl (makeF vs) at0
def afterF (d : Dom) (at0 : List Int) (a : PAct) : Option (List Int) :=
  if allF d.vars (cutF d.vars at0) a.need then some (makesF d.vars (cutF d.vars at0) a.make) else none
def byF (v : Var) (m : Mk) : Int := if m.add then apartF m.n 0 else max 0 (sat (v.high - v.low))
def moveS (v : Var) (p : Int × Bool) (m : Mk) : Int × Bool := if m.name = v.name then (sat (p.1 + byF v m), true) else p
def turnsF (l : List Mk) (v : Var) : Int × Bool := l.foldl (moveS v) (0, false)
def leastS (v : Var) (p : Int × Int) (a : PAct) : Int × Int := if (turnsF a.make v).2 then (max p.1 (turnsF a.make v).1, min p.2 (costF a.cost)) else p
def leastF (l : List PAct) (v : Var) : Int × Int := l.foldl (leastS v) (0, 1000)
def valF (l : List PAct) (v : Var) (gap : Int) : Int := if (leastF l v).1 = 0 then 0 else sat (((gap - 1) / (leastF l v).1 + 1) * (leastF l v).2)
def guessF (vs : List Var) (acts : List PAct) (at0 : List Int) (c : Cd) : Int := match varI vs c.name with
  | none => 0
  | some i => if c.op < 0 ∨ 2 < c.op ∨ cmpF c.op (at0.getD i 0) c.n = true then 0 else valF acts (vs.getD i default) (apartF (at0.getD i 0) c.n)
def bestF (vs : List Var) (acts : List PAct) (at0 : List Int) (l : List Cd) : Int := l.foldl (fun out c => max out (guessF vs acts at0 c)) 0
def GuessF (d : Dom) (at0 : List Int) : Int := bestF d.vars d.acts (cutF d.vars at0) d.goal

theorem sat_le (z : Int) : sat z ≤ 9223372036854775807 := by unfold sat; omega
theorem sat_nn {z : Int} (h : 0 ≤ z) : 0 ≤ sat z := by unfold sat; omega
theorem sat_mono {a b : Int} (h : a ≤ b) : sat a ≤ sat b := by unfold sat; omega
theorem cost_in (c : Int) : 1 ≤ costF c ∧ costF c ≤ 1000 := by unfold costF cutIn; omega
theorem apart_nn (a b : Int) : 0 ≤ apartF a b := sat_nn (by omega)
theorem by_nn (v : Var) (m : Mk) : 0 ≤ byF v m := by
  unfold byF
  split
  · exact apart_nn _ _
  · omega

theorem varI_lt : ∀ {vs : List Var} {s : List Nat} {i : Nat}, varI vs s = some i → i < vs.length ∧ (vs.getD i default).name = s
  | [], _, _, h => by cases h
  | v :: r, s, i, h => by
    unfold varI at h
    split at h
    · rename_i hv
      cases h
      exact ⟨Nat.succ_pos _, hv⟩
    · cases hr : varI r s with
      | none => rw [hr] at h; cases h
      | some j =>
        rw [hr] at h
        cases h
        obtain ⟨h1, h2⟩ := varI_lt hr
        exact ⟨Nat.succ_lt_succ h1, by simpa using h2⟩
theorem cut_len : ∀ (vs : List Var) (l : List Int), (cutF vs l).length = vs.length
  | [], _ => rfl
  | v :: r, l => by simp only [cutF, List.length_cons, cut_len r]
theorem cut_at : ∀ (vs : List Var) (l : List Int) (i : Nat), i < vs.length → (cutF vs l).getD i 0 = cutIn (l.getD i 0) (vs.getD i default).low (vs.getD i default).high
  | [], _, _, h => by simp at h
  | v :: r, l, 0, _ => by
    cases l <;> rfl
  | v :: r, l, i + 1, h => by
    have := cut_at r l.tail i (by simpa using h)
    simp only [cutF, List.getD_cons_succ]
    rw [this]
    cases l <;> simp
theorem make_len (vs : List Var) (at0 : List Int) (m : Mk) : (makeF vs at0 m).length = at0.length := by
  unfold makeF
  split <;> simp
theorem makes_len (vs : List Var) : ∀ (l : List Mk) (at0 : List Int), (makesF vs at0 l).length = at0.length
  | [], _ => rfl
  | m :: l, at0 => by
    show (makesF vs (makeF vs at0 m) l).length = _
    rw [makes_len vs l, make_len]
theorem turns_nn (v : Var) : ∀ (l : List Mk) (p : Int × Bool), 0 ≤ p.1 → 0 ≤ (l.foldl (moveS v) p).1
  | [], _, h => h
  | m :: l, p, h => turns_nn v l _ (by
    unfold moveS
    split
    · exact sat_nn (by have := by_nn v m; omega)
    · exact h)
theorem least_in (v : Var) : ∀ (l : List PAct) (p : Int × Int), 0 ≤ p.1 → 1 ≤ p.2 → p.2 ≤ 1000 → 0 ≤ (l.foldl (leastS v) p).1 ∧ 1 ≤ (l.foldl (leastS v) p).2 ∧ (l.foldl (leastS v) p).2 ≤ 1000
  | [], _, h, h1, h2 => ⟨h, h1, h2⟩
  | a :: l, p, h, h1, h2 => by
    have hc := cost_in a.cost
    refine least_in v l _ ?_ ?_ ?_
    · unfold leastS; split <;> (try dsimp only) <;> omega
    · unfold leastS; split <;> (try dsimp only) <;> omega
    · unfold leastS; split <;> (try dsimp only) <;> omega
theorem leastF_in (l : List PAct) (v : Var) : 0 ≤ (leastF l v).1 ∧ 1 ≤ (leastF l v).2 ∧ (leastF l v).2 ≤ 1000 := least_in v l (0, 1000) (by simp) (by simp) (by simp)
/-- what an act is, the whole is at least -/
theorem least_mem (v : Var) : ∀ (l : List PAct) (p : Int × Int), p.1 ≤ (l.foldl (leastS v) p).1 ∧ (l.foldl (leastS v) p).2 ≤ p.2 ∧ ∀ a ∈ l, (turnsF a.make v).2 = true → (turnsF a.make v).1 ≤ (l.foldl (leastS v) p).1 ∧ (l.foldl (leastS v) p).2 ≤ costF a.cost
  | [], p => ⟨Int.le_refl _, Int.le_refl _, fun a h => by cases h⟩
  | b :: l, p => by
    obtain ⟨h1, h2, h3⟩ := least_mem v l (leastS v p b)
    have h4 : p.1 ≤ (leastS v p b).1 ∧ (leastS v p b).2 ≤ p.2 := by unfold leastS; split <;> (try dsimp only) <;> omega
    refine ⟨Int.le_trans h4.1 h1, Int.le_trans h2 h4.2, fun a ha ht => ?_⟩
    rcases List.mem_cons.1 ha with rfl | ha
    · have h5 : (turnsF a.make v).1 ≤ (leastS v p a).1 ∧ (leastS v p a).2 ≤ costF a.cost := by unfold leastS; rw [if_pos ht]; simp only; omega
      exact ⟨Int.le_trans h5.1 h1, Int.le_trans h2 h5.2⟩
    · exact h3 a ha ht

theorem ceil_step {g g' r l : Int} (hr : 1 ≤ r) (hl : 0 ≤ l) (h : g ≤ g' + r) : ((g - 1) / r + 1) * l ≤ ((g' - 1) / r + 1) * l + l := by
  have h1 : (g - 1) / r ≤ (g' - 1) / r + 1 := by
    have : (g - 1) / r ≤ (g' - 1 + r) / r := Int.ediv_le_ediv (by omega) (by omega)
    rw [Int.add_ediv_of_dvd_right (Int.dvd_refl r), Int.ediv_self (by omega)] at this
    exact this
  have h2 : ((g - 1) / r + 1) * l ≤ ((g' - 1) / r + 1 + 1) * l := Int.mul_le_mul_of_nonneg_right (by omega) hl
  rw [Int.add_mul ((g' - 1) / r + 1) 1 l, Int.one_mul] at h2
  exact h2

/-- an act that moves a var by no more than it tells leaves a guess that is less by no more than its cost -/
theorem val_step {acts : List PAct} {v : Var} {a : PAct} (ha : a ∈ acts) (ht : (turnsF a.make v).2 = true) {g g' : Int} (h : g ≤ g' + (turnsF a.make v).1) : valF acts v g ≤ valF acts v g' + costF a.cost := by
  obtain ⟨_, _, h3⟩ := least_mem v acts (0, 1000)
  obtain ⟨h1, h2⟩ := h3 a ha ht
  obtain ⟨h4, h5, h6⟩ := leastF_in acts v
  have hc := cost_in a.cost
  change (turnsF a.make v).1 ≤ (leastF acts v).1 at h1
  change (leastF acts v).2 ≤ _ at h2
  unfold valF
  split
  · omega
  · have := ceil_step (g := g) (g' := g') (r := (leastF acts v).1) (l := (leastF acts v).2) (by omega) (by omega) (by omega)
    generalize ((g - 1) / (leastF acts v).1 + 1) * (leastF acts v).2 = x at *
    generalize ((g' - 1) / (leastF acts v).1 + 1) * (leastF acts v).2 = y at *
    unfold sat
    omega
theorem val_one {acts : List PAct} {v : Var} {a : PAct} (ha : a ∈ acts) (ht : (turnsF a.make v).2 = true) {g : Int} (h0 : 1 ≤ g) (h : g ≤ (turnsF a.make v).1) : valF acts v g ≤ costF a.cost := by
  obtain ⟨_, _, h3⟩ := least_mem v acts (0, 1000)
  obtain ⟨h1, h2⟩ := h3 a ha ht
  obtain ⟨h4, h5, h6⟩ := leastF_in acts v
  have hc := cost_in a.cost
  change (turnsF a.make v).1 ≤ (leastF acts v).1 at h1
  change (leastF acts v).2 ≤ _ at h2
  unfold valF
  split
  · omega
  · have h7 : (g - 1) / (leastF acts v).1 = 0 := Int.ediv_eq_zero_of_lt (by omega) (by omega)
    rw [h7]
    unfold sat
    omega
theorem val_nn {acts : List PAct} {v : Var} {g : Int} (h : 1 ≤ g) : 0 ≤ valF acts v g := by
  obtain ⟨h4, h5, h6⟩ := leastF_in acts v
  unfold valF
  split
  · omega
  · refine sat_nn (Int.mul_nonneg ?_ (by omega))
    have := Int.ediv_nonneg (a := g - 1) (b := (leastF acts v).1) (by omega) h4
    omega
theorem val_le {acts : List PAct} {v : Var} {g : Int} (h : 1 ≤ g) (hg : g ≤ 2000) : valF acts v g ≤ 2000000 := by
  obtain ⟨h4, h5, h6⟩ := leastF_in acts v
  unfold valF
  split
  · omega
  · rename_i hr
    have h7 : (g - 1) / (leastF acts v).1 ≤ g - 1 := by
      have := Int.ediv_le_self (a := g - 1) (leastF acts v).1 (by omega)
      exact this
    have h8 : 0 ≤ (g - 1) / (leastF acts v).1 := Int.ediv_nonneg (by omega) h4
    have h9 : ((g - 1) / (leastF acts v).1 + 1) * (leastF acts v).2 ≤ 2000 * 1000 := Int.mul_le_mul (by omega) h6 (by omega) (by omega)
    unfold sat
    omega

/-! ### a state after an act -/

/-- how far makes move a var -/
theorem moved {vs : List Var} {s : List Nat} {i : Nat} (hi : varI vs s = some i) (hlo : -100 ≤ (vs.getD i default).low) (hhi : (vs.getD i default).high ≤ 100) (hlh : (vs.getD i default).low ≤ (vs.getD i default).high) (x0 : Int) (h0 : (vs.getD i default).low ≤ x0 ∧ x0 ≤ (vs.getD i default).high) :
    ∀ (l : List Mk) (at0 : List Int) (p : Int × Bool), at0.length = vs.length → 0 ≤ p.1 → (vs.getD i default).low ≤ at0.getD i 0 → at0.getD i 0 ≤ (vs.getD i default).high → at0.getD i 0 - x0 ≤ p.1 → x0 - at0.getD i 0 ≤ p.1 → (p.2 = false → at0.getD i 0 = x0) →
      (vs.getD i default).low ≤ (makesF vs at0 l).getD i 0 ∧ (makesF vs at0 l).getD i 0 ≤ (vs.getD i default).high ∧ (makesF vs at0 l).getD i 0 - x0 ≤ (l.foldl (moveS (vs.getD i default)) p).1 ∧ x0 - (makesF vs at0 l).getD i 0 ≤ (l.foldl (moveS (vs.getD i default)) p).1 ∧
        ((l.foldl (moveS (vs.getD i default)) p).2 = false → (makesF vs at0 l).getD i 0 = x0)
  | [], at0, p, _, _, h1, h2, h3, h4, h5 => ⟨h1, h2, h3, h4, h5⟩
  | m :: l, at0, p, hl, hp, h1, h2, h3, h4, h5 => by
    obtain ⟨hilt, hin⟩ := varI_lt hi
    show _ ≤ (makesF vs (makeF vs at0 m) l).getD i 0 ∧ (makesF vs (makeF vs at0 m) l).getD i 0 ≤ _ ∧ (makesF vs (makeF vs at0 m) l).getD i 0 - x0 ≤ (l.foldl (moveS (vs.getD i default)) (moveS (vs.getD i default) p m)).1 ∧ x0 - (makesF vs (makeF vs at0 m) l).getD i 0 ≤ (l.foldl (moveS (vs.getD i default)) (moveS (vs.getD i default) p m)).1 ∧ ((l.foldl (moveS (vs.getD i default)) (moveS (vs.getD i default) p m)).2 = false → _)
    by_cases hm : m.name = (vs.getD i default).name
    · have hv : varI vs m.name = some i := by rw [hm, hin]; exact hi
      have e1 : (makeF vs at0 m).getD i 0 = turn (vs.getD i default) (at0.getD i 0) m := by
        unfold makeF
        rw [hv]
        simp only [List.getD, List.getElem?_set, hl, hilt, if_true, Option.getD_some]
      have e2 : moveS (vs.getD i default) p m = (sat (p.1 + byF (vs.getD i default) m), true) := by unfold moveS; rw [if_pos hm]
      have hb := by_nn (vs.getD i default) m
      have key : (vs.getD i default).low ≤ turn (vs.getD i default) (at0.getD i 0) m ∧ turn (vs.getD i default) (at0.getD i 0) m ≤ (vs.getD i default).high ∧ turn (vs.getD i default) (at0.getD i 0) m - at0.getD i 0 ≤ byF (vs.getD i default) m ∧ at0.getD i 0 - turn (vs.getD i default) (at0.getD i 0) m ≤ byF (vs.getD i default) m := by
        generalize at0.getD i 0 = x at *
        generalize (vs.getD i default) = v at *
        unfold turn byF
        cases m.add with
        | true => simp only [if_true]; unfold cutIn apartF sat; omega
        | false => simp only [Bool.false_eq_true, if_false]; unfold cutIn sat; omega
      refine moved hi hlo hhi hlh x0 h0 l (makeF vs at0 m) _ (by rw [make_len]; exact hl) ?_ ?_ ?_ ?_ ?_ ?_
      · rw [e2]; exact sat_nn (by omega)
      · rw [e1]; exact key.1
      · rw [e1]; exact key.2.1
      · rw [e1, e2]; simp only; unfold sat; omega
      · rw [e1, e2]; simp only; unfold sat; omega
      · rw [e2]; intro h; cases h
    · have e2 : moveS (vs.getD i default) p m = p := by unfold moveS; rw [if_neg hm]
      have e1 : (makeF vs at0 m).getD i 0 = at0.getD i 0 := by
        unfold makeF
        cases hv : varI vs m.name with
        | none => rfl
        | some j =>
          have hj := varI_lt hv
          have hij : j ≠ i := fun e => by subst e; exact hm hj.2.symm
          simp only [List.getD, List.getElem?_set, hij, if_false]
      rw [e2]
      exact moved hi hlo hhi hlh x0 h0 l (makeF vs at0 m) _ (by rw [make_len]; exact hl) hp (by rw [e1]; exact h1) (by rw [e1]; exact h2) (by rw [e1]; exact h3) (by rw [e1]; exact h4) (by rw [e1]; exact h5)

def Few (vs : List Var) : Prop := ∀ i, i < vs.length → -100 ≤ (vs.getD i default).low ∧ (vs.getD i default).high ≤ 100 ∧ (vs.getD i default).low ≤ (vs.getD i default).high

theorem cmpF_gap {op x n : Int} (h : ¬ (op < 0 ∨ 2 < op ∨ cmpF op x n = true)) : 1 ≤ apartF x n := by
  have h1 : x ≠ n := fun e => by
    subst e
    refine h (.inr (.inr ?_))
    unfold cmpF
    have : op = 0 ∨ op = 1 ∨ op = 2 := by omega
    rcases this with rfl | rfl | rfl <;> simp
  unfold apartF sat
  omega
theorem cmpF_near {op x y n r : Int} (h : ¬ (op < 0 ∨ 2 < op ∨ cmpF op x n = true)) (h2 : cmpF op y n = true) (h3 : y - x ≤ r) (h4 : x - y ≤ r) : apartF x n ≤ r := by
  have h5 : op = 0 ∨ op = 1 ∨ op = 2 := by omega
  have h6 : ¬ cmpF op x n = true := fun e => h (.inr (.inr e))
  unfold apartF sat
  rcases h5 with rfl | rfl | rfl
  · simp only [cmpF, if_true, decide_eq_true_eq] at h2 h6; omega
  · simp [cmpF] at h2 h6; omega
  · simp [cmpF] at h2 h6; omega

/-- one goal -/
theorem guess_step {vs : List Var} {acts : List PAct} {a : PAct} (ha : a ∈ acts) (hf : Few vs) {at0 : List Int} (c : Cd) :
    guessF vs acts (cutF vs at0) c ≤ guessF vs acts (makesF vs (cutF vs at0) a.make) c + costF a.cost ∧ 0 ≤ guessF vs acts (makesF vs (cutF vs at0) a.make) c := by
  have hc := cost_in a.cost
  unfold guessF
  cases hi : varI vs c.name with
  | none => simp only; omega
  | some i =>
    simp only
    obtain ⟨hilt, hin⟩ := varI_lt hi
    obtain ⟨hlo, hhi, hlh⟩ := hf i hilt
    have hx := cut_at vs at0 i hilt
    have hx1 : (vs.getD i default).low ≤ (cutF vs at0).getD i 0 ∧ (cutF vs at0).getD i 0 ≤ (vs.getD i default).high := by rw [hx]; unfold cutIn; omega
    obtain ⟨m1, m2, m3, m4, m5⟩ := moved hi hlo hhi hlh _ hx1 a.make (cutF vs at0) (0, false) (cut_len vs at0) (by simp) hx1.1 hx1.2 (by simp) (by simp) (fun _ => rfl)
    generalize (cutF vs at0).getD i 0 = x at *
    generalize hy : (makesF vs (cutF vs at0) a.make).getD i 0 = y at *
    by_cases hs : c.op < 0 ∨ 2 < c.op ∨ cmpF c.op x c.n = true
    · rw [if_pos hs]
      by_cases ht : c.op < 0 ∨ 2 < c.op ∨ cmpF c.op y c.n = true
      · rw [if_pos ht]; omega
      · rw [if_neg ht]
        have := val_nn (acts := acts) (v := vs.getD i default) (cmpF_gap ht)
        omega
    · rw [if_neg hs]
      by_cases hk : (turnsF a.make (vs.getD i default)).2 = true
      · by_cases ht : c.op < 0 ∨ 2 < c.op ∨ cmpF c.op y c.n = true
        · rw [if_pos ht]
          have ht' : cmpF c.op y c.n = true := by
            rcases ht with h | h | h
            · exact absurd (.inl h) hs
            · exact absurd (.inr (.inl h)) hs
            · exact h
          have := val_one ha hk (cmpF_gap hs) (cmpF_near hs ht' m3 m4)
          omega
        · rw [if_neg ht]
          have h7 := val_nn (acts := acts) (v := vs.getD i default) (cmpF_gap ht)
          refine ⟨val_step ha hk ?_, h7⟩
          have m3' : y - x ≤ (turnsF a.make (vs.getD i default)).1 := m3
          have m4' : x - y ≤ (turnsF a.make (vs.getD i default)).1 := m4
          unfold apartF sat
          omega
      · have e : y = x := m5 (by simpa [turnsF] using hk)
        rw [e, if_neg hs]
        have := val_nn (acts := acts) (v := vs.getD i default) (cmpF_gap hs)
        omega
theorem best_step {vs : List Var} {acts : List PAct} {a : PAct} (ha : a ∈ acts) (hf : Few vs) {at0 : List Int} : ∀ (l : List Cd) (p q : Int), p ≤ q + costF a.cost → 
    l.foldl (fun out c => max out (guessF vs acts (cutF vs at0) c)) p ≤ l.foldl (fun out c => max out (guessF vs acts (makesF vs (cutF vs at0) a.make) c)) q + costF a.cost
  | [], _, _, h => h
  | c :: l, p, q, h => best_step ha hf l (max p (guessF vs acts (cutF vs at0) c)) (max q (guessF vs acts (makesF vs (cutF vs at0) a.make) c)) (by have := guess_step ha hf (at0 := at0) c; omega)
theorem cut_same {vs : List Var} : ∀ {l : List Int}, l.length = vs.length → (∀ i, i < vs.length → (vs.getD i default).low ≤ l.getD i 0 ∧ l.getD i 0 ≤ (vs.getD i default).high) → cutF vs l = l := by
  intro l hl h
  apply List.ext_getElem?
  intro i
  rcases Nat.lt_or_ge i vs.length with hi | hi
  · have h1 := cut_at vs l i hi
    have h2 := h i hi
    have h3 : (cutF vs l)[i]? = some ((cutF vs l).getD i 0) := by
      have : i < (cutF vs l).length := by rw [cut_len]; exact hi
      simp [List.getD, List.getElem?_eq_getElem this]
    have h4 : l[i]? = some (l.getD i 0) := by
      have : i < l.length := by omega
      simp [List.getD, List.getElem?_eq_getElem this]
    rw [h3, h4, h1]
    unfold cutIn
    congr 1
    omega
  · rw [List.getElem?_eq_none (by rw [cut_len]; exact hi), List.getElem?_eq_none (by omega)]
/-- every var stays cutIn its bounds -/
theorem makes_in {vs : List Var} (hf : Few vs) : ∀ (l : List Mk) (at0 : List Int), at0.length = vs.length → (∀ i, i < vs.length → (vs.getD i default).low ≤ at0.getD i 0 ∧ at0.getD i 0 ≤ (vs.getD i default).high) →
    ∀ i, i < vs.length → (vs.getD i default).low ≤ (makesF vs at0 l).getD i 0 ∧ (makesF vs at0 l).getD i 0 ≤ (vs.getD i default).high
  | [], _, _, h => h
  | m :: l, at0, hl, h => makes_in hf l (makeF vs at0 m) (by rw [make_len]; exact hl) fun i hi => by
    unfold makeF
    cases hv : varI vs m.name with
    | none => exact h i hi
    | some j =>
      simp only
      by_cases hij : j = i
      · subst hij
        have e : (at0.set j (turn (vs.getD j default) (at0.getD j 0) m)).getD j 0 = turn (vs.getD j default) (at0.getD j 0) m := by simp [List.getD, hl, hi]
        rw [e]
        have := (hf j hi).2.2
        unfold turn cutIn
        omega
      · have e : (at0.set j (turn (vs.getD j default) (at0.getD j 0) m)).getD i 0 = at0.getD i 0 := by simp only [List.getD, List.getElem?_set, hij, if_false]
        rw [e]
        exact h i hi
theorem Guess_step {d : Dom} (hf : Few d.vars) {a : PAct} (ha : a ∈ d.acts) {at0 next : List Int} (hn : afterF d at0 a = some next) : GuessF d at0 ≤ GuessF d next + costF a.cost := by
  unfold afterF at hn
  split at hn
  · cases hn
    have h1 := cut_len d.vars at0
    have h2 : cutF d.vars (makesF d.vars (cutF d.vars at0) a.make) = makesF d.vars (cutF d.vars at0) a.make := cut_same (by rw [makes_len]; exact h1) (makes_in hf a.make _ h1 fun i hi => by
      rw [cut_at d.vars at0 i hi]
      have := (hf i hi).2.2
      unfold cutIn
      omega)
    unfold GuessF bestF
    rw [h2]
    exact best_step ha hf d.goal 0 0 (by have := cost_in a.cost; omega)
  · cases hn
theorem best_le {vs : List Var} {acts : List PAct} (hf : Few vs) {at0 : List Int} : ∀ (l : List Cd) (p : Int), (∀ c ∈ l, -1000 ≤ c.n ∧ c.n ≤ 1000) → 0 ≤ p → p ≤ 2000000 → 0 ≤ l.foldl (fun out c => max out (guessF vs acts (cutF vs at0) c)) p ∧ l.foldl (fun out c => max out (guessF vs acts (cutF vs at0) c)) p ≤ 2000000
  | [], _, _, h0, h => ⟨h0, h⟩
  | c :: l, p, hl, h0, h => best_le hf l (max p (guessF vs acts (cutF vs at0) c)) (fun b hb => hl b (List.mem_cons_of_mem _ hb)) (by omega) (by
    have hc := hl c List.mem_cons_self
    have : guessF vs acts (cutF vs at0) c ≤ 2000000 := by
      unfold guessF
      cases hi : varI vs c.name with
      | none => simp only; omega
      | some i =>
        simp only
        obtain ⟨hilt, _⟩ := varI_lt hi
        obtain ⟨hlo, hhi, hlh⟩ := hf i hilt
        have hx := cut_at vs at0 i hilt
        split
        · omega
        · rename_i hs
          refine val_le (cmpF_gap hs) ?_
          rw [hx]
          unfold apartF sat cutIn
          omega
    omega)
theorem Guess_le {d : Dom} (hf : Few d.vars) (hg : ∀ c ∈ d.goal, -1000 ≤ c.n ∧ c.n ≤ 1000) (at0 : List Int) : 0 ≤ GuessF d at0 ∧ GuessF d at0 ≤ 2000000 := best_le hf d.goal 0 hg (by omega) (by omega)
end Go.Goap
