/- The last open node becomes a part of the one ahead: in either order. -/
import Derived.Test.YtfbikhkmamdjmaaDoorWV14
import Derived.Test.YtfbikhkmamdjmaaDoorWV6
namespace Go.Ab
/-- codes without calls, loops, jumps -/
def flatC : Nat → ACode → Bool
  | _, .skip => true
  | _, .ret => true
  | _, .region l => l.all fun s => !s.op.far && !s.op.isRecover
  | k + 1, .seq a b => flatC k a && flatC k b
  | k + 1, .cond _ a b => flatC k a && flatC k b
  | _, _ => false
theorem flat_steps (D : OCtx) (n m : Nat) : ∀ l : List Step, (l.all fun s => !s.op.far && !s.op.isRecover) = true → stepsT D (execT D n) l = stepsT D (execT D m) l
  | [], _ => rfl
  | ⟨d, op, g, ck⟩ :: l, h => by
    simp only [List.all_cons, Bool.and_eq_true, Bool.not_eq_true'] at h
    have ih := flat_steps D n m l (by simpa using h.2)
    funext st
    rw [stepsT_unf, stepsT_unf, ih, doT_near _ _ h.1.1 h.1.2, doT_near _ _ h.1.1 h.1.2]
theorem flat_exec (D : OCtx) : ∀ (k : Nat) (c : ACode), flatC k c = true → ∀ n m st, k < n → k < m → execT D n c st = execT D m c st := by
  intro k
  induction k with
  | zero =>
    intro c hc n m st hn hm
    obtain ⟨n, rfl⟩ : ∃ q, n = q + 1 := ⟨n - 1, by omega⟩
    obtain ⟨m, rfl⟩ : ∃ q, m = q + 1 := ⟨m - 1, by omega⟩
    cases c with
    | skip => rfl
    | ret => rfl
    | region l =>
      show wipedT l (stepsT D (execT D n) l st) = wipedT l (stepsT D (execT D m) l st)
      rw [flat_steps D n m l hc]
    | _ => simp [flatC] at hc
  | succ k ih =>
    intro c hc n m st hn hm
    obtain ⟨n, rfl⟩ : ∃ q, n = q + 1 := ⟨n - 1, by omega⟩
    obtain ⟨m, rfl⟩ : ∃ q, m = q + 1 := ⟨m - 1, by omega⟩
    cases c with
    | skip => rfl
    | ret => rfl
    | region l =>
      show wipedT l (stepsT D (execT D n) l st) = wipedT l (stepsT D (execT D m) l st)
      rw [flat_steps D n m l hc]
    | seq a b =>
      simp only [flatC, Bool.and_eq_true] at hc
      show (match execT D n a st with
        | some (.nrm, st') => execT D n b st'
        | e => e) = (match execT D m a st with
        | some (.nrm, st') => execT D m b st'
        | e => e)
      rw [ih a hc.1 n m st (by omega) (by omega)]
      cases execT D m a st with
      | none => rfl
      | some r =>
        obtain ⟨ex, st'⟩ := r
        cases ex with
        | nrm => exact ih b hc.2 n m st' (by omega) (by omega)
        | _ => rfl
    | cond x a b =>
      simp only [flatC, Bool.and_eq_true] at hc
      show (match evT st.fr x with
        | .bool t => execT D n (Bool.rec b a t) st
        | _ => none) = (match evT st.fr x with
        | .bool t => execT D m (Bool.rec b a t) st
        | _ => none)
      cases evT st.fr x with
      | bool t =>
        cases t with
        | true => exact ih a hc.1 n m st (by omega) (by omega)
        | false => exact ih b hc.2 n m st (by omega) (by omega)
      | _ => rfl
    | _ => simp [flatC] at hc
theorem body_at {o : OFunc} {args : List V} {h : Heap} {C : V → Heap → Prop} (hs : flatC 900 o.body = true) (hn : Nat.beq (lenL args) o.np = true) (hl : Nat.ble (lenL args) 8 = true)
    (w : W D0 (capOfD o.dep) o.body (argsK 0 args) h (doneW o.results C)) : ∃ v h', bodyT D0 (execT D0 1000) o args h = some (.ret v, h') ∧ C v h' := by
  obtain ⟨ex, st1, ⟨n, hr⟩, h1, m', h2, h3⟩ := w _ (frame_has (by rw [lenL_eq] at hl; exact Nat.le_of_ble_eq_true hl))
  obtain ⟨fr1, ds1, hp1⟩ := st1
  simp only at h1 h2 h3
  subst h1
  obtain ⟨np, dep, rs, bd⟩ := o
  have hr' : execT D0 1000 bd ⟨frameA dep args, [], h⟩ = some (ex, ⟨fr1, [], hp1⟩) := by
    rcases Nat.lt_or_ge 1000 n with hh | hh
    · rw [flat_exec D0 900 bd hs 1000 n _ (by omega) (by omega)]; exact hr
    · exact execT_le D0 hh _ _ _ hr
  have fin : ∀ vs, resK m' hp1 rs = some vs → (ex = .nrm ∨ ex = .ret) → bodyT D0 (execT D0 1000) ⟨np, dep, rs, bd⟩ args h = some (.ret (oneOr vs), hp1) := by
    intro vs hv hx
    simp only [bodyT, hn]
    rw [hr']
    rcases hx with rfl | rfl <;> (simp only [leaveT, endedT]; rw [h2.res hv]; rfl)
  cases ex with
  | nrm => obtain ⟨vs, h4, h5⟩ := h3; exact ⟨_, _, fin vs h4 (.inl rfl), h5⟩
  | ret => obtain ⟨vs, h4, h5⟩ := h3; exact ⟨_, _, fin vs h4 (.inr rfl), h5⟩
  | _ => exact h3.elim
/-- there are no maps -/
def NoMap (h : Heap) : Prop := ∀ b ∈ h.bl, blkBeq b b = true
theorem meetB_refl : ∀ (r : List (Option Blk)), (∀ b ∈ r, blkBeq b b = true) → meetB 0 r r = some r
  | [], _ => rfl
  | b :: r, h => by
    simp only [meetB, h b List.mem_cons_self, meetB_refl r fun c hc => h c (List.mem_cons_of_mem _ hc), Option.map_some]
theorem blk_refl (c : Option (List V)) : blkBeq (c.map Blk.cells) (c.map Blk.cells) = true := by
  cases c with
  | none => rfl
  | some l => exact beqs_refl l
theorem NoMap.hp {h0 : Heap} (hm : NoMap h0) (bs : List (Option (List V))) : NoMap (hp h0 bs) := fun b hb => by
  rcases List.mem_append.1 (show b ∈ (bs.map fun c => c.map Blk.cells).reverse ++ h0.bl from hb) with hb | hb
  · obtain ⟨c, _, rfl⟩ := List.mem_map.1 (List.mem_reverse.1 hb)
    exact blk_refl c
  · exact hm b hb
theorem meet3 {h0 : Heap} (hm : NoMap h0) (B : List (Option (List V))) (a b a' b' c : List V) : ∃ qa qb, meetB 3 (hp h0 (badd (badd (badd B a) b) c)).bl (hp h0 (badd (badd (badd B a') b') c)).bl = some (hp h0 (badd (B ++ [qa, qb]) c)).bl := by
  have e : ∀ x y z : Option (List V), (hp h0 (B ++ [x, y, z])).bl = z.map Blk.cells :: y.map Blk.cells :: x.map Blk.cells :: (hp h0 B).bl := fun x y z => by
    simp [hp, List.map_append, List.reverse_append]
  have e2 : ∀ p q r : List V, badd (badd (badd B p) q) r = B ++ [some p, some q, some r] := fun p q r => by simp [badd_eq]
  have e3 : ∀ x y : Option (List V), badd (B ++ [x, y]) c = B ++ [x, y, some c] := fun x y => by simp [badd_eq]
  have hB := meetB_refl _ (hm.hp B)
  have hc : blkBeq (some (.cells c)) (some (.cells c)) = true := beqs_refl c
  have hA : ∃ qa : Option (List V), meetB 1 (some (Blk.cells a) :: (hp h0 B).bl) (some (Blk.cells a') :: (hp h0 B).bl) = some (qa.map Blk.cells :: (hp h0 B).bl) := by
    cases hb : blkBeq (some (.cells a)) (some (.cells a')) with
    | true => exact ⟨some a, by simp only [meetB, hb, hB, Option.map_some]⟩
    | false => exact ⟨none, by simp only [meetB, hb, hB, Option.map_some, Option.map_none]⟩
  obtain ⟨qa, hA⟩ := hA
  have hBB : ∃ qb : Option (List V), meetB 2 (some (Blk.cells b) :: some (Blk.cells a) :: (hp h0 B).bl) (some (Blk.cells b') :: some (Blk.cells a') :: (hp h0 B).bl) = some (qb.map Blk.cells :: qa.map Blk.cells :: (hp h0 B).bl) := by
    cases hb : blkBeq (some (.cells b)) (some (.cells b')) with
    | true => exact ⟨some b, by rw [meetB]; simp only [hb, hA, Option.map_some]⟩
    | false => exact ⟨none, by rw [meetB]; simp only [hb, hA, Option.map_some, Option.map_none]⟩
  obtain ⟨qb, hBB⟩ := hBB
  refine ⟨qa, qb, ?_⟩
  rw [e2, e2, e3, e, e, e]
  simp only [Option.map_some]
  rw [meetB]
  simp only [hc, hBB, Option.map_some]
/-- a function that is run in two orders, whose ends differ in two blocks -/
theorem CallW.two {D : OCtx} {f : Nat} {o1 o2 : OFunc} {args : List V} {h0 : Heap} (hm : NoMap h0) {bs B : List (Option (List V))} {v : V} {c : List V} (hB : B.length = bs.length) (ho : D.orc f = some (bodyAny [o1, o2] 1000))
    (h1 : flatC 900 o1.body = true) (h2 : flatC 900 o2.body = true) (n1 : Nat.beq (lenL args) o1.np = true) (n2 : Nat.beq (lenL args) o2.np = true) (hl : Nat.ble (lenL args) 8 = true)
    (w1 : W D0 (capOfD o1.dep) o1.body (argsK 0 args) (hp h0 bs) (doneW o1.results fun u h' => u = v ∧ ∃ a b, h' = hp h0 (badd (badd (badd B a) b) c)))
    (w2 : W D0 (capOfD o2.dep) o2.body (argsK 0 args) (hp h0 bs) (doneW o2.results fun u h' => u = v ∧ ∃ a b, h' = hp h0 (badd (badd (badd B a) b) c))) :
    CallW D f args (hp h0 bs) fun u h' => u = v ∧ ∃ qa qb, h' = hp h0 (badd (B ++ [qa, qb]) c) := by
  obtain ⟨_, _, e1, rfl, a, b, rfl⟩ := body_at h1 n1 hl w1
  obtain ⟨_, _, e2, rfl, a', b', rfl⟩ := body_at h2 n2 hl w2
  obtain ⟨qa, qb, hq⟩ := meet3 hm B a b a' b' c
  refine CallW.orc (h' := hp h0 (badd (B ++ [qa, qb]) c)) ho ?_ ⟨rfl, qa, qb, rfl⟩
  have hnx : Nat.beq (hp h0 (badd (badd (badd B a) b) c)).next (hp h0 (badd (badd (badd B a') b') c)).next = true := by
    simp [hp, badd_eq]
  have hk : (hp h0 (badd (badd (badd B a) b) c)).next - (hp h0 bs).next = 3 := by
    show h0.next + (badd (badd (badd B a) b) c).length - (h0.next + bs.length) = 3
    rw [badd_len, badd_len, badd_len, hB]; omega
  simp only [bodyAny, List.map_cons, List.map_nil, meetAll, e1, e2, meetR, beq_refl, hnx, Bool.and_self, cond_true, hk, hq, Option.map_some]
  congr 3
  have hlen : (badd (badd (badd B a) b) c).length = (badd (B ++ [qa, qb]) c).length := by simp [badd_eq]
  show h0.next + (badd (badd (badd B a) b) c).length = h0.next + (badd (B ++ [qa, qb]) c).length
  rw [hlen]
end Go.Ab
