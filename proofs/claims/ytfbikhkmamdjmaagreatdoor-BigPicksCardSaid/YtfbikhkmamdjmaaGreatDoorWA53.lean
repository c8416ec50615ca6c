/- Slices whose rows hold shut values: how they read; several slices that are made beside one another. -/
import Derived.Test.YtfbikhkmamdjmaaGreatDoorCodesS
import Derived.Test.YtfbikhkmamdjmaaGreatDoorAb5
namespace Go.Ab
/-- a slice that was made and let go -/
def slV : List V → V
  | [] => .nilsl
  | l => .fsl l none
theorem slV_fz (l : List V) : IsFz (slV l) l := by
  cases l with
  | nil => exact .inl ⟨rfl, rfl⟩
  | cons a r => exact .inr (.inr ⟨none, rfl⟩)
/-! slices of rows that hold made slices, let go -/

/-- a cell that reads as it is -/
def V.still : V → Bool
  | .int _ _ | .str _ | .bool _ | .nilsl | .esl | .fsl _ _ | .cpx _ _ _ | .flt _ _ => true
  | _ => false
theorem freeze_still {h : Heap} {n k : Nat} {v : V} (hv : V.still v = true) : Go.Ab.freeze h n (k + 1) v = some v := by
  cases v <;> first | rfl | cases hv
theorem freezes_still {h : Heap} {n : Nat} : ∀ (l : List V) (k : Nat), l.length < k → (∀ v ∈ l, V.still v = true) → freezes h n k l = some l
  | [], k, _, _ => by cases k <;> rfl
  | v :: r, k + 1, hk, hv => by
    simp only [List.length_cons] at hk
    obtain ⟨j, rfl⟩ : ∃ j, k = j + 1 := ⟨k - 1, by omega⟩
    simp only [freezes, freeze_still (hv v List.mem_cons_self), Option.bind_some, freezes_still r (j + 1) (by omega) fun u hu => hv u (List.mem_cons_of_mem _ hu), Option.map_some]
theorem low_still {n : Nat} {v : V} (hv : V.still v = true) : V.low n v = true := by
  cases v <;> first | rfl | cases hv
theorem lows_still {n : Nat} : ∀ (l : List V), (∀ v ∈ l, V.still v = true) → V.lows n l = true
  | [], _ => rfl
  | v :: r, h => by simp only [V.lows, low_still (h v List.mem_cons_self), lows_still r fun u hu => h u (List.mem_cons_of_mem _ hu), Bool.and_self]
theorem freezes_elemsA {h : Heap} {n : Nat} (sz : Nat) (hz : 1 < sz) : ∀ (m : Nat) (l : List V) (k : Nat), m + sz + 2 < k → (∀ v ∈ l, V.still v = true) → freezes h n k (elems sz m l) = some (elems sz m l)
  | 0, l, k, _, _ => by cases k <;> rfl
  | m + 1, l, k + 1, hk, hv => by
    have h1 : ¬ sz = 1 := by omega
    obtain ⟨j, rfl⟩ : ∃ j, k = j + 1 := ⟨k - 1, by omega⟩
    have h2 : freezes h n j (l.take sz) = some (l.take sz) := freezes_still _ _ (by have := List.length_take_le sz l; omega) fun v hm => hv v (List.mem_of_mem_take hm)
    simp only [elems, h1, if_false, freezes, Go.Ab.freeze, h2, Option.map_some, Option.bind_some, freezes_elemsA sz hz m (l.drop sz) (j + 1) (by omega) fun v hm => hv v (List.mem_of_mem_drop hm)]
theorem lows_elemsA {sz : Nat} (hz : 1 < sz) : ∀ (m : Nat) (l : List V), (∀ v ∈ l, V.still v = true) → V.lows 0 (elems sz m l) = true
  | 0, _, _ => rfl
  | m + 1, l, hv => by
    have h1 : ¬ sz = 1 := by omega
    simp only [elems, h1, if_false, V.lows, V.low, lows_still _ fun v hm => hv v (List.mem_of_mem_take hm), lows_elemsA hz m (l.drop sz) fun v hm => hv v (List.mem_of_mem_drop hm), Bool.and_self]
theorem freeze_slA {h0 : Heap} {bs : List (Option (List V))} {sz n k : Nat} {v : V} {row : List V} (hs : IsSl h0 bs sz v n row) (hn : 0 < n) (hz : 1 < sz) (hk : n + sz + 3 < k) (hv : ∀ u ∈ row, V.still u = true) : Go.Ab.freeze (hp h0 bs) h0.next k v = some (.fsl (elems sz n row) none) := by
  obtain ⟨h1, ⟨rfl, rfl⟩ | ⟨j, l, rfl, e2, e3, e4⟩⟩ := hs
  · omega
  · obtain ⟨k, rfl⟩ : ∃ j, k = j + 1 := ⟨k - 1, by omega⟩
    have h2 : ¬ h0.next + j < h0.next := by omega
    have h3 : (0 + n) * sz ≤ l.length := by simpa using e3
    have h4 : 0 < sz := by omega
    have h5 : elems sz n l = elems sz n row := by rw [← e4, elems_take sz n l e3]
    have h6 : (l.drop (0 * sz)) = l := by simp
    simp only [Go.Ab.freeze, h2, if_false, hp_cells, e2, h3, decide_true, h4, Bool.and_self, if_true, h6, h5]
    rw [freezes_elemsA sz hz n row k (by omega) hv]
    simp only [Option.bind_some, lows_elemsA hz n row hv, if_true]
/-- rows of cells as elements -/
theorem elems_flat {α : Type} (f : α → List V) {sz : Nat} (hz : 1 < sz) (hf : ∀ x, (f x).length = sz) : ∀ l : List α, elems sz l.length (l.flatMap f) = l.map fun x => V.agg (f x)
  | [] => rfl
  | x :: r => by
    have h1 : ¬ sz = 1 := by omega
    have h2 : (f x ++ r.flatMap f).take sz = f x := List.take_left' (hf x)
    have h3 : (f x ++ r.flatMap f).drop sz = r.flatMap f := List.drop_left' (hf x)
    simp only [List.length_cons, List.flatMap_cons, List.map_cons, elems, h1, if_false, h2, h3, elems_flat f hz hf r]
/-- a slice that was made row by row, let go -/
theorem freeze_made {α : Type} (f : α → List V) {h0 : Heap} {bs : List (Option (List V))} {sz k : Nat} {v : V} {l : List α} (hs : IsSl h0 bs sz v l.length (l.flatMap f)) (hz : 1 < sz) (hf : ∀ x, (f x).length = sz) (hk : l.length + sz + 3 < k) (hv : ∀ x ∈ l, ∀ u ∈ f x, V.still u = true) (hnil : l = [] → v = .nilsl) :
    Go.Ab.freeze (hp h0 bs) h0.next k v = some (slV (l.map fun x => V.agg (f x))) := by
  cases l with
  | nil =>
    obtain ⟨k, rfl⟩ : ∃ j, k = j + 1 := ⟨k - 1, by omega⟩
    rw [hnil rfl]
    rfl
  | cons a r =>
    rw [freeze_slA hs (by simp) hz hk (fun u hu => by
      obtain ⟨x, hx, hu⟩ := List.mem_flatMap.1 hu
      exact hv x hx u hu), elems_flat f hz hf]
    rfl

theorem slV_still (l : List V) : V.still (slV l) = true := by cases l <;> rfl
/-- a slice that was made row by row, as it reads -/
theorem frz_made {α : Type} (f : α → List V) {h0 : Heap} {bs : List (Option (List V))} {sz k : Nat} {v : V} {l : List α} (hs : IsSl h0 bs sz v l.length (l.flatMap f)) (hz : 1 < sz) (hf : ∀ x, (f x).length = sz) (hk : l.length + sz + 3 < k) (hv : ∀ x ∈ l, ∀ u ∈ f x, V.still u = true) (hnil : l = [] → v = .nilsl) :
    Go.Ab.freeze (hp h0 bs) 0 k v = some (slV (l.map fun x => V.agg (f x))) := by
  cases l with
  | nil =>
    obtain ⟨k, rfl⟩ : ∃ j, k = j + 1 := ⟨k - 1, by omega⟩
    rw [hnil rfl]
    rfl
  | cons a r =>
    obtain ⟨h1, ⟨rfl, h2⟩ | ⟨j, c, rfl, e2, e3, e4⟩⟩ := hs
    · simp at h2
    · obtain ⟨k, rfl⟩ : ∃ j, k = j + 1 := ⟨k - 1, by omega⟩
      have hel : elems sz (a :: r).length c = (a :: r).map fun x => V.agg (f x) := by
        rw [← elems_take sz _ c e3, e4, elems_flat f hz hf]
      have hst : ∀ u ∈ (a :: r).flatMap f, V.still u = true := fun u hu => by
        obtain ⟨x, hx, hu⟩ := List.mem_flatMap.1 hu
        exact hv x hx u hu
      have h3 := freezes_elemsA (h := hp h0 bs) (n := 0) sz hz (a :: r).length ((a :: r).flatMap f) k (by omega) hst
      have h4 := lows_elemsA hz (a :: r).length ((a :: r).flatMap f) hst
      rw [elems_flat f hz hf] at h3 h4
      refine frz_msl e2 (by omega) e3 ?_ h4
      rw [hel]
      exact h3

/-- where ways meet again -/
def metQ {α : Type} (E : α → Kn) (H : α → Heap) (P : α → Prop) (ex : Ex) (m' : Kn) (h' : Heap) : Prop := ex = .nrm ∧ ∃ x, P x ∧ Sup m' (E x) ∧ h' = H x
theorem W.meetQ {D : OCtx} {cap : Nat} {m : Kn} {α : Type} (E : α → Kn) (H : α → Heap) (P : α → Prop) {a b : ACode} {h : Heap} {Q : Ex → Kn → Heap → Prop} (w1 : W D cap a m h (metQ E H P)) (w2 : ∀ x, P x → W D cap b (E x) (H x) Q) : W D cap (.seq a b) m h Q :=
  W.meet E H P w1 w2

/-- where ways meet again, or the function ends -/
def metR {α : Type} (E : α → Kn) (H : α → Heap) (P : α → Prop) (Q : Ex → Kn → Heap → Prop) : Ex → Kn → Heap → Prop
  | .nrm, m', h' => ∃ x, P x ∧ Sup m' (E x) ∧ h' = H x
  | ex, m', h' => Q ex m' h'
theorem W.meetR {D : OCtx} {cap : Nat} {m : Kn} {α : Type} (E : α → Kn) (H : α → Heap) (P : α → Prop) {a b : ACode} {h : Heap} {Q : Ex → Kn → Heap → Prop} (w1 : W D cap a m h (metR E H P Q)) (w2 : ∀ x, P x → W D cap b (E x) (H x) Q) : W D cap (.seq a b) m h Q :=
  W.seq (w1.mono fun ex m' h' q => by
    cases ex with
    | nrm =>
      obtain ⟨x, hp, hs, e2⟩ := q
      subst e2
      exact (w2 x hp).sup hs
    | _ => exact q)

/-! slices beside one another -/

structure Slot where
  v : V
  sz : Nat
  n : Nat
  row : List V
def Slot.at' (h0 : Heap) (s : Slot) (j : Nat) : Prop := ∃ a b c d, s.v = .msl (h0.next + j) a b c d
/-- slices that share no block with one another nor with those of F -/
structure Slots (h0 : Heap) (bs : List (Option (List V))) (F : Nat → Prop) (l : List Slot) : Prop where
  sl : ∀ s ∈ l, IsSl h0 bs s.sz s.v s.n s.row
  apart : l.Pairwise fun s t => ∀ j, s.at' h0 j → ¬ t.at' h0 j
  off : ∀ s ∈ l, ∀ j, s.at' h0 j → ¬ F j
  low : ∀ j, F j → j < bs.length
theorem Slot.at_lt {h0 : Heap} {bs : List (Option (List V))} {s : Slot} (h : IsSl h0 bs s.sz s.v s.n s.row) {j : Nat} (hj : s.at' h0 j) : j < bs.length := by
  obtain ⟨a, b, c, d, e⟩ := hj
  obtain ⟨_, ⟨h1, _⟩ | ⟨k, l, h1, h2, _⟩⟩ := h
  · rw [h1] at e; cases e
  · rw [h1] at e
    simp only [V.msl.injEq] at e
    have := bget_lt h2
    omega
theorem Slots.app {h0 : Heap} (hf : h0.Fine) {bs : List (Option (List V))} {F : Nat → Prop} {A B : List Slot} {s : Slot} (hs : Slots h0 bs F (A ++ s :: B)) {c : List V} {bytes : Nat} (hc : c.length = s.sz) (hz : 0 < s.sz) (hb : (s.n + 1) * bytes ≤ maxRow) :
    ∃ v' bs', Does (.app s.sz bytes (.v s.v) (.v (.msl (h0.next + bs.length) s.sz 0 1 none))) (hp h0 (badd bs c)) v' (hp h0 bs') ∧ Slots h0 bs' F (A ++ ⟨v', s.sz, s.n + 1, s.row ++ c⟩ :: B) ∧ (∀ j l, F j → bget bs j = some l → bget bs' j = some l) := by
  have h1 := hs.sl s (by simp)
  obtain ⟨v', bs', hd, hsl, hkeep, hown, hle⟩ := app_all hf (IsSl.badd (c := c) h1) bget_badd hc hz hb
  rw [badd_len] at hle hown
  have hap := List.pairwise_append.1 hs.apart
  have hap2 := List.pairwise_cons.1 hap.2.1
  have old : ∀ t, (t ∈ A ∨ t ∈ B) → (∀ j, t.at' h0 j → ¬ s.at' h0 j) ∧ IsSl h0 bs t.sz t.v t.n t.row := fun t ht => by
    rcases ht with ht | ht
    · exact ⟨fun j h => hap.2.2 t ht s List.mem_cons_self j h, hs.sl t (List.mem_append_left _ ht)⟩
    · exact ⟨fun j h h' => hap2.1 t ht j h' h, hs.sl t (List.mem_append_right _ (List.mem_cons_of_mem _ ht))⟩
  have keepT : ∀ t, (t ∈ A ∨ t ∈ B) → IsSl h0 bs' t.sz t.v t.n t.row := fun t ht => by
    obtain ⟨h2, h3, h4 | ⟨k, l, e1, e2, e3, e4⟩⟩ := old t ht
    · exact ⟨h3, .inl h4⟩
    · exact ⟨h3, .inr ⟨k, l, e1, hkeep k l (bget_badd_lt e2) (fun a b d e h => h2 k ⟨_, _, _, _, e1⟩ ⟨_, _, _, _, h⟩), e3, e4⟩⟩
  have newT : ∀ j, (∃ a b d e, v' = .msl (h0.next + j) a b d e) → s.at' h0 j ∨ bs.length < j + 1 := fun j ⟨a, b, d, e, h⟩ => by
    rcases hown j a b d e h with h | h
    · exact .inl h
    · exact .inr (by omega)
  have apartT : ∀ t, (t ∈ A ∨ t ∈ B) → ∀ j, t.at' h0 j → ¬ ∃ a b d e, v' = .msl (h0.next + j) a b d e := fun t ht j h h' => by
    obtain ⟨h2, h3⟩ := old t ht
    rcases newT j h' with h4 | h4
    · exact h2 j h h4
    · have := Slot.at_lt h3 h; omega
  refine ⟨v', bs', hd, ⟨fun t ht => ?_, ?_, fun t ht j hj => ?_, fun j hj => ?_⟩, fun j l hj e => hkeep j l (bget_badd_lt e) fun a b d e h => hs.off s (by simp) j ⟨_, _, _, _, h⟩ hj⟩
  · rcases List.mem_append.1 ht with h2 | h2
    · exact keepT t (.inl h2)
    · rcases List.mem_cons.1 h2 with rfl | h2
      · exact hsl
      · exact keepT t (.inr h2)
  · refine List.pairwise_append.2 ⟨hap.1, List.pairwise_cons.2 ⟨fun t ht j hj hj' => apartT t (.inr ht) j hj' hj, hap2.2⟩, fun t ht q hq j hj hj' => ?_⟩
    rcases List.mem_cons.1 hq with rfl | hq
    · exact apartT t (.inl ht) j hj hj'
    · exact hap.2.2 t ht q (List.mem_cons_of_mem _ hq) j hj hj'
  · rcases List.mem_append.1 ht with h2 | h2
    · exact hs.off t (List.mem_append_left _ h2) j hj
    · rcases List.mem_cons.1 h2 with rfl | h2
      · intro hF
        rcases newT j hj with h4 | h4
        · exact hs.off s (by simp) j h4 hF
        · have := hs.low j hF; omega
      · exact hs.off t (List.mem_append_right _ (List.mem_cons_of_mem _ h2)) j hj
  · have := hs.low j hj; omega
/-- other blocks may change -/
theorem Slots.keep {h0 : Heap} {bs bs' : List (Option (List V))} {F : Nat → Prop} {l : List Slot} (hs : Slots h0 bs F l) (hk : ∀ j c, ¬ F j → bget bs j = some c → bget bs' j = some c) (hl : bs.length ≤ bs'.length) : Slots h0 bs' F l := by
  refine ⟨fun s h => ?_, hs.apart, hs.off, fun j hj => Nat.lt_of_lt_of_le (hs.low j hj) hl⟩
  obtain ⟨h3, h4 | ⟨k, l, e1, e2, e3, e4⟩⟩ := hs.sl s h
  · exact ⟨h3, .inl h4⟩
  · exact ⟨h3, .inr ⟨k, l, e1, hk k l (hs.off s h k ⟨_, _, _, _, e1⟩) e2, e3, e4⟩⟩
theorem Slots.badd {h0 : Heap} {bs : List (Option (List V))} {F : Nat → Prop} {l : List Slot} {c : List V} (hs : Slots h0 bs F l) : Slots h0 (badd bs c) F l :=
  hs.keep (fun j c _ e => bget_badd_lt e) (by rw [badd_len]; omega)
theorem Slots.bput {h0 : Heap} {bs : List (Option (List V))} {F : Nat → Prop} {l : List Slot} {k off n : Nat} {cs : List V} (hs : Slots h0 bs F l) (hk : F k) : Slots h0 (bput bs k off n cs) F l :=
  hs.keep (fun j c hj e => by rw [bget_bput_ne (fun h => hj (by rw [h]; exact hk))]; exact e) (by rw [bput_len]; omega)
end Go.Ab
