/- Flat lists that are handed in, as the machine sees them. -/
import Derived.Test.YtfbikhkmamdjmaaDoorWV19
namespace Go.Proofs.YtfbikhkmamdjmaaDoor.CodesK
open Go Go.Ab
set_option maxRecDepth 100000

section
variable {P : Program}
theorem fits_int {n : Nat} {t : TypeId} {us : List V} {k : IntKind} (hu : P.underlying t = some (.int k)) (h : FitsR P n t us) : ∃ z, us = [.int k z] ∧ (Lit.int k z).wf = true := by
  cases n with
  | zero => exact h.elim
  | succ n => unfold FitsR at h; rw [hu] at h; exact h
theorem fits_str {n : Nat} {t : TypeId} {us : List V} (hu : P.underlying t = some .string) (h : FitsR P n t us) : ∃ s : List Nat, us = [.str s] ∧ s.length ≤ reachBytes := by
  cases n with
  | zero => exact h.elim
  | succ n => unfold FitsR at h; rw [hu] at h; obtain ⟨s, h, hl, _⟩ := h; exact ⟨s, h, hl⟩
theorem fits_struct {n : Nat} {t : TypeId} {us : List V} {fs : Array Field} (hu : P.underlying t = some (.struct fs)) (h : FitsR P n t us) : ∃ m, n = m + 1 ∧ FitsF P (FitsR P m) fs.toList us := by
  cases n with
  | zero => exact h.elim
  | succ n => unfold FitsR at h; rw [hu] at h; exact ⟨n, rfl, h⟩
theorem fits_rows {α : Type} {n : Nat} {e : TypeId} {f : α → List V} {g : α → V} {Q : α → Prop} (hrow : ∀ r, FitsR P n e r → ∃ x, r = f x ∧ Q x) (hg : ∀ x, Go.Ab.elemOf (P.cellsOf e) (f x) = g x) : ∀ rows : List (List V), (∀ r ∈ rows, r.length = P.cellsOf e ∧ FitsR P n e r) → ∃ l : List α, rows.map (Go.Ab.elemOf (P.cellsOf e)) = l.map g ∧ l.length = rows.length ∧ ∀ x ∈ l, Q x
  | [], _ => ⟨[], rfl, rfl, fun x hx => by cases hx⟩
  | r :: rows, h => by
    obtain ⟨l, h1, h3, h2⟩ := fits_rows hrow hg rows fun q hq => h q (List.mem_cons_of_mem _ hq)
    obtain ⟨x, rfl, hx⟩ := hrow r (h r List.mem_cons_self).2
    refine ⟨x :: l, by rw [List.map_cons, List.map_cons, h1, hg], by simp [h3], fun y hy => ?_⟩
    rcases List.mem_cons.1 hy with rfl | hy
    · exact hx
    · exact h2 y hy
theorem fits_slice {α : Type} {n : Nat} {t e : TypeId} {us : List V} (hu : P.underlying t = some (.slice e)) {f : α → List V} {g : α → V} {Q : α → Prop} (hrow : ∀ m, m < n → ∀ r, FitsR P m e r → ∃ x, r = f x ∧ Q x) (hg : ∀ x, Go.Ab.elemOf (P.cellsOf e) (f x) = g x) (h : FitsR P n t us) :
    ∃ (u : V) (l : List α), us = [u] ∧ IsFz u (l.map g) ∧ l.length * P.bytesOf e ≤ reachBytes ∧ ∀ x ∈ l, Q x := by
  cases n with
  | zero => exact h.elim
  | succ n =>
    unfold FitsR at h
    rw [hu] at h
    rcases h with rfl | rfl | ⟨rows, rfl, _, hb, hr⟩
    · exact ⟨_, [], rfl, .inl ⟨rfl, rfl⟩, by simp, fun x hx => by cases hx⟩
    · exact ⟨_, [], rfl, .inr (.inl ⟨rfl, rfl⟩), by simp, fun x hx => by cases hx⟩
    · obtain ⟨l, h1, h3, h2⟩ := fits_rows (hrow n (Nat.lt_succ_self n)) hg rows hr
      exact ⟨_, l, rfl, .inr (.inr ⟨none, by rw [h1]⟩), by rw [h3]; exact hb, h2⟩
theorem fits_one {m : Nat} {t : TypeId} {us : List V} (ht : ∀ fs, P.underlying t ≠ some (.struct fs)) (h : FitsR P m t us) : ∃ u, us = [u] := by
  cases m with
  | zero => exact h.elim
  | succ m =>
    unfold FitsR at h
    split at h
    · obtain ⟨b, h⟩ := h; exact ⟨_, h⟩
    · obtain ⟨b, h, _⟩ := h; exact ⟨_, h⟩
    · obtain ⟨b, h, _⟩ := h; exact ⟨_, h⟩
    · rcases h with h | h | ⟨rows, h, _⟩ <;> exact ⟨_, h⟩
    · rename_i fs hu; exact absurd hu (ht fs)
    · exact h.elim
theorem fitsF_cons {m : Nat} {f : Field} {r : List Field} {us : List V} (hc : P.cellsOf f.type = 1) (ht : ∀ fs, P.underlying f.type ≠ some (.struct fs)) (h : FitsF P (FitsR P m) (f :: r) us) : ∃ u tl, us = u :: tl ∧ FitsR P m f.type [u] ∧ FitsF P (FitsR P m) r tl := by
  obtain ⟨h1, h2⟩ := h
  rw [hc] at h1 h2
  obtain ⟨u, hu⟩ := fits_one ht h1
  cases us with
  | nil => cases hu
  | cons a tl =>
    have : a = u := by simpa using hu
    subst this
    exact ⟨a, tl, rfl, by simpa using h1, by simpa using h2⟩
theorem fitsF_four {m : Nat} {f : Field} {r : List Field} {us : List V} (hc : P.cellsOf f.type = 4) (h : FitsF P (FitsR P m) (f :: r) us) : FitsR P m f.type (us.take 4) ∧ FitsF P (FitsR P m) r (us.drop 4) := by
  obtain ⟨h1, h2⟩ := h
  rw [hc] at h1 h2
  exact ⟨h1, h2⟩
end
theorem in64_wf {z : Int} (h : (Lit.int .i64 z).wf = true) : In64 z := by
  simp only [Lit.wf, Bool.and_eq_true, decide_eq_true_eq] at h
  have e1 : IntKind.max .i64 = 9223372036854775807 := by decide
  have e2 : IntKind.min .i64 = -9223372036854775808 := by decide
  rw [e1, e2] at h
  exact h
theorem reach_lt : reachBytes < 2 ^ 60 := by decide
theorem reach_le : reachBytes ≤ 140737488355328 := by decide
theorem n9 : ∀ fs, Tryd.prog.underlying 9 ≠ some (.struct fs) := fun fs h => by rw [Tryd.underlying9] at h; cases h
theorem z9 : Tryd.prog.cellsOf 9 = 1 := by kernel_rfl
theorem n3 : ∀ fs, Tryd.prog.underlying 3 ≠ some (.struct fs) := fun fs h => by rw [Tryd.underlying3] at h; cases h
theorem z3 : Tryd.prog.cellsOf 3 = 1 := by kernel_rfl
theorem n22 : ∀ fs, Tryd.prog.underlying 22 ≠ some (.struct fs) := fun fs h => by rw [Tryd.underlying22] at h; cases h
theorem z22 : Tryd.prog.cellsOf 22 = 1 := by kernel_rfl
theorem z24 : Tryd.prog.cellsOf 24 = 4 := by kernel_rfl
theorem b24 : Tryd.prog.bytesOf 24 = 56 := by kernel_rfl
theorem ex_of : ∀ (n : Nat) (r : List V), FitsR Tryd.prog n 24 r → ∃ x : EX, r = x.cells ∧ x.Ok ∧ x.Sm := by
  intro n
  induction n using Nat.strongRecOn with
  | _ n ih =>
    intro r h
    obtain ⟨m, rfl, h⟩ := fits_struct Tryd.underlying24 h
    obtain ⟨a, tl, rfl, ha, h⟩ := fitsF_cons z3 n3 h
    obtain ⟨b, tl, rfl, hb, h⟩ := fitsF_cons z3 n3 h
    obtain ⟨c, tl, rfl, hc, h⟩ := fitsF_cons z9 n9 h
    obtain ⟨d, tl, rfl, hd, h⟩ := fitsF_cons z22 n22 h
    obtain ⟨x, hx, hxw⟩ := fits_int Tryd.underlying3 ha
    obtain ⟨y, hy, hyw⟩ := fits_int Tryd.underlying3 hb
    obtain ⟨s, hs, hsl⟩ := fits_str Tryd.underlying9 hc
    obtain ⟨u, kids, hu, hfz, hkl, hin⟩ := fits_slice (f := EX.cells) (g := EX.v) (Q := fun x => x.Ok ∧ x.Sm) Tryd.underlying22 (fun k hk r hr => ih k (by omega) r hr) (fun x => by rw [z24]; rfl) hd
    have htl : tl = [] := h
    cases hx; cases hy; cases hs; cases hu; subst htl
    rw [b24] at hkl
    exact ⟨.mk x y s kids d, rfl, .mk (in64_wf hxw) (in64_wf hyw) hfz (fun z hz => (hin z hz).1), .mk (Nat.lt_of_le_of_lt hsl reach_lt) (Nat.le_trans hkl reach_le) fun z hz => (hin z hz).2⟩
theorem exs_of {n : Nat} {us : List V} (h : FitsR Tryd.prog n 22 us) : ∃ (u : V) (l : List EX), us = [u] ∧ IsFz u (l.map EX.v) ∧ l.length * 56 ≤ 140737488355328 ∧ ∀ x ∈ l, x.Ok ∧ x.Sm := by
  obtain ⟨u, l, hu, hf, hl, hin⟩ := fits_slice (f := EX.cells) (g := EX.v) (Q := fun x => x.Ok ∧ x.Sm) Tryd.underlying22 (fun k _ r hr => ex_of k r hr) (fun x => by rw [z24]; rfl) h
  rw [b24] at hl
  exact ⟨u, l, hu, hf, Nat.le_trans hl reach_le, hin⟩
end Go.Proofs.YtfbikhkmamdjmaaDoor.CodesK
