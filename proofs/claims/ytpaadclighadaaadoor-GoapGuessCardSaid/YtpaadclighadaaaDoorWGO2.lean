/- A domain that is handed in, as the machine sees it. -/
import Derived.Test.YtpaadclighadaaaDoorWG12
namespace Go.Proofs.YtpaadclighadaaaDoor.CodesG
open Go Go.Ab Go.Goap
set_option maxRecDepth 100000

section
variable {P : Program}
theorem fits_int {n : Nat} {t : TypeId} {us : List V} {k : IntKind} (hu : P.underlying t = some (.int k)) (h : Fits P n t us) : ∃ z, us = [.int k z] ∧ (Lit.int k z).wf = true := by
  cases n with
  | zero => exact h.elim
  | succ n => unfold Fits at h; rw [hu] at h; exact h
theorem fits_bool {n : Nat} {t : TypeId} {us : List V} (hu : P.underlying t = some .bool) (h : Fits P n t us) : ∃ b, us = [.bool b] := by
  cases n with
  | zero => exact h.elim
  | succ n => unfold Fits at h; rw [hu] at h; exact h
theorem fits_str {n : Nat} {t : TypeId} {us : List V} (hu : P.underlying t = some .string) (h : Fits P n t us) : ∃ s : List Nat, us = [.str s] := by
  cases n with
  | zero => exact h.elim
  | succ n => unfold Fits at h; rw [hu] at h; obtain ⟨s, h, _⟩ := h; exact ⟨s, h⟩
theorem fits_struct {n : Nat} {t : TypeId} {us : List V} {fs : Array Field} (hu : P.underlying t = some (.struct fs)) (h : Fits P n t us) : ∃ m, FitsF P (Fits P m) fs.toList us := by
  cases n with
  | zero => exact h.elim
  | succ n => unfold Fits at h; rw [hu] at h; exact ⟨n, h⟩
theorem fits_rows {α : Type} {n : Nat} {e : TypeId} {f : α → List V} {g : α → V} {Q : α → Prop} (hrow : ∀ n r, Fits P n e r → ∃ x, r = f x ∧ Q x) (hg : ∀ x, Go.Ab.elemOf (P.cellsOf e) (f x) = g x) : ∀ rows : List (List V), (∀ r ∈ rows, r.length = P.cellsOf e ∧ Fits P n e r) → ∃ l : List α, rows.map (Go.Ab.elemOf (P.cellsOf e)) = l.map g ∧ ∀ x ∈ l, Q x
  | [], _ => ⟨[], rfl, fun x hx => by cases hx⟩
  | r :: rows, h => by
    obtain ⟨l, h1, h2⟩ := fits_rows hrow hg rows fun q hq => h q (List.mem_cons_of_mem _ hq)
    obtain ⟨x, rfl, hx⟩ := hrow n r (h r List.mem_cons_self).2
    refine ⟨x :: l, by rw [List.map_cons, List.map_cons, h1, hg], fun y hy => ?_⟩
    rcases List.mem_cons.1 hy with rfl | hy
    · exact hx
    · exact h2 y hy
theorem fits_slice {α : Type} {n : Nat} {t e : TypeId} {us : List V} (hu : P.underlying t = some (.slice e)) {f : α → List V} {g : α → V} {Q : α → Prop} (hrow : ∀ n r, Fits P n e r → ∃ x, r = f x ∧ Q x) (hg : ∀ x, Go.Ab.elemOf (P.cellsOf e) (f x) = g x) (h : Fits P n t us) :
    ∃ (u : V) (l : List α), us = [u] ∧ IsFz u (l.map g) ∧ (∀ x ∈ l, Q x) ∧ l.length ≤ maxLen := by
  cases n with
  | zero => exact h.elim
  | succ n =>
    unfold Fits at h
    rw [hu] at h
    rcases h with rfl | rfl | ⟨rows, rfl, _, hlen, hr⟩
    · exact ⟨_, [], rfl, .inl ⟨rfl, rfl⟩, (fun x hx => by cases hx), Nat.zero_le _⟩
    · exact ⟨_, [], rfl, .inr (.inl ⟨rfl, rfl⟩), (fun x hx => by cases hx), Nat.zero_le _⟩
    · obtain ⟨l, h1, h2⟩ := fits_rows hrow hg rows hr
      have h3 := congrArg List.length h1
      simp only [List.length_map] at h3
      exact ⟨_, l, rfl, .inr (.inr ⟨none, by rw [h1]⟩), h2, by omega⟩
theorem fits_one {m : Nat} {t : TypeId} {us : List V} (ht : ∀ fs, P.underlying t ≠ some (.struct fs)) (h : Fits P m t us) : ∃ u, us = [u] := by
  cases m with
  | zero => exact h.elim
  | succ m =>
    unfold Fits at h
    split at h
    · obtain ⟨b, h⟩ := h; exact ⟨_, h⟩
    · obtain ⟨b, h, _⟩ := h; exact ⟨_, h⟩
    · obtain ⟨b, h, _⟩ := h; exact ⟨_, h⟩
    · rcases h with h | h | ⟨rows, h, _⟩ <;> exact ⟨_, h⟩
    · rename_i fs hu; exact absurd hu (ht fs)
    · exact h.elim
theorem fitsF_cons {m : Nat} {f : Field} {r : List Field} {us : List V} (hc : P.cellsOf f.type = 1) (ht : ∀ fs, P.underlying f.type ≠ some (.struct fs)) (h : FitsF P (Fits P m) (f :: r) us) : ∃ u tl, us = u :: tl ∧ Fits P m f.type [u] ∧ FitsF P (Fits P m) r tl := by
  obtain ⟨h1, h2⟩ := h
  rw [hc] at h1 h2
  obtain ⟨u, hu⟩ := fits_one ht h1
  cases us with
  | nil => cases hu
  | cons a tl =>
    have : a = u := by simpa using hu
    subst this
    exact ⟨a, tl, rfl, by simpa using h1, by simpa using h2⟩
end
structure DLen (d : DR) : Prop where
  vars : d.vars.length ≤ maxLen
  acts : d.acts.length ≤ maxLen
  goal : d.goal.length ≤ maxLen
theorem in64_wf {z : Int} (h : (Lit.int .i64 z).wf = true) : In64 z := by
  simp only [Lit.wf, Bool.and_eq_true, decide_eq_true_eq] at h
  have e1 : IntKind.max .i64 = 9223372036854775807 := by decide
  have e2 : IntKind.min .i64 = -9223372036854775808 := by decide
  rw [e1, e2] at h
  exact h

theorem n9 : ∀ fs, Tryd.prog.underlying 9 ≠ some (.struct fs) := fun fs h => by rw [Tryd.underlying9] at h; cases h
theorem n3 : ∀ fs, Tryd.prog.underlying 3 ≠ some (.struct fs) := fun fs h => by rw [Tryd.underlying3] at h; cases h
theorem n4 : ∀ fs, Tryd.prog.underlying 4 ≠ some (.struct fs) := fun fs h => by rw [Tryd.underlying4] at h; cases h
theorem n22 : ∀ fs, Tryd.prog.underlying 22 ≠ some (.struct fs) := fun fs h => by rw [Tryd.underlying22] at h; cases h
theorem n23 : ∀ fs, Tryd.prog.underlying 23 ≠ some (.struct fs) := fun fs h => by rw [Tryd.underlying23] at h; cases h
theorem n24 : ∀ fs, Tryd.prog.underlying 24 ≠ some (.struct fs) := fun fs h => by rw [Tryd.underlying24] at h; cases h
theorem n29 : ∀ fs, Tryd.prog.underlying 29 ≠ some (.struct fs) := fun fs h => by rw [Tryd.underlying29] at h; cases h
theorem z9 : Tryd.prog.cellsOf 9 = 1 := by kernel_rfl
theorem z3 : Tryd.prog.cellsOf 3 = 1 := by kernel_rfl
theorem z4 : Tryd.prog.cellsOf 4 = 1 := by kernel_rfl
theorem z22 : Tryd.prog.cellsOf 22 = 1 := by kernel_rfl
theorem z23 : Tryd.prog.cellsOf 23 = 1 := by kernel_rfl
theorem z24 : Tryd.prog.cellsOf 24 = 1 := by kernel_rfl
theorem z29 : Tryd.prog.cellsOf 29 = 1 := by kernel_rfl
theorem z73 : Tryd.prog.cellsOf 73 = 3 := by kernel_rfl
theorem z39 : Tryd.prog.cellsOf 39 = 3 := by kernel_rfl
theorem z75 : Tryd.prog.cellsOf 75 = 3 := by kernel_rfl
theorem z31 : Tryd.prog.cellsOf 31 = 4 := by kernel_rfl

theorem var_of (n : Nat) (r : List V) (h : Fits Tryd.prog n 73 r) : ∃ v : Var, r = varC v ∧ VarIn v := by
  obtain ⟨m, h⟩ := fits_struct Tryd.underlying73 h
  obtain ⟨a, tl, rfl, ha, h⟩ := fitsF_cons z9 n9 h
  obtain ⟨b, tl, rfl, hb, h⟩ := fitsF_cons z3 n3 h
  obtain ⟨c, tl, rfl, hc, h⟩ := fitsF_cons z3 n3 h
  obtain ⟨s, hs⟩ := fits_str Tryd.underlying9 ha
  obtain ⟨x, hx, hxw⟩ := fits_int Tryd.underlying3 hb
  obtain ⟨y, hy, hyw⟩ := fits_int Tryd.underlying3 hc
  have htl : tl = [] := h
  cases hs; cases hx; cases hy; subst htl
  exact ⟨⟨s, x, y⟩, rfl, in64_wf hxw, in64_wf hyw⟩
theorem cd_of (n : Nat) (r : List V) (h : Fits Tryd.prog n 39 r) : ∃ c : Cd, r = cdC c ∧ In64 c.n := by
  obtain ⟨m, h⟩ := fits_struct Tryd.underlying39 h
  obtain ⟨a, tl, rfl, ha, h⟩ := fitsF_cons z9 n9 h
  obtain ⟨b, tl, rfl, hb, h⟩ := fitsF_cons z3 n3 h
  obtain ⟨c, tl, rfl, hc, h⟩ := fitsF_cons z3 n3 h
  obtain ⟨s, hs⟩ := fits_str Tryd.underlying9 ha
  obtain ⟨x, hx, hxw⟩ := fits_int Tryd.underlying3 hb
  obtain ⟨y, hy, hyw⟩ := fits_int Tryd.underlying3 hc
  have htl : tl = [] := h
  cases hs; cases hx; cases hy; subst htl
  exact ⟨⟨s, x, y⟩, rfl, in64_wf hyw⟩
theorem mk_of (n : Nat) (r : List V) (h : Fits Tryd.prog n 75 r) : ∃ m : Mk, r = mkC m ∧ In64 m.n := by
  obtain ⟨m, h⟩ := fits_struct Tryd.underlying75 h
  obtain ⟨a, tl, rfl, ha, h⟩ := fitsF_cons z9 n9 h
  obtain ⟨b, tl, rfl, hb, h⟩ := fitsF_cons z4 n4 h
  obtain ⟨c, tl, rfl, hc, h⟩ := fitsF_cons z3 n3 h
  obtain ⟨s, hs⟩ := fits_str Tryd.underlying9 ha
  obtain ⟨x, hx⟩ := fits_bool Tryd.underlying4 hb
  obtain ⟨y, hy, hyw⟩ := fits_int Tryd.underlying3 hc
  have htl : tl = [] := h
  cases hs; cases hx; cases hy; subst htl
  exact ⟨⟨s, x, y⟩, rfl, in64_wf hyw⟩
theorem act_of (n : Nat) (r : List V) (h : Fits Tryd.prog n 31 r) : ∃ a : AR, r = arC a ∧ ∀ m ∈ a.a.make, In64 m.n := by
  obtain ⟨m, h⟩ := fits_struct Tryd.underlying31 h
  obtain ⟨a, tl, rfl, ha, h⟩ := fitsF_cons z9 n9 h
  obtain ⟨b, tl, rfl, hb, h⟩ := fitsF_cons z3 n3 h
  obtain ⟨c, tl, rfl, hc, h⟩ := fitsF_cons z24 n24 h
  obtain ⟨d, tl, rfl, hd, h⟩ := fitsF_cons z29 n29 h
  obtain ⟨s, hs⟩ := fits_str Tryd.underlying9 ha
  obtain ⟨x, hx, hxw⟩ := fits_int Tryd.underlying3 hb
  obtain ⟨u, nd, hu, hnd, _, _⟩ := fits_slice (g := cdV) Tryd.underlying24 cd_of (fun x => by rw [z39]; rfl) hc
  obtain ⟨w, mk, hw, hmk, hin, _⟩ := fits_slice (g := mkV) Tryd.underlying29 mk_of (fun x => by rw [z75]; rfl) hd
  have htl : tl = [] := h
  cases hs; cases hx; cases hu; cases hw; subst htl
  exact ⟨⟨⟨s, x, nd, mk⟩, c, d, hnd, hmk⟩, rfl, hin⟩
def DGood (d : DR) : Prop := DLit d ∧ DLen d
theorem dom_of {n : Nat} {us : List V} (h : Fits Tryd.prog n 26 us) : ∃ d : DR, us = d.cells ∧ DGood d := by
  obtain ⟨m, h⟩ := fits_struct Tryd.underlying26 h
  obtain ⟨a, tl, rfl, ha, h⟩ := fitsF_cons z9 n9 h
  obtain ⟨b, tl, rfl, hb, h⟩ := fitsF_cons z22 n22 h
  obtain ⟨c, tl, rfl, hc, h⟩ := fitsF_cons z23 n23 h
  obtain ⟨d, tl, rfl, hd, h⟩ := fitsF_cons z24 n24 h
  obtain ⟨s, hs⟩ := fits_str Tryd.underlying9 ha
  obtain ⟨u, vs, hu, hvs, hvi, hvn⟩ := fits_slice (g := varV) Tryd.underlying22 var_of (fun x => by rw [z73]; rfl) hb
  obtain ⟨w, al, hw, has, hai, han⟩ := fits_slice (g := AR.v) Tryd.underlying23 act_of (fun x => by rw [z31]; rfl) hc
  obtain ⟨y, gl, hy, hgl, hgi, hgn⟩ := fits_slice (g := cdV) Tryd.underlying24 cd_of (fun x => by rw [z39]; rfl) hd
  have htl : tl = [] := h
  cases hs; cases hu; cases hw; cases hy; subst htl
  exact ⟨⟨s, vs, al, gl, b, c, d, hvs, has, hgl⟩, rfl, ⟨hvi, hai, hgi⟩, ⟨hvn, han, hgn⟩⟩
theorem law_w (d : DR) (hd : DGood d) {u : V} {l : List Int} (hu : IsInts u l) (hs : ∀ z ∈ l, (Lit.int .i64 z).wf = true) (act : Int) : CallW D1 4 [d.v, u, .int .i64 act] Heap.empty fun v _ => v = .bool true :=
  (guessLaw_pu d hd.1 hd.2.vars hd.2.acts hu (fun i => by
    by_cases hi : i < l.length
    · have : l.getD i 0 ∈ l := getD_mem hi
      exact in64_wf (hs _ this)
    · have : l.getD i 0 = 0 := by simp [List.getD, List.getElem?_eq_none (by omega : l.length ≤ i)]
      rw [this]; exact in0) act Heap.empty fine0).mono fun _ _ hc => hc.1
end Go.Proofs.YtpaadclighadaaaDoor.CodesG
