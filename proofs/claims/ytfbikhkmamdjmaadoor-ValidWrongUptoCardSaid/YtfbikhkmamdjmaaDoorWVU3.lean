/- Trees that are handed in, as the machine sees them, with their sizes. -/
import Derived.Test.YtfbikhkmamdjmaaDoorWVO3
namespace Go.Proofs.YtfbikhkmamdjmaaDoor.CodesK
open Go Go.Ab
set_option maxRecDepth 100000

theorem sz_v (y : ND) : V.sz y.v = V.szs y.cells := by unfold ND.v; rw [V.sz]
theorem cnts_szs : ∀ l : List ND, (∀ y ∈ l, y.cnt ≤ V.szs y.cells) → ND.cnts l ≤ V.szs (l.map ND.v)
  | [], _ => Nat.zero_le _
  | y :: r, h => by
    have h1 := h y List.mem_cons_self
    have h2 := cnts_szs r fun z hz => h z (List.mem_cons_of_mem _ hz)
    rw [List.map_cons, V.szs, sz_v, ND.cnts]
    omega
theorem szs_mem : ∀ {l : List ND} {y : ND}, y ∈ l → V.szs y.cells ≤ V.szs (l.map ND.v)
  | z :: r, y, h => by
    rw [List.map_cons, V.szs, sz_v]
    rcases List.mem_cons.1 h with rfl | h
    · omega
    · have := szs_mem h; omega
theorem sz_kids {u : V} {l : List ND} (huf : IsFz u (l.map ND.v)) (h : ∀ y ∈ l, y.cnt ≤ V.szs y.cells) : ND.cnts l + 1 ≤ V.sz u := by
  have h1 := cnts_szs l h
  rcases huf with ⟨rfl, hl⟩ | ⟨rfl, hl⟩ | ⟨o, rfl⟩
  · have : l = [] := by simpa using hl
    subst this
    simp [ND.cnts, V.sz]
  · have : l = [] := by simpa using hl
    subst this
    simp [ND.cnts, V.sz]
  · rw [V.sz]; omega
theorem sz_mem {u : V} {l : List ND} (huf : IsFz u (l.map ND.v)) {y : ND} (hy : y ∈ l) : V.szs y.cells ≤ V.sz u := by
  have h1 := szs_mem hy
  rcases huf with ⟨rfl, hl⟩ | ⟨rfl, hl⟩ | ⟨o, rfl⟩
  · have : l = [] := by simpa using hl
    subst this
    cases hy
  · have : l = [] := by simpa using hl
    subst this
    cases hy
  · rw [V.sz]; omega
theorem n39 : ∀ fs, Tryd.prog.underlying 39 ≠ some (.struct fs) := fun fs h => by rw [Tryd.underlying39] at h; cases h
theorem z39 : Tryd.prog.cellsOf 39 = 1 := by kernel_rfl
theorem z41 : Tryd.prog.cellsOf 41 = 10 := by kernel_rfl
theorem nd_of : ∀ (n : Nat) (r : List V), FitsR Tryd.prog n 41 r → ∃ x : ND, r = x.cells ∧ x.cnt ≤ V.szs r ∧ (V.szs r < 2 ^ 24 → x.Ok) := by
  intro n
  induction n using Nat.strongRecOn with
  | _ n ih =>
    intro r h
    obtain ⟨m, rfl, h⟩ := fits_struct Tryd.underlying41 h
    obtain ⟨a, tl, rfl, ha, h⟩ := fitsF_cons z3 n3 h
    obtain ⟨b, tl, rfl, hb, h⟩ := fitsF_cons z3 n3 h
    obtain ⟨c, tl, rfl, hc, h⟩ := fitsF_cons z3 n3 h
    obtain ⟨s, tl, rfl, hs, h⟩ := fitsF_cons z9 n9 h
    obtain ⟨hx, h⟩ := fitsF_four z24 h
    obtain ⟨x, hxc, hxo, hxs⟩ := ex_of _ _ hx
    obtain ⟨u, tl2, htl, hu, h⟩ := fitsF_cons z39 n39 h
    obtain ⟨w, tl3, rfl, hw, h⟩ := fitsF_cons z22 n22 h
    have h : tl3 = [] := h
    subst h
    obtain ⟨a', ha, haw⟩ := fits_int Tryd.underlying3 ha
    obtain ⟨b', hb, hbw⟩ := fits_int Tryd.underlying3 hb
    obtain ⟨c', hc, hcw⟩ := fits_int Tryd.underlying3 hc
    obtain ⟨s', hs, hsl⟩ := fits_str Tryd.underlying9 hs
    obtain ⟨u', kids, huu, huf, _, hui⟩ := fits_slice (f := ND.cells) (g := ND.v) (Q := fun y => y.cnt ≤ V.szs y.cells ∧ (V.szs y.cells < 2 ^ 24 → y.Ok)) Tryd.underlying39 (fun k hk r hr => ih k (by omega) r hr |>.elim fun y hy => ⟨y, hy.1, by rw [← hy.1]; exact hy.2⟩) (fun y => by rw [z41]; rfl) hu
    obtain ⟨w', ws, hwu, hwf, hwl, hwi⟩ := exs_of hw
    cases ha; cases hb; cases hc; cases hs; cases huu; cases hwu
    have htl3 : tl = x.cells ++ [u, w] := by rw [← hxc, ← htl, List.take_append_drop]
    have hk1 := sz_kids huf fun y hy => (hui y hy).1
    have hsz : V.sz u ≤ V.szs (i64 a' :: i64 b' :: i64 c' :: V.str s' :: tl) := by
      rw [htl3]
      simp only [V.szs, szs_app]
      omega
    refine ⟨.mk a' b' c' s' x kids u ws w, by rw [htl3]; rfl, ?_, fun hbnd => ?_⟩
    · rw [ND.cnt_eq]
      exact Nat.le_trans hk1 hsz
    · have hbnd : V.szs (i64 a' :: i64 b' :: i64 c' :: V.str s' :: tl) < 2 ^ 24 := hbnd
      have hlen := ND.cnts_len kids
      exact .mk (in64_wf haw) (in64_wf hbw) (in64_wf hcw) (Nat.lt_of_le_of_lt hsl reach_lt) hxo huf hwf (fun y hy => (hwi y hy).1) hxs hwl (fun y hy => (hwi y hy).2) (by show kids.length < _; omega) fun y hy => (hui y hy).2 (by have := sz_mem huf hy; omega)
end Go.Proofs.YtfbikhkmamdjmaaDoor.CodesK
