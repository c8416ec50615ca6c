/- The program's reader: numbers, names, signs; an expression made of others. -/
import Derived.Test.YtfbikhkmamdjmaaDoorWX1
namespace Go.Proofs.YtfbikhkmamdjmaaDoor.CodesX
open Go Go.Ab
set_option maxHeartbeats 1600000
set_option maxRecDepth 20000
section
variable {ts l : List Tk} {r : Nat}
theorem ofT_out {k : Nat} {l : List Tk} : ofT k l ≠ .out := by
  unfold ofT
  split
  · exact fun h => by cases h
  · split <;> exact fun h => by cases h
theorem int_px (hs : Suf ts l) (hl : ts.length < 2 ^ 60) : PX D1 TP 205 [.mptr r 0] r (Lv ts) (po ts l) ((ofT 3 l).ans (fun t => i64 (t.n : Nat)) ts) := by
  have ho := of_px (r := r) hs 3 (by decide) hl
  refine PX.tidy rfl rfl rfl rfl rfl fun h hf hr => ?_
  cases hR : ofT 3 l with
  | ok t l' =>
    rw [hR] at ho
    obtain ⟨tk, tn, tp, tt⟩ := t
    change PX D1 TP 232 [.mptr r 0, i64 3] r (Lv ts) (po ts l) (.val (.agg [.int .i64 (tk : Nat), .int .i64 (tn : Nat), .int .i64 (tp : Nat), .str tt]) (po ts l')) at ho
    show W _ _ _ _ _ (doneX _ (ansF TP r (Lv ts) h (.val (i64 (tn : Nat)) (po ts l'))))
    repeat' (first
        | refine WX.val hf hr rfl rfl ho ?_ | refine WX.near rfl (o_fieldA rfl) rfl ?_ | refine W.seq ?_ | refine W.regionX ?_ | refine WX.nil ?_ | refine W.ret ?_ | refine WX.near rfl o_mov rfl ?_ | fail)
    exact ⟨_, rfl, _, _, rfl, rfl, rfl⟩
  | bad e l' =>
    rw [hR] at ho
    change PX D1 TP 232 [.mptr r 0, i64 3] r (Lv ts) (po ts l) (.bad (e : Nat) (po ts l')) at ho
    show W _ _ _ _ _ (doneX _ (ansF TP r (Lv ts) h (.bad (e : Nat) (po ts l'))))
    repeat' (first
        | refine WX.bad hf hr rfl ho (fun b => ?_) | refine W.seq ?_ | refine W.regionX ?_ | refine WX.nil ?_ | refine WX.near rfl o_mov rfl ?_ | fail)
    exact ⟨rfl, _, _, rfl⟩
  | out => exact absurd hR ofT_out
theorem name_px (hs : Suf ts l) (hl : ts.length < 2 ^ 60) : PX D1 TP 235 [.mptr r 0] r (Lv ts) (po ts l) ((ofT 1 l).ans (fun t => .str t.s) ts) := by
  have ho := of_px (r := r) hs 1 (by decide) hl
  refine PX.tidy rfl rfl rfl rfl rfl fun h hf hr => ?_
  cases hR : ofT 1 l with
  | ok t l' =>
    rw [hR] at ho
    obtain ⟨tk, tn, tp, tt⟩ := t
    change PX D1 TP 232 [.mptr r 0, i64 1] r (Lv ts) (po ts l) (.val (.agg [.int .i64 (tk : Nat), .int .i64 (tn : Nat), .int .i64 (tp : Nat), .str tt]) (po ts l')) at ho
    show W _ _ _ _ _ (doneX _ (ansF TP r (Lv ts) h (.val (.str tt) (po ts l'))))
    repeat' (first
        | refine WX.val hf hr rfl rfl ho ?_ | refine WX.near rfl (o_fieldA rfl) rfl ?_ | refine W.seq ?_ | refine W.regionX ?_ | refine WX.nil ?_ | refine W.ret ?_ | refine WX.near rfl o_mov rfl ?_ | fail)
    exact ⟨_, rfl, _, _, rfl, rfl, rfl⟩
  | bad e l' =>
    rw [hR] at ho
    change PX D1 TP 232 [.mptr r 0, i64 1] r (Lv ts) (po ts l) (.bad (e : Nat) (po ts l')) at ho
    show W _ _ _ _ _ (doneX _ (ansF TP r (Lv ts) h (.bad (e : Nat) (po ts l'))))
    repeat' (first
        | refine WX.bad hf hr rfl ho (fun b => ?_) | refine W.seq ?_ | refine W.regionX ?_ | refine WX.nil ?_ | refine WX.near rfl o_mov rfl ?_ | fail)
    exact ⟨rfl, _, _, rfl⟩
  | out => exact absurd hR ofT_out
theorem must_px (hs : Suf ts l) (s : List Nat) (hl : ts.length < 2 ^ 60) : PX D1 TP 236 [.mptr r 0, .str s] r (Lv ts) (po ts l) ((mustT s l).ans (fun _ => .tup []) ts) := by
  have ho := took_px (r := r) hs s hl
  have hfl := fail_px (ts := ts) (r := r) 2 (a := po ts l) po_le
  refine PX.open rfl rfl rfl rfl rfl fun h hf hr => ?_
  unfold mustT
  unfold tookT at ho
  cases hb : isT s l with
  | true =>
    rw [hb] at ho
    simp only at ho ⊢
    repeat' (first
        | refine WX.val hf hr rfl rfl ho ?_ | refine W.seq ?_ | refine W.regionX ?_ | refine WX.nil ?_ | refine W.skip ?_ | refine W.no rfl rfl ?_ | refine WX.near rfl o_notT rfl ?_ | fail)
    exact ⟨_, rfl, rfl, rfl⟩
  | false =>
    rw [hb] at ho
    simp only at ho ⊢
    repeat' (first
        | refine WX.val hf hr rfl rfl ho ?_ | refine WX.bad hf hr rfl hfl (fun b => ?_) | refine W.seq ?_ | refine W.regionX ?_ | refine WX.nil ?_ | refine W.yes rfl rfl ?_ | refine WX.near rfl o_notF rfl ?_ | fail)
    exact ⟨rfl, _, rfl⟩
/-- an expression without parts, read -/
theorem plain_pu (k n : Int) (s : List Nat) (u : V) (hu : V.still u = true) : PuF D1 233 [.agg [i64 k, i64 n, .str s, u]] (.agg [i64 k, i64 n, .str s, u, i64 1]) := by
  refine PuF.tidy rfl rfl rfl rfl rfl fun h hf => ?_
  repeat' (first
      | refine W.seq ?_ | refine W.region ?_ | refine WS.nil ?_ | refine W.ret ?_ | refine WS.near rfl (o_build rfl) rfl ?_ | refine WS.near rfl (o_loadHN rfl rfl) rfl ?_ | refine WS.near rfl (o_storeH (by assumption) rfl rfl) rfl ?_ | refine WS.near rfl (o_boxH 0 rfl) rfl ?_ | refine WS.near rfl (o_allocH 1 rfl) rfl ?_ | fail)
  refine ⟨_, resK_cell rfl rfl rfl rfl, _, rfl, ?_⟩
  show (freezes _ h.next 999999999999999 [i64 k, i64 n, .str s, u, i64 1]).map V.agg = _
  rw [freezes_still _ _ (by simp) (by intro v hv; simp only [List.mem_cons, List.not_mem_nil, or_false] at hv; rcases hv with rfl | rfl | rfl | rfl | rfl <;> first | rfl | exact hu)]
  rfl
def sgK : Option (Nat × List Tk) → Int
  | some (k, _) => (k : Nat)
  | none => -1
def sgL (l : List Tk) : Option (Nat × List Tk) → List Tk
  | some (_, l') => l'
  | none => l
theorem form_at : ∀ k : Nat, k < 20 → ((List.range 20).map formV)[k]? = some (formV k) := fun k hk => by rw [List.getElem?_map, List.getElem?_range hk]; rfl
theorem signT_drop {ks : List Nat} {i : Nat} (hi : i < ks.length) (l : List Tk) : signT (ks.drop i) l = match isT (txT (ks.getD i 0)) l with
    | true => some (ks.getD i 0, l.tail)
    | false => signT (ks.drop (i + 1)) l := by
  rw [List.drop_eq_getElem_cons hi]
  simp only [signT, List.getD, List.getElem?_eq_getElem hi, Option.getD_some]
  rfl
theorem sign_px (hs : Suf ts l) (hl : ts.length < 2 ^ 60) (ks : List Nat) (hk : ∀ k ∈ ks, k < 20) (hkl : ks.length < 2 ^ 60) (v : V) :
    PXC D1 TP 157 [.mptr r 0, v] r (Lv ts) (po ts l) (.val (i64 (sgK (signT ks l))) (po ts (sgL l (signT ks l)))) (fun h => IntsAt h v (ks.map fun (k : Nat) => (k : Int))) := by
  refine PXC.tidy (fun h hp => hp.shut) rfl rfl rfl rfl rfl fun h hf hr hpi hsame => ?_
  have hpi : IntsAt (hp (rput h r (Lv ts) (po ts l)) []) v (ks.map fun (k : Nat) => (k : Int)) := by rw [hp_nil, hsame]; exact hpi
  have hlen := o_lenA hpi
  rw [List.length_map] at hlen
  repeat' (first
      | refine WX.near rfl hlen rfl ?_ | refine W.seq ?_ | refine W.regionX ?_ | refine WX.nil ?_ | refine W.block ?_ | refine WX.near rfl o_mov rfl ?_ | fail)
  refine W.loop (fun i : Nat => [(0, .mptr r 0), (4, v), (5, i64 (ks.length : Nat)), (6, i64 (i : Nat))]) (fun _ => hp (rput h r (Lv ts) (po ts l)) [])
    (fun i => i ≤ ks.length ∧ signT ks l = signT (ks.drop i) l) (fun i => ks.length - i) 0 ⟨Nat.zero_le _, by rw [List.drop_zero]⟩ ⟨rfl, rfl, rfl, rfl, trivial⟩ rfl ?_
  rintro i ⟨hi, hg⟩
  by_cases hlt : i < ks.length
  · rw [signT_drop hlt] at hg
    have hm : (ks.map fun (k : Nat) => (k : Int)).getD i 0 = ((ks.getD i 0 : Nat) : Int) := by simp [List.getD, List.getElem?_eq_getElem hlt]
    obtain ⟨ad, h1, h2⟩ := o_at (k := .i64) i hpi rfl (by rw [List.length_map]; exact hlt)
    rw [hm] at h2
    have hk20 : ks.getD i 0 < 20 := hk _ (by simp only [List.getD, List.getElem?_eq_getElem hlt, Option.getD_some]; exact List.getElem_mem hlt)
    generalize ks.getD i 0 = k at *
    have h3 : ∀ {H : Heap}, Does (.iaddr 2 (.v formsV) (.v (.int .i64 (k : Nat)))) H (.fptr [i64 (kidsL.getD k 0), .str (txT k)]) H := o_iaddrF (n := k) (v := formV k) rfl (form_at k hk20) rfl
    have ht := took_px (r := r) hs (txT k) hl
    have e1 : (i : Int) + 1 = ((i + 1 : Nat) : Int) := by omega
    unfold tookT at ht
    cases hb : isT (txT k) l with
    | true =>
      rw [hb] at ht hg
      simp only at ht hg
      rw [hg]
      repeat' (first
          | refine WX.near rfl h1 rfl ?_ | refine WX.near rfl h2 rfl ?_ | refine WX.puF (rput_fine hf) rfl rfl forms_pu ?_ | refine WX.near rfl h3 rfl ?_ | refine WX.val hf hr rfl rfl ht ?_ | refine W.seq ?_ | refine W.regionX ?_ | refine WX.nil ?_ | refine W.skip ?_ | refine W.block ?_ | refine W.ret ?_ | refine W.yes rfl rfl ?_ | refine W.yesP rfl (by omega) ?_ | refine WX.near rfl o_mov rfl ?_ | refine WX.near rfl o_lss rfl ?_ | refine WX.near rfl o_loadF rfl ?_ | refine WX.near rfl (o_faddrF (Nat.le_of_ble_eq_true rfl)) rfl ?_ | fail)
      exact ⟨_, rfl, _, _, rfl, rfl, rfl⟩
    | false =>
      rw [hb] at ht hg
      simp only at ht hg
      repeat' (first
          | refine WX.near rfl h1 rfl ?_ | refine WX.near rfl h2 rfl ?_ | refine WX.puF (rput_fine hf) rfl rfl forms_pu ?_ | refine WX.near rfl h3 rfl ?_ | refine WX.val hf hr rfl rfl ht ?_ | refine W.seq ?_ | refine W.regionX ?_ | refine WX.nil ?_ | refine W.skip ?_ | refine W.block ?_ | refine W.no rfl rfl ?_ | refine W.yesP rfl (by omega) ?_ | refine WX.near rfl o_lss rfl ?_ | refine WX.near rfl o_loadF rfl ?_ | refine WX.near rfl (o_add (by omega) (by omega)) rfl ?_ | refine WX.near rfl (o_faddrF (Nat.le_of_ble_eq_true rfl)) rfl ?_ | fail)
      exact ⟨i + 1, ⟨by omega, hg⟩, by show ks.length - (i + 1) < ks.length - i; omega, ⟨rfl, rfl, rfl, congrArg (fun z => some (V.int .i64 z)) e1, trivial⟩, rfl⟩
  · have hge : ks.drop i = [] := List.drop_eq_nil_of_le (by omega)
    rw [hge] at hg
    rw [hg]
    repeat' (first
        | refine W.seq ?_ | refine W.regionX ?_ | refine WX.nil ?_ | refine W.ret ?_ | refine W.exit ?_ | refine W.noP rfl (by omega) ?_ | refine WX.near rfl o_mov rfl ?_ | refine WX.near rfl o_lss rfl ?_ | fail)
    exact ⟨_, rfl, _, _, rfl, rfl, rfl⟩
end
end Go.Proofs.YtfbikhkmamdjmaaDoor.CodesX
