/- The program's reader: tokens, one by one. -/
import Derived.Test.YtfbikhkmamdjmaaDoorWXP
namespace Go.Proofs.YtfbikhkmamdjmaaDoor.CodesX
open Go Go.Ab
set_option maxHeartbeats 1600000
set_option maxRecDepth 20000

/-- the type of what a reader gives up with -/
abbrev TP : Nat := 173
theorem o_lenT {ts : List Tk} {h : Heap} : Does (.len 1 (.v (Lv ts))) h (.int .i64 (ts.length : Nat)) h := by
  have := o_lenF (es := ts.map Tk.v) (cap := none) (h := h)
  rw [List.length_map] at this
  exact this
theorem o_atT {ts l : List Tk} {t : Tk} {h : Heap} (hs : Suf ts (t :: l)) : Does (.iaddr 4 (.v (Lv ts)) (.v (.int .i64 (po ts (t :: l) : Nat)))) h (.fptr t.cells) h :=
  o_iaddrF (n := po ts (t :: l)) (v := t.v) rfl (by rw [List.getElem?_map, hs.at.1]; rfl) rfl
theorem o_load4F {h : Heap} {t : Tk} : Does (.load 4 true (.v (.fptr t.cells))) h t.v h := ⟨rfl⟩
theorem sameB_eq : ∀ a b : List Nat, sameB a b = decide (a = b)
  | [], [] => rfl
  | [], _ :: _ => rfl
  | _ :: _, [] => rfl
  | a :: r, b :: t => by
    unfold sameB
    cases h : Nat.beq a b with
    | true =>
      have := Nat.eq_of_beq_eq_true h
      subst this
      simp [sameB_eq r t]
    | false =>
      have : a ≠ b := fun e => by rw [e, Nat.beq_refl] at h; cases h
      simp [this]
theorem isT_now (s : List Nat) (l : List Tk) : isT s l = (decide (((now l).k : Int) = 4 ∨ ((now l).k : Int) = 2) && decide ((now l).s = s)) := by
  cases l with
  | nil => rfl
  | cons t l =>
    unfold isT
    show _ = (decide ((t.k : Int) = 4 ∨ (t.k : Int) = 2) && decide (t.s = s))
    by_cases h4 : t.k = 4
    · simp [h4, sameB_eq]
    · by_cases h2 : t.k = 2
      · simp [h2, sameB_eq]
      · have h5 : Nat.beq t.k 4 = false := by
          cases h : Nat.beq t.k 4 with
          | false => rfl
          | true => exact absurd (Nat.eq_of_beq_eq_true h) h4
        have h3 : Nat.beq t.k 2 = false := by
          cases h : Nat.beq t.k 2 with
          | false => rfl
          | true => exact absurd (Nat.eq_of_beq_eq_true h) h2
        rw [decide_eq_false (by omega)]
        simp only [h5, h3, Bool.or_self, Bool.false_and]
theorem fx_bool {h1 : Heap} {r a : Nat} {L : V} {bs : List (Option (List V))} {b c : Bool} (e : b = c) : ansF TP r L h1 (.val (.bool c) a) (.ret (oneOr [.bool b])) (hp (rput h1 r L a) bs) := ⟨_, _, rfl, rfl, by rw [e]; rfl⟩
section
variable {ts l : List Tk} {r : Nat}
theorem now_px (hs : Suf ts l) : PX D1 TP 234 [.mptr r 0] r (Lv ts) (po ts l) (.val (now l).v (po ts l)) := by
  refine PX.tidy rfl rfl rfl rfl rfl fun h hf hr => ?_
  have hfr : ∀ a, (rput h r (Lv ts) a).Fine := fun a => rput_fine hf
  cases l with
  | nil =>
    have hp0 : po ts [] = ts.length := rfl
    rw [hp0]
    repeat' (first
        | refine WX.near rfl (o_loadR0 hf hr) rfl ?_ | refine WX.near rfl (o_loadR1 hf hr) rfl ?_ | refine WX.near rfl o_lenT rfl ?_ | refine W.seq ?_ | refine W.regionX ?_ | refine WX.nil ?_ | refine W.ret ?_ | refine W.yesP rfl (by omega) ?_ | refine WX.near rfl o_geq rfl ?_ | refine WX.near rfl o_faddr rfl ?_ | refine WX.near rfl o_nilchk rfl ?_ | refine WX.near rfl (o_build rfl) rfl ?_ | refine WX.near rfl (o_storeHR hf rfl rfl) rfl ?_ | refine WX.near rfl (o_allocR 0 rfl) rfl ?_ | fail)
    exact ⟨_, resK_cellR rfl rfl rfl rfl, _, _, rfl, rfl, rfl⟩
  | cons t l =>
    have hlt := hs.at.2.1
    have hat := fun {h : Heap} => o_atT (h := h) hs
    generalize po ts (t :: l) = a at hlt hat ⊢
    repeat' (first
        | refine WX.near rfl hat rfl ?_ | refine WX.near rfl o_load4F rfl ?_ | refine WX.near rfl (o_loadR0 hf hr) rfl ?_ | refine WX.near rfl (o_loadR1 hf hr) rfl ?_ | refine WX.near rfl o_lenT rfl ?_ | refine W.seq ?_ | refine W.regionX ?_ | refine WX.nil ?_ | refine W.skip ?_ | refine W.ret ?_ | refine W.noP rfl (by omega) ?_ | refine WX.near rfl o_geq rfl ?_ | refine WX.near rfl o_faddr rfl ?_ | refine WX.near rfl o_nilchk rfl ?_ | refine WX.near rfl (o_storeHR hf rfl rfl) rfl ?_ | refine WX.near rfl (o_allocR 0 rfl) rfl ?_ | fail)
    exact ⟨_, resK_cellR rfl rfl rfl rfl, _, _, rfl, rfl, rfl⟩
theorem fail_px (e : Nat) {a : Nat} (hle : a ≤ ts.length) : PX D1 TP 203 [.mptr r 0, i64 (e : Nat)] r (Lv ts) a (.bad (e : Nat) a) := by
  refine PX.open rfl rfl rfl rfl rfl fun h hf hr => ?_
  repeat' (first
      | refine WX.near rfl (o_loadR0 hf hr) rfl ?_ | refine WX.near rfl (o_loadR1 hf hr) rfl ?_ | refine WX.near rfl o_lenT rfl ?_ | refine WX.near rfl o_min rfl ?_ | refine WX.near rfl o_mkifc rfl ?_ | refine W.regionX ?_ | refine WX.near rfl o_faddr rfl ?_ | refine WX.near rfl o_nilchk rfl ?_ | refine WX.near rfl (o_build rfl) rfl ?_ | fail)
  refine WX.panic rfl rfl ?_
  refine ⟨?_, _, rfl⟩
  rw [if_neg (by omega)]
  rfl
theorem is_px (hs : Suf ts l) (s : List Nat) : PX D1 TP 231 [.mptr r 0, .str s] r (Lv ts) (po ts l) (.val (.bool (isT s l)) (po ts l)) := by
  have hn := now_px (r := r) hs
  have key := isT_now s l
  refine PX.tidy rfl rfl rfl rfl rfl fun h hf hr => ?_
  have hfr : ∀ a, (rput h r (Lv ts) a).Fine := fun a => rput_fine hf
  generalize now l = t at hn key
  repeat' (first
      | refine WX.val hf hr rfl rfl hn ?_ | refine W.seq ?_ | refine W.regionX ?_ | refine WX.nil ?_ | refine W.ret ?_ | refine WX.guardT rfl ?_ | refine WX.guardF rfl rfl rfl ?_ | refine WX.guardK rfl (fun _ => ?_) (fun _ => ?_) | refine WX.near rfl o_mov rfl ?_ | refine WX.near rfl o_pickT rfl ?_ | refine WX.near rfl o_pickF rfl ?_ | refine WX.near rfl o_eql rfl ?_ | refine WX.near rfl o_seql rfl ?_ | refine WX.near rfl o_faddr rfl ?_ | refine WX.near rfl (o_loadHR rfl) rfl ?_ | refine WX.near rfl (o_storeHR hf rfl rfl) rfl ?_ | refine WX.near rfl (o_allocR 0 rfl) rfl ?_ | fail)
  · exact ⟨_, rfl, fx_bool (by rw [key, yes_dec (p := _ ∨ _) (.inl (by assumption)), Bool.true_and])⟩
  · exact ⟨_, rfl, fx_bool (by rw [key, yes_dec (p := _ ∨ _) (.inr (by assumption)), Bool.true_and])⟩
  · exact ⟨_, rfl, fx_bool (by rw [key, not_dec (p := _ ∨ _) (by omega), Bool.false_and])⟩
theorem took_px (hs : Suf ts l) (s : List Nat) (hl : ts.length < 2 ^ 60) : PX D1 TP 204 [.mptr r 0, .str s] r (Lv ts) (po ts l) (.val (.bool (isT s l)) (po ts (tookT s l))) := by
  have hn := is_px (r := r) hs s
  refine PX.tidy rfl rfl rfl rfl rfl fun h hf hr => ?_
  have hfr : ∀ a, (rput h r (Lv ts) a).Fine := fun a => rput_fine hf
  cases hb : isT s l with
  | false =>
    rw [hb] at hn
    have e : tookT s l = l := by unfold tookT; rw [hb]
    rw [e]
    repeat' (first
        | refine WX.val hf hr rfl rfl hn ?_ | refine W.seq ?_ | refine W.regionX ?_ | refine WX.nil ?_ | refine W.skip ?_ | refine W.ret ?_ | refine W.no rfl rfl ?_ | refine WX.near rfl o_mov rfl ?_ | fail)
    exact ⟨_, rfl, fx_bool rfl⟩
  | true =>
    rw [hb] at hn
    cases l with
    | nil => cases hb
    | cons t l =>
      have e : tookT s (t :: l) = l := by unfold tookT; rw [hb]; rfl
      rw [e]
      have h1 := hs.at.2.2
      have h2 := hs.at.2.1
      generalize po ts (t :: l) = a at *
      rw [h1]
      repeat' (first
          | refine WX.val hf hr rfl rfl hn ?_ | refine WX.near rfl (o_storeR1 hf hr (a + 1) (by omega)) rfl ?_ | refine WX.near rfl (o_loadR1 hf hr) rfl ?_ | refine W.seq ?_ | refine W.regionX ?_ | refine WX.nil ?_ | refine W.ret ?_ | refine W.yes rfl rfl ?_ | refine WX.near rfl o_mov rfl ?_ | refine WX.near rfl o_faddr rfl ?_ | refine WX.near rfl o_nilchk rfl ?_ | refine WX.near rfl (o_add (by omega) (by omega)) rfl ?_ | fail)
      exact ⟨_, rfl, fx_bool rfl⟩
theorem of_px (hs : Suf ts l) (k : Nat) (hk : k ≠ 0) (hl : ts.length < 2 ^ 60) : PX D1 TP 232 [.mptr r 0, i64 (k : Nat)] r (Lv ts) (po ts l) ((ofT k l).ans Tk.v ts) := by
  have hn := now_px (r := r) hs
  have hle : po ts l ≤ ts.length := po_le
  refine PX.tidy rfl rfl rfl rfl rfl fun h hf hr => ?_
  have hfr : ∀ a, (rput h r (Lv ts) a).Fine := fun a => rput_fine hf
  by_cases hb : (now l).k = k
  · cases l with
    | nil => exact absurd hb.symm hk
    | cons t l =>
      have e : (ofT k (t :: l)) = .ok t l := by
        unfold ofT
        have : Nat.beq t.k k = true := by rw [show t.k = k from hb]; exact Nat.beq_refl k
        simp only [this]
      rw [e]
      have h1 := hs.at.2.2
      have h2 := hs.at.2.1
      have hb : t.k = k := hb
      subst hb
      change PX D1 TP 234 [.mptr r 0] r (Lv ts) (po ts (t :: l)) (.val t.v (po ts (t :: l))) at hn
      show W _ _ _ _ _ (doneX _ (ansF TP r (Lv ts) h (.val t.v (po ts l))))
      generalize po ts (t :: l) = a at *
      rw [h1]
      obtain ⟨tk, tn, tp, tt⟩ := t
      change PX D1 TP 234 [.mptr r 0] r (Lv ts) a (.val (.agg [.int .i64 (tk : Nat), .int .i64 (tn : Nat), .int .i64 (tp : Nat), .str tt]) a) at hn
      repeat' (first
          | refine WX.val hf hr rfl rfl hn ?_ | refine WX.near rfl (o_storeR1 hf hr (a + 1) (by omega)) rfl ?_ | refine WX.near rfl (o_loadR1 hf hr) rfl ?_ | refine W.seq ?_ | refine W.regionX ?_ | refine WX.nil ?_ | refine W.skip ?_ | refine W.ret ?_ | refine W.fork rfl (fun _ => ?_) (fun _ => ?_) | refine WX.near rfl o_neq rfl ?_ | refine WX.near rfl o_faddr rfl ?_ | refine WX.near rfl o_nilchk rfl ?_ | refine WX.near rfl (o_add (by omega) (by omega)) rfl ?_ | refine WX.near rfl (o_loadHR rfl) rfl ?_ | refine WX.near rfl (o_loadHNR rfl rfl) rfl ?_ | refine WX.near rfl (o_storeHR hf rfl rfl) rfl ?_ | refine WX.near rfl (o_allocR 0 rfl) rfl ?_ | refine WX.near rfl (o_allocR 1 rfl) rfl ?_ | fail)
      · exfalso; contradiction
      · exact ⟨_, resK_cellR rfl rfl rfl rfl, _, _, rfl, rfl, rfl⟩
  · have e : (ofT k l) = .bad 2 l := by
      cases l with
      | nil => rfl
      | cons t l =>
        unfold ofT
        have : Nat.beq t.k k = false := by
          cases h : Nat.beq t.k k with
          | false => rfl
          | true => exact absurd (Nat.eq_of_beq_eq_true h) hb
        simp only [this]
    rw [e]
    have hfl := fail_px (r := r) 2 hle
    generalize now l = t at hn hb
    show W _ _ _ _ _ (doneX _ (ansF TP r (Lv ts) h (.bad (2 : Nat) (po ts l))))
    generalize po ts l = a at *
    obtain ⟨tk, tn, tp, tt⟩ := t
    change PX D1 TP 234 [.mptr r 0] r (Lv ts) a (.val (.agg [.int .i64 (tk : Nat), .int .i64 (tn : Nat), .int .i64 (tp : Nat), .str tt]) a) at hn
    repeat' (first
        | refine WX.val hf hr rfl rfl hn ?_ | refine WX.bad hf hr rfl hfl (fun b => ?_) | refine WX.near rfl (o_loadR1 hf hr) rfl ?_ | refine W.seq ?_ | refine W.regionX ?_ | refine WX.nil ?_ | refine W.skip ?_ | refine W.fork rfl (fun _ => ?_) (fun _ => ?_) | refine WX.near rfl o_neq rfl ?_ | refine WX.near rfl o_faddr rfl ?_ | refine WX.near rfl o_nilchk rfl ?_ | refine WX.near rfl (o_add (by omega) (by omega)) rfl ?_ | refine WX.near rfl (o_loadHR rfl) rfl ?_ | refine WX.near rfl (o_storeHR hf rfl rfl) rfl ?_ | refine WX.near rfl (o_allocR 0 rfl) rfl ?_ | refine WX.near rfl (o_allocR 1 rfl) rfl ?_ | fail)
    · exact ⟨rfl, _, _, rfl⟩
    · exfalso; have hb : ¬ tk = k := hb; omega
end
end Go.Proofs.YtfbikhkmamdjmaaDoor.CodesX
