/- The program's parser of expressions: singles and firsts, walked. -/
import Derived.Test.YtfbikhkmamdjmaaDoorWX5
namespace Go.Proofs.YtfbikhkmamdjmaaDoor.CodesX
open Go Go.Ab
set_option maxHeartbeats 4000000
set_option maxRecDepth 20000
theorem o_negI {h : Heap} {n : Nat} (hn : n < 2 ^ 63) : Does (.un .neg (.v (.int .i64 (n : Nat)))) h (.int .i64 (-(n : Int))) h := by
  refine ⟨?_⟩; rw [op1v]
  have h1 : (0 : Int) - (n : Nat) = -(n : Int) := by omega
  simp only [op1, ev, un, h1, wrap_i64 (n := -(n : Int)) (by omega) (by omega), Option.map_some]
theorem ints_lit {h : Heap} {r a k : Nat} {L : V} {bs : List (Option (List V))} {l : List Int} (e : bget bs k = some (intsV l)) : IntsAt (hp (rput h r L a) bs) (.msl (h.next + k) 1 0 l.length none) l := by
  refine ⟨?_, .inr (.inr (.inr ⟨_, 0, _, none, rfl, rfl⟩))⟩
  have h1 := row_msl (h0 := rput h r L a) (sz := 1) (n := l.length) e (by rw [ints_len]; omega)
  rw [List.take_of_length_le (by rw [ints_len]; omega)] at h1
  exact h1
theorem of_mem {ts l l' : List Tk} {k : Nat} {t : Tk} (hs : Suf ts l) (h : ofT k l = .ok t l') : t ∈ ts := by
  unfold ofT at h
  cases l with
  | nil => cases h
  | cons u l =>
    simp only at h
    split at h
    · cases h
      obtain ⟨p, rfl⟩ := hs
      simp
    · cases h
section
variable {ts : List Tk} {r f : Nat}
theorem single_ok (hl : ts.length < 2 ^ 60) (hN : ∀ t ∈ ts, t.n < 2 ^ 63) (ih : SingleOk ts r f) (ihf : FirstOk ts r f) : SingleOk ts r (f + 1) := by
  intro w l hw hs hn
  unfold runR at hn ⊢
  have hfl := fail_px (ts := ts) (r := r) 4 (a := po ts l) po_le
  refine PX.tidy rfl rfl rfl rfl rfl fun h hf hr => ?_
  by_cases hw40 : w = 40
  · have : Nat.ble 40 w = true := by rw [hw40]; rfl
    rw [this]
    show W _ _ _ _ _ (doneX _ (ansF TP r (Lv ts) h (.bad (4 : Nat) (po ts l))))
    repeat' (first
        | refine WX.bad hf hr rfl hfl (fun b => ?_) | refine W.seq ?_ | refine W.regionX ?_ | refine WX.nil ?_ | refine W.yesP rfl (by omega) ?_ | refine WX.near rfl o_geq rfl ?_ | refine WX.near rfl (o_allocR 0 rfl) rfl ?_ | fail)
    exact ⟨rfl, _, _, rfl⟩
  have hble : Nat.ble 40 w = false := by
    cases hb : Nat.ble 40 w with
    | false => rfl
    | true => have := Nat.le_of_ble_eq_true hb; omega
  rw [hble] at hn ⊢
  have hsg := sign_px (r := r) hs hl [14, 16, 17, 18] (by decide) (by decide) (.msl (h.next + 1) 1 0 4 none)
  have hpre : ∀ a z, IntsAt (hp (rput h r (Lv ts) a) [some z, some [i64 14, i64 16, i64 17, i64 18]]) (.msl (h.next + 1) 1 0 4 none) ([14, 16, 17, 18].map fun (k : Nat) => (k : Int)) := fun a z => ints_lit (l := [14, 16, 17, 18]) rfl
  cases h1 : signT [14, 16, 17, 18] l with
  | some q =>
    obtain ⟨k, l1⟩ := q
    rw [h1] at hsg hn
    have hs1 := sign_in hs h1
    change PXC D1 TP 157 _ r (Lv ts) (po ts l) (.val (i64 (k : Nat)) (po ts l1)) _ at hsg
    have hv := ih (w + 1) l1 (by omega) hs1
    have hin := run_in f (.single (w + 1)) l1 hs1
    cases h2 : runR f (.single (w + 1)) l1 with
    | out => exact absurd (show (runR f (.single (w + 1)) l1).bind (fun y l => madeR k [y] l) = .out by rw [h2]; rfl) hn
    | bad e l2 =>
      rw [h2] at hv
      replace hv : PX D1 TP 156 [.mptr r 0, i64 ((w + 1 : Nat) : Int)] r (Lv ts) (po ts l1) (.bad (e : Nat) (po ts l2)) := hv (fun h => by cases h)
      show W _ _ _ _ _ (doneX _ (ansF TP r (Lv ts) h (PR.ans Rd.v ts ((runR f (.single (w + 1)) l1).bind fun y l => madeR k [y] l))))
      rw [h2]
      show W _ _ _ _ _ (doneX _ (ansF TP r (Lv ts) h (.bad (e : Nat) (po ts l2))))
      repeat' (first
          | refine WX.valP hf hr (hpre _ _) rfl rfl hsg ?_ | refine WX.bad hf hr rfl hv (fun b => ?_) | refine W.seq ?_ | refine W.regionX ?_ | refine WX.nil ?_ | refine W.skip ?_ | refine W.yes rfl rfl ?_ | refine W.noP rfl (by omega) ?_ | refine WX.near rfl o_geq rfl ?_ | refine WX.near rfl (o_add (by omega) (by omega)) rfl ?_ | refine WX.near rfl (o_allocR 0 rfl) rfl ?_ | refine WX.near rfl (o_litHR 1 rfl rfl) rfl ?_ | fail)
      exact ⟨rfl, _, _, rfl⟩
    | ok y l2 =>
      rw [h2] at hv hin
      replace hv := hv (fun h => by cases h)
      obtain ⟨⟨yk, yn, ys, yl, yu⟩, yd, yhu, yhd⟩ := y
      change PX D1 TP 156 [.mptr r 0, i64 ((w + 1 : Nat) : Int)] r (Lv ts) (po ts l1) (.val (.agg [i64 yk, i64 yn, .str ys, yu, i64 (yd : Nat)]) (po ts l2)) at hv
      show W _ _ _ _ _ (doneX _ (ansF TP r (Lv ts) h (PR.ans Rd.v ts ((runR f (.single (w + 1)) l1).bind fun y l => madeR k [y] l))))
      rw [h2]
      show W _ _ _ _ _ (doneX _ (ansF TP r (Lv ts) h (PR.ans Rd.v ts (madeR k [⟨.mk yk yn ys yl yu, yd, yhu, yhd⟩] l2))))
      have hmd := made1_px (ts := ts) (l := l2) (r := r) k ⟨.mk yk yn ys yl yu, yd, yhu, yhd⟩ (h.next + 2)
      cases h4 : madeR k [⟨.mk yk yn ys yl yu, yd, yhu, yhd⟩] l2 with
      | out => rw [madeR_eq] at h4; split at h4 <;> cases h4
      | bad e l4 =>
        rw [h4] at hmd
        show W _ _ _ _ _ (doneX _ (ansF TP r (Lv ts) h (.bad (e : Nat) (po ts l4))))
        repeat' (first
            | refine WX.valP hf hr (hpre _ _) rfl rfl hsg ?_ | refine WX.val hf hr rfl rfl hv ?_ | refine WX.badP hf hr (cells_r rfl) rfl hmd (fun b => ?_) | refine W.seq ?_ | refine W.regionX ?_ | refine WX.nil ?_ | refine W.skip ?_ | refine W.yes rfl rfl ?_ | refine W.noP rfl (by omega) ?_ | refine WX.near rfl o_geq rfl ?_ | refine WX.near rfl (o_add (by omega) (by omega)) rfl ?_ | refine WX.near rfl (o_allocR 0 rfl) rfl ?_ | refine WX.near rfl (o_litHR 1 rfl rfl) rfl ?_ | refine WX.near rfl (o_litHR 2 rfl rfl) rfl ?_ | fail)
        exact ⟨rfl, _, _, rfl⟩
      | ok z l4 =>
        rw [h4] at hmd
        show W _ _ _ _ _ (doneX _ (ansF TP r (Lv ts) h (.val z.v (po ts l4))))
        obtain ⟨⟨zk, zn, zs, zl, zu⟩, zd, zhu, zhd⟩ := z
        change PXC D1 TP 158 _ r (Lv ts) (po ts l2) (.val (.agg [i64 zk, i64 zn, .str zs, zu, i64 (zd : Nat)]) (po ts l4)) _ at hmd
        repeat' (first
            | refine WX.valP hf hr (hpre _ _) rfl rfl hsg ?_ | refine WX.val hf hr rfl rfl hv ?_ | refine WX.valP hf hr (cells_r rfl) rfl rfl hmd ?_ | refine W.seq ?_ | refine W.regionX ?_ | refine WX.nil ?_ | refine W.skip ?_ | refine W.ret ?_ | refine W.yes rfl rfl ?_ | refine W.noP rfl (by omega) ?_ | refine WX.near rfl o_geq rfl ?_ | refine WX.near rfl (o_add (by omega) (by omega)) rfl ?_ | refine WX.near rfl (o_storeHR hf rfl rfl) rfl ?_ | refine WX.near rfl (o_allocR 0 rfl) rfl ?_ | refine WX.near rfl (o_litHR 1 rfl rfl) rfl ?_ | refine WX.near rfl (o_litHR 2 rfl rfl) rfl ?_ | fail)
        exact ⟨_, resK_cellR rfl rfl rfl rfl, _, _, rfl, rfl, frz_rd ⟨.mk zk zn zs zl zu, zd, zhu, zhd⟩⟩
  | none =>
    rw [h1] at hsg hn
    change PXC D1 TP 157 _ r (Lv ts) (po ts l) (.val (i64 (-1)) (po ts l)) _ at hsg
    have hm := took_px (r := r) hs [45] hl
    unfold tookT at hm
    cases h2 : isT [45] l with
    | true =>
      rw [h2] at hm hn
      have hs1 := tail_suf hs h2
      have hi := int_px (r := r) hs1 hl
      simp only at hm
      show W _ _ _ _ _ (doneX _ (ansF TP r (Lv ts) h (PR.ans Rd.v ts ((ofT 3 l.tail).bind fun t l => atomR 0 (-(t.n : Int)) [] l))))
      cases h3 : ofT 3 l.tail with
      | out => exact absurd h3 ofT_out
      | bad e l2 =>
        rw [h3] at hi
        change PX D1 TP 205 _ r (Lv ts) (po ts l.tail) (.bad (e : Nat) (po ts l2)) at hi
        show W _ _ _ _ _ (doneX _ (ansF TP r (Lv ts) h (.bad (e : Nat) (po ts l2))))
        repeat' (first
            | refine WX.valP hf hr (hpre _ _) rfl rfl hsg ?_ | refine WX.val hf hr rfl rfl hm ?_ | refine WX.bad hf hr rfl hi (fun b => ?_) | refine W.seq ?_ | refine W.regionX ?_ | refine WX.nil ?_ | refine W.skip ?_ | refine W.yes rfl rfl ?_ | refine W.no rfl rfl ?_ | refine W.noP rfl (by omega) ?_ | refine WX.near rfl o_geq rfl ?_ | refine WX.near rfl (o_allocR 0 rfl) rfl ?_ | refine WX.near rfl (o_litHR 1 rfl rfl) rfl ?_ | fail)
        exact ⟨rfl, _, _, rfl⟩
      | ok t l2 =>
        rw [h3] at hi
        have htn := hN t (of_mem hs1 h3)
        change PX D1 TP 205 _ r (Lv ts) (po ts l.tail) (.val (i64 (t.n : Nat)) (po ts l2)) at hi
        show W _ _ _ _ _ (doneX _ (ansF TP r (Lv ts) h (.val (.agg [i64 0, i64 (-(t.n : Int)), .str [], .nilsl, i64 1]) (po ts l2))))
        repeat' (first
            | refine WX.valP hf hr (hpre _ _) rfl rfl hsg ?_ | refine WX.val hf hr rfl rfl hm ?_ | refine WX.val hf hr rfl rfl hi ?_ | refine WX.near rfl (o_negI htn) rfl ?_ | refine W.seq ?_ | refine W.regionX ?_ | refine WX.nil ?_ | refine W.skip ?_ | refine W.ret ?_ | refine W.yes rfl rfl ?_ | refine W.no rfl rfl ?_ | refine W.noP rfl (by omega) ?_ | refine WX.near rfl o_geq rfl ?_ | refine WX.near rfl (o_build rfl) rfl ?_ | refine WX.near rfl (o_storeHR hf rfl rfl) rfl ?_ | refine WX.near rfl (o_allocR 0 rfl) rfl ?_ | refine WX.near rfl (o_litHR 1 rfl rfl) rfl ?_ | fail)
        exact ⟨_, resK_cellR rfl rfl rfl rfl, _, _, rfl, rfl, rfl⟩
    | false =>
      rw [h2] at hm hn
      simp only at hm
      have hv := ihf w l (by omega) hs hn
      show W _ _ _ _ _ (doneX _ (ansF TP r (Lv ts) h (PR.ans Rd.v ts (runR f (.first w) l))))
      cases h3 : runR f (.first w) l with
      | out => exact absurd h3 hn
      | bad e l2 =>
        rw [h3] at hv
        change PX D1 TP 206 _ r (Lv ts) (po ts l) (.bad (e : Nat) (po ts l2)) at hv
        show W _ _ _ _ _ (doneX _ (ansF TP r (Lv ts) h (.bad (e : Nat) (po ts l2))))
        repeat' (first
            | refine WX.valP hf hr (hpre _ _) rfl rfl hsg ?_ | refine WX.val hf hr rfl rfl hm ?_ | refine WX.bad hf hr rfl hv (fun b => ?_) | refine W.seq ?_ | refine W.regionX ?_ | refine WX.nil ?_ | refine W.skip ?_ | refine W.no rfl rfl ?_ | refine W.noP rfl (by omega) ?_ | refine WX.near rfl o_geq rfl ?_ | refine WX.near rfl (o_allocR 0 rfl) rfl ?_ | refine WX.near rfl (o_litHR 1 rfl rfl) rfl ?_ | fail)
        exact ⟨rfl, _, _, rfl⟩
      | ok z l2 =>
        rw [h3] at hv
        obtain ⟨⟨zk, zn, zs, zl, zu⟩, zd, zhu, zhd⟩ := z
        change PX D1 TP 206 _ r (Lv ts) (po ts l) (.val (.agg [i64 zk, i64 zn, .str zs, zu, i64 (zd : Nat)]) (po ts l2)) at hv
        show W _ _ _ _ _ (doneX _ (ansF TP r (Lv ts) h (.val (.agg [i64 zk, i64 zn, .str zs, zu, i64 (zd : Nat)]) (po ts l2))))
        repeat' (first
            | refine WX.valP hf hr (hpre _ _) rfl rfl hsg ?_ | refine WX.val hf hr rfl rfl hm ?_ | refine WX.val hf hr rfl rfl hv ?_ | refine W.seq ?_ | refine W.regionX ?_ | refine WX.nil ?_ | refine W.skip ?_ | refine W.ret ?_ | refine W.no rfl rfl ?_ | refine W.noP rfl (by omega) ?_ | refine WX.near rfl o_geq rfl ?_ | refine WX.near rfl (o_storeHR hf rfl rfl) rfl ?_ | refine WX.near rfl (o_allocR 0 rfl) rfl ?_ | refine WX.near rfl (o_litHR 1 rfl rfl) rfl ?_ | fail)
        exact ⟨_, resK_cellR rfl rfl rfl rfl, _, _, rfl, rfl, frz_rd ⟨.mk zk zn zs zl zu, zd, zhu, zhd⟩⟩
end
end Go.Proofs.YtfbikhkmamdjmaaDoor.CodesX
