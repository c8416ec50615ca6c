/- The program's parser of expressions: levels, walked. -/
import Derived.Test.YtfbikhkmamdjmaaDoorWX6
namespace Go.Proofs.YtfbikhkmamdjmaaDoor.CodesX
open Go Go.Ab
set_option maxHeartbeats 4000000
set_option maxRecDepth 20000
/-- a round's state: fuel, what was read, what is left, other blocks -/
structure LS where
  f : Nat
  x : Rd
  l : List Tk
  junk : List (Option (List V))
theorem sign_le : ∀ (ks : List Nat) {l l' : List Tk} {k : Nat}, (∀ k ∈ ks, k < 20) → signT ks l = some (k, l') → k < 20
  | [], _, _, _, _, e => by cases e
  | k0 :: ks, l, l', k, h, e => by
    unfold signT at e
    cases hb : isT (txT k0) l with
    | true =>
      simp only [hb] at e
      cases e
      exact h _ List.mem_cons_self
    | false =>
      simp only [hb] at e
      exact sign_le ks (fun k hk => h k (List.mem_cons_of_mem _ hk)) e
theorem lev_at {n : Nat} (hn : n < 5) : (levL.map kindsV)[n]? = some (kindsV (levL.getD n [])) := by
  have : n < levL.length := hn
  rw [List.getElem?_map, List.getElem?_eq_getElem this]
  simp [List.getD, List.getElem?_eq_getElem this]
theorem lev_ok : ∀ n, n < 5 → (∀ k ∈ levL.getD n [], k < 20) ∧ (levL.getD n []).length < 2 ^ 60 ∧ levL.getD n [] ≠ [] := by decide
theorem ints_kinds {h : Heap} {ks : List Nat} (hne : ks ≠ []) : IntsAt h (kindsV ks) (ks.map fun (k : Nat) => (k : Int)) :=
  ints_shut (.inr (.inr ⟨rfl, fun h => hne (List.map_eq_nil_iff.1 h)⟩))
section
variable {ts : List Tk} {r f : Nat}
theorem level_ok (hl : ts.length < 2 ^ 60) (ih : ∀ g, g ≤ f → LevelOk ts r g) (ihs : SingleOk ts r f) : LevelOk ts r (f + 1) := by
  intro n w l hn5 hw hs hn
  unfold runR at hn ⊢
  have hlen : ∀ {H : Heap}, Does (.len 1 (.v levelsV)) H (.int .i64 (5 : Nat)) H := fun {H} => o_lenF (es := levL.map kindsV)
  refine PX.tidy rfl rfl rfl rfl rfl fun h hf hr => ?_
  by_cases h5 : n = 5
  · subst h5
    change runR f (.single w) l ≠ .out at hn
    have hv := ihs w l hw hs hn
    show W _ _ _ _ _ (doneX _ (ansF TP r (Lv ts) h (PR.ans Rd.v ts (runR f (.single w) l))))
    cases h3 : runR f (.single w) l with
    | out => exact absurd h3 hn
    | bad e l2 =>
      rw [h3] at hv
      change PX D1 TP 156 _ r (Lv ts) (po ts l) (.bad (e : Nat) (po ts l2)) at hv
      show W _ _ _ _ _ (doneX _ (ansF TP r (Lv ts) h (.bad (e : Nat) (po ts l2))))
      repeat' (first
          | refine WX.puF (rput_fine hf) rfl rfl levels_pu ?_ | refine WX.near rfl hlen rfl ?_ | refine WX.bad hf hr rfl hv (fun b => ?_) | refine W.seq ?_ | refine W.regionX ?_ | refine WX.nil ?_ | refine W.yes rfl rfl ?_ | refine WX.near rfl o_eql rfl ?_ | refine WX.near rfl (o_allocR 0 rfl) rfl ?_ | fail)
      exact ⟨rfl, _, _, rfl⟩
    | ok z l2 =>
      rw [h3] at hv
      obtain ⟨⟨zk, zn, zs, zl, zu⟩, zd, zhu, zhd⟩ := z
      change PX D1 TP 156 _ r (Lv ts) (po ts l) (.val (.agg [i64 zk, i64 zn, .str zs, zu, i64 (zd : Nat)]) (po ts l2)) at hv
      show W _ _ _ _ _ (doneX _ (ansF TP r (Lv ts) h (.val (.agg [i64 zk, i64 zn, .str zs, zu, i64 (zd : Nat)]) (po ts l2))))
      repeat' (first
          | refine WX.puF (rput_fine hf) rfl rfl levels_pu ?_ | refine WX.near rfl hlen rfl ?_ | refine WX.val hf hr rfl rfl hv ?_ | refine W.seq ?_ | refine W.regionX ?_ | refine WX.nil ?_ | refine W.ret ?_ | refine W.yes rfl rfl ?_ | refine WX.near rfl o_eql rfl ?_ | refine WX.near rfl (o_storeHR hf rfl rfl) rfl ?_ | refine WX.near rfl (o_allocR 0 rfl) rfl ?_ | fail)
      exact ⟨_, resK_cellR rfl rfl rfl rfl, _, _, rfl, rfl, frz_rd ⟨.mk zk zn zs zl zu, zd, zhu, zhd⟩⟩
  have hlt : n < 5 := by omega
  have hbeq : Nat.beq n 5 = false := by
    cases hb : Nat.beq n 5 with
    | false => rfl
    | true => exact absurd (Nat.eq_of_beq_eq_true hb) h5
  rw [hbeq] at hn ⊢
  change (runR f (.level (n + 1) w) l).bind (fun x l => runR f (.loop n w x) l) ≠ .out at hn
  show W _ _ _ _ _ (doneX _ (ansF TP r (Lv ts) h (PR.ans Rd.v ts ((runR f (.level (n + 1) w) l).bind fun x l => runR f (.loop n w x) l))))
  obtain ⟨hk20, hkl, hkne⟩ := lev_ok n hlt
  have hlev : ∀ {H : Heap}, Does (.iaddr 1 (.v levelsV) (.v (.int .i64 (n : Nat)))) H (.fptr [kindsV (levL.getD n [])]) H := fun {H} => o_iaddrF (n := n) (v := kindsV (levL.getD n [])) rfl (lev_at hlt) rfl
  have hv := ih f (Nat.le_refl _) (n + 1) w l (by omega) hw hs
  have hin := run_in f (.level (n + 1) w) l hs
  generalize hks : levL.getD n [] = ks at *
  cases h2 : runR f (.level (n + 1) w) l with
  | out => rw [h2] at hn; exact absurd rfl hn
  | bad e l2 =>
    rw [h2] at hv
    replace hv : PX D1 TP 104 [.mptr r 0, i64 ((n + 1 : Nat) : Int), i64 (w : Nat)] r (Lv ts) (po ts l) (.bad (e : Nat) (po ts l2)) := hv (fun h => by cases h)
    show W _ _ _ _ _ (doneX _ (ansF TP r (Lv ts) h (.bad (e : Nat) (po ts l2))))
    repeat' (first
        | refine WX.puF (rput_fine hf) rfl rfl levels_pu ?_ | refine WX.near rfl hlen rfl ?_ | refine WX.bad hf hr rfl hv (fun b => ?_) | refine W.seq ?_ | refine W.regionX ?_ | refine WX.nil ?_ | refine W.skip ?_ | refine W.noP rfl (by omega) ?_ | refine WX.near rfl o_eql rfl ?_ | refine WX.near rfl (o_add (by omega) (by omega)) rfl ?_ | refine WX.near rfl (o_allocR 0 rfl) rfl ?_ | fail)
    exact ⟨rfl, _, _, rfl⟩
  | ok x l2 =>
    rw [h2] at hv hn hin
    replace hv := hv (fun h => by cases h)
    change Suf ts l2 at hin
    change runR f (.loop n w x) l2 ≠ .out at hn
    show W _ _ _ _ _ (doneX _ (ansF TP r (Lv ts) h (PR.ans Rd.v ts (runR f (.loop n w x) l2))))
    obtain ⟨⟨xk, xn, xs, xl, xu⟩, xd, xhu, xhd⟩ := x
    change PX D1 TP 104 [.mptr r 0, i64 ((n + 1 : Nat) : Int), i64 (w : Nat)] r (Lv ts) (po ts l) (.val (.agg [i64 xk, i64 xn, .str xs, xu, i64 (xd : Nat)]) (po ts l2)) at hv
    have hsg := sign_px (r := r) hin hl ks hk20 hkl (kindsV ks)
    repeat' (first
        | refine WX.puF (rput_fine hf) rfl rfl levels_pu ?_ | refine WX.near rfl hlen rfl ?_ | refine WX.val hf hr rfl rfl hv ?_ | refine WX.near rfl hlev rfl ?_ | refine WX.valP hf hr (ints_kinds hkne) rfl rfl hsg ?_ | refine W.seq ?_ | refine W.regionX ?_ | refine WX.nil ?_ | refine W.skip ?_ | refine W.block ?_ | refine W.noP rfl (by omega) ?_ | refine WX.near rfl o_eql rfl ?_ | refine WX.near rfl o_loadF rfl ?_ | refine WX.near rfl (o_add (by omega) (by omega)) rfl ?_ | refine WX.near rfl (o_storeHR hf rfl rfl) rfl ?_ | refine WX.near rfl (o_allocR 0 rfl) rfl ?_ | refine WX.near rfl (o_allocR 1 rfl) rfl ?_ | fail)
    refine W.loop (fun s : LS => [(0, .mptr r 0), (1, i64 (n : Nat)), (2, i64 (w : Nat)), (3, .mptr (h.next + 0) 0), (4, levelsV), (5, .mptr (h.next + 1) 0), (6, i64 (sgK (signT ks s.l)))])
      (fun s => hp (rput h r (Lv ts) (po ts (sgL s.l (signT ks s.l)))) (some [i64 0, i64 0, .str [], .nilsl, i64 0] :: some s.x.cells :: s.junk))
      (fun s => s.f ≤ f ∧ Suf ts s.l ∧ runR s.f (.loop n w s.x) s.l = runR f (.loop n w ⟨.mk xk xn xs xl xu, xd, xhu, xhd⟩) l2) (fun s => s.f)
      ⟨f, ⟨.mk xk xn xs xl xu, xd, xhu, xhd⟩, l2, []⟩ ⟨Nat.le_refl _, hin, rfl⟩ ⟨rfl, rfl, rfl, rfl, rfl, rfl, rfl, trivial⟩ rfl ?_
    generalize runR f (.loop n w ⟨.mk xk xn xs xl xu, xd, xhu, xhd⟩) l2 = R at hn ⊢
    clear hv hsg hin
    rintro ⟨g, ⟨⟨xk, xn, xs, xl, xu⟩, xd, xhu, xhd⟩, l3, junk⟩ ⟨hg, hs3, hR⟩
    simp only at hg hs3 hR
    cases g with
    | zero => exact absurd hR.symm hn
    | succ g =>
    unfold runR at hR
    rw [hks] at hR
    cases h4 : signT ks l3 with
    | none =>
      rw [h4] at hR
      simp only at hR
      subst hR
      show W _ _ _ ((0, _) :: (1, _) :: (2, _) :: (3, _) :: (4, _) :: (5, _) :: (6, i64 (-1)) :: []) (hp (rput h r (Lv ts) (po ts l3)) (some [i64 0, i64 0, .str [], .nilsl, i64 0] :: some [i64 xk, i64 xn, .str xs, xu, i64 (xd : Nat)] :: junk)) _
      repeat' (first
          | refine W.seq ?_ | refine W.regionX ?_ | refine WX.nil ?_ | refine W.ret ?_ | refine W.exit ?_ | refine W.no rfl rfl ?_ | refine WX.near rfl o_geq rfl ?_ | refine WX.near rfl (o_loadHNR rfl rfl) rfl ?_ | refine WX.near rfl (o_storeHR hf rfl rfl) rfl ?_ | fail)
      exact ⟨_, resK_cellR rfl rfl rfl rfl, _, _, rfl, rfl, frz_rd ⟨.mk xk xn xs xl xu, xd, xhu, xhd⟩⟩
    | some q =>
      obtain ⟨k, l4⟩ := q
      rw [h4] at hR
      have hs4 := sign_in hs3 h4
      change ((runR g (.level (n + 1) w) l4).bind fun y l => (madeR k [⟨.mk xk xn xs xl xu, xd, xhu, xhd⟩, y] l).bind fun z l => match Nat.beq n 2 with
        | true => .ok z l
        | false => runR g (.loop n w z) l) = R at hR
      have hv := ih g (by omega) (n + 1) w l4 (by omega) hw hs4
      have hin := run_in g (.level (n + 1) w) l4 hs4
      show W _ _ _ ((0, _) :: (1, _) :: (2, _) :: (3, _) :: (4, _) :: (5, _) :: (6, i64 (k : Nat)) :: []) (hp (rput h r (Lv ts) (po ts l4)) (some [i64 0, i64 0, .str [], .nilsl, i64 0] :: some [i64 xk, i64 xn, .str xs, xu, i64 (xd : Nat)] :: junk)) _
      cases h5 : runR g (.level (n + 1) w) l4 with
      | out => rw [h5] at hR; exact absurd hR.symm hn
      | bad e l5 =>
        rw [h5] at hR hv
        replace hv : PX D1 TP 104 [.mptr r 0, i64 ((n + 1 : Nat) : Int), i64 (w : Nat)] r (Lv ts) (po ts l4) (.bad (e : Nat) (po ts l5)) := hv (fun h => by cases h)
        change PR.bad e l5 = R at hR
        subst hR
        repeat' (first
            | refine WX.bad hf hr rfl hv (fun b => ?_) | refine W.seq ?_ | refine W.regionX ?_ | refine WX.nil ?_ | refine W.skip ?_ | refine W.block ?_ | refine W.yes rfl rfl ?_ | refine WX.near rfl o_geq rfl ?_ | refine WX.near rfl (o_add (by omega) (by omega)) rfl ?_ | refine WX.near rfl (o_loadHNR rfl rfl) rfl ?_ | fail)
        exact ⟨rfl, _, _, rfl⟩
      | ok y l5 =>
        rw [h5] at hR hv hin
        replace hv := hv (fun h => by cases h)
        change Suf ts l5 at hin
        obtain ⟨⟨yk, yn, ys, yl, yu⟩, yd, yhu, yhd⟩ := y
        change PX D1 TP 104 [.mptr r 0, i64 ((n + 1 : Nat) : Int), i64 (w : Nat)] r (Lv ts) (po ts l4) (.val (.agg [i64 yk, i64 yn, .str ys, yu, i64 (yd : Nat)]) (po ts l5)) at hv
        change ((madeR k [⟨.mk xk xn xs xl xu, xd, xhu, xhd⟩, ⟨.mk yk yn ys yl yu, yd, yhu, yhd⟩] l5).bind fun z l => match Nat.beq n 2 with
          | true => .ok z l
          | false => runR g (.loop n w z) l) = R at hR
        have hmd := made2_px (ts := ts) (l := l5) (r := r) k ⟨.mk xk xn xs xl xu, xd, xhu, xhd⟩ ⟨.mk yk yn ys yl yu, yd, yhu, yhd⟩ (h.next + (junk.length + 1 + 1))
        have hmi := made_in (k := k) (kids := [⟨.mk xk xn xs xl xu, xd, xhu, xhd⟩, ⟨.mk yk yn ys yl yu, yd, yhu, yhd⟩]) hin
        cases h6 : madeR k [⟨.mk xk xn xs xl xu, xd, xhu, xhd⟩, ⟨.mk yk yn ys yl yu, yd, yhu, yhd⟩] l5 with
        | out => rw [h6] at hR; exact absurd hR.symm hn
        | bad e l6 =>
          rw [h6] at hR hmd
          change PR.bad e l6 = R at hR
          subst hR
          repeat' (first
              | refine WX.valC hf hr rfl rfl hv ⟨.inr ⟨rfl, _, _, _, rfl, o_loadHNR rfl rfl, rfl⟩, trivial⟩ ?_ | refine WX.near rfl (o_litSR rfl) rfl ?_ | refine WX.badP hf hr (cells_r bget_badd) rfl hmd (fun b => ?_) | refine W.seq ?_ | refine W.regionX ?_ | refine WX.nil ?_ | refine W.skip ?_ | refine W.block ?_ | refine W.yes rfl rfl ?_ | refine WX.near rfl o_geq rfl ?_ | refine WX.near rfl (o_add (by omega) (by omega)) rfl ?_ | refine WX.near rfl (o_loadHNR rfl rfl) rfl ?_ | fail)
          exact ⟨rfl, _, _, rfl⟩
        | ok z l6 =>
          rw [h6] at hR hmd hmi
          change Suf ts l6 at hmi
          obtain ⟨⟨zk, zn, zs, zl, zu⟩, zd, zhu, zhd⟩ := z
          change PXC D1 TP 158 _ r (Lv ts) (po ts l5) (.val (.agg [i64 zk, i64 zn, .str zs, zu, i64 (zd : Nat)]) (po ts l6)) _ at hmd
          have hsg := sign_px (r := r) hmi hl ks hk20 hkl (kindsV ks)
          by_cases hn2 : n = 2
          · subst hn2
            change PR.ok ⟨.mk zk zn zs zl zu, zd, zhu, zhd⟩ l6 = R at hR
            subst hR
            repeat' (first
                | refine WX.valC hf hr rfl rfl hv ⟨.inr ⟨rfl, _, _, _, rfl, o_loadHNR rfl rfl, rfl⟩, trivial⟩ ?_ | refine WX.near rfl (o_litSR rfl) rfl ?_ | refine WX.valP hf hr (cells_r bget_badd) rfl rfl hmd ?_ | refine W.seq ?_ | refine W.regionX ?_ | refine WX.nil ?_ | refine W.skip ?_ | refine W.block ?_ | refine W.ret ?_ | refine W.exit ?_ | refine W.yes rfl rfl ?_ | refine WX.near rfl o_geq rfl ?_ | refine WX.near rfl o_eql rfl ?_ | refine WX.near rfl (o_add (by omega) (by omega)) rfl ?_ | refine WX.near rfl (o_loadHNR rfl rfl) rfl ?_ | refine WX.near rfl (o_storeHR hf rfl rfl) rfl ?_ | fail)
            exact ⟨_, resK_cellR rfl rfl rfl rfl, _, _, rfl, rfl, frz_rd ⟨.mk zk zn zs zl zu, zd, zhu, zhd⟩⟩
          · have hb2 : Nat.beq n 2 = false := by
              cases hb : Nat.beq n 2 with
              | false => rfl
              | true => exact absurd (Nat.eq_of_beq_eq_true hb) hn2
            rw [hb2] at hR
            change runR g (.loop n w ⟨.mk zk zn zs zl zu, zd, zhu, zhd⟩) l6 = R at hR
            repeat' (first
                | refine WX.valC hf hr rfl rfl hv ⟨.inr ⟨rfl, _, _, _, rfl, o_loadHNR rfl rfl, rfl⟩, trivial⟩ ?_ | refine WX.near rfl (o_litSR rfl) rfl ?_ | refine WX.valP hf hr (cells_r bget_badd) rfl rfl hmd ?_ | refine WX.near rfl hlev rfl ?_ | refine WX.valP hf hr (ints_kinds hkne) rfl rfl hsg ?_ | refine W.seq ?_ | refine W.regionX ?_ | refine WX.nil ?_ | refine W.skip ?_ | refine W.block ?_ | refine W.yes rfl rfl ?_ | refine W.noP rfl (by omega) ?_ | refine WX.near rfl o_geq rfl ?_ | refine WX.near rfl o_eql rfl ?_ | refine WX.near rfl o_loadF rfl ?_ | refine WX.near rfl (o_add (by omega) (by omega)) rfl ?_ | refine WX.near rfl (o_loadHNR rfl rfl) rfl ?_ | refine WX.near rfl (o_storeHR hf rfl rfl) rfl ?_ | fail)
            exact ⟨⟨g, ⟨.mk zk zn zs zl zu, zd, zhu, zhd⟩, l6, _⟩, ⟨by show g ≤ f; omega, hmi, hR⟩, Nat.lt_succ_self g, ⟨rfl, rfl, rfl, rfl, rfl, rfl, rfl, trivial⟩, rfl⟩
end
end Go.Proofs.YtfbikhkmamdjmaaDoor.CodesX
