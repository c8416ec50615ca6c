/- The program's parser of expressions: walked. -/
import Derived.Test.YtfbikhkmamdjmaaDoorWX4
namespace Go.Proofs.YtfbikhkmamdjmaaDoor.CodesX
open Go Go.Ab
set_option maxHeartbeats 4000000
set_option maxRecDepth 20000
section
variable {D : OCtx} {cap : Nat} {m : Kn} {Q : Ex → Kn → Heap → Prop} {h0 : Heap} {bs : List (Option (List V))} {l : List Step}
theorem WX.callvF {g g' : Opd} {f : Nat} {pre caps : List V} {xs xs' : List Opd} {d : Option Nat} {u : V} (hf : h0.Fine) (eg : kop m g = some g') (hg : vev g' = .fn f pre caps) (e : gL (kop m) xs = some xs') (hx : dOk cap d = true)
    (he : PuF D f (appL pre (appL (xs'.map vev) caps)) u) (w : WX D cap l (kput m d u) (hp h0 bs) Q) : WX D cap (⟨d, .callv g xs, none, []⟩ :: l) m (hp h0 bs) Q :=
  WX.callv eg hg e hx (he _ (hp_fine hf)) fun v h' hc => by obtain ⟨rfl, rfl⟩ := hc; exact w
theorem o_litSR {r a : Nat} {L : V} {sz n : Nat} {z cs : List V} {ps : List (Nat × Nat × Opd)} (e : fill z (ps.map fun p => (p.1, p.2.1, vev p.2.2)) = some cs) : Does (.lit sz z n ps) (hp (rput h0 r L a) bs) (.msl (h0.next + bs.length) sz 0 n none) (hp (rput h0 r L a) (badd bs cs)) := o_litS (h0 := rput h0 r L a) e
end
def LevelOk (ts : List Tk) (r f : Nat) : Prop := ∀ n w l, n ≤ 5 → w ≤ 40 → Suf ts l → runR f (.level n w) l ≠ .out → PX D1 TP 104 [.mptr r 0, i64 (n : Nat), i64 (w : Nat)] r (Lv ts) (po ts l) ((runR f (.level n w) l).ans Rd.v ts)
def SingleOk (ts : List Tk) (r f : Nat) : Prop := ∀ w l, w ≤ 40 → Suf ts l → runR f (.single w) l ≠ .out → PX D1 TP 156 [.mptr r 0, i64 (w : Nat)] r (Lv ts) (po ts l) ((runR f (.single w) l).ans Rd.v ts)
def TwoOk (ts : List Tk) (r f : Nat) : Prop := ∀ k x w l, w ≤ 40 → Suf ts l → runR f (.two k x w) l ≠ .out → PX D1 TP 237 [.mptr r 0, i64 (k : Nat), x.v, i64 (w : Nat)] r (Lv ts) (po ts l) ((runR f (.two k x w) l).ans Rd.v ts)
def FirstOk (ts : List Tk) (r f : Nat) : Prop := ∀ w l, w < 40 → Suf ts l → runR f (.first w) l ≠ .out → PX D1 TP 206 [.mptr r 0, i64 (w : Nat)] r (Lv ts) (po ts l) ((runR f (.first w) l).ans Rd.v ts)
theorem frz_rd {H : Heap} {n : Nat} (x : Rd) : Go.Ab.freeze H n fuelF (.agg [i64 x.x.k, i64 x.x.n, .str x.x.name, x.x.u, i64 (x.d : Nat)]) = some x.v :=
  frz_read (d := x.x.u) fun k hk => by
    obtain ⟨j, rfl⟩ : ∃ j, k = j + 1 := ⟨k - 1, by omega⟩
    exact freeze_still x.hu
section
variable {ts : List Tk} {r f : Nat}
theorem two_ok (hl : ts.length < 2 ^ 60) (ih : LevelOk ts r f) : TwoOk ts r (f + 1) := by
  intro k x w l hw hs hn
  unfold runR at hn ⊢
  obtain ⟨⟨xk, xn, xs, xl, xu⟩, xd, xhu, xhd⟩ := x
  refine PX.tidy rfl rfl rfl rfl rfl fun h hf hr => ?_
  have hm := must_px (r := r) hs [44] hl
  cases h1 : mustT [44] l with
  | out => rw [h1] at hn; exact absurd rfl hn
  | bad e l1 =>
    rw [h1] at hm
    change PX D1 TP 236 _ r (Lv ts) (po ts l) (.bad (e : Nat) (po ts l1)) at hm
    show W _ _ _ _ _ (doneX _ (ansF TP r (Lv ts) h (.bad (e : Nat) (po ts l1))))
    repeat' (first
        | refine WX.bad hf hr rfl hm (fun b => ?_) | refine W.seq ?_ | refine W.regionX ?_ | refine WX.nil ?_ | refine WX.near rfl (o_boxR 0 rfl) rfl ?_ | refine WX.near rfl (o_allocR 1 rfl) rfl ?_ | fail)
    exact ⟨rfl, _, _, rfl⟩
  | ok q l1 =>
    have hs1 : Suf ts l1 := by have := must_in (s := [44]) hs; rw [h1] at this; exact this
    rw [h1] at hm hn
    change PX D1 TP 236 _ r (Lv ts) (po ts l) (.val (.tup []) (po ts l1)) at hm
    change ((runR f (.level 0 w) l1).bind fun y l => (mustT [41] l).bind fun _ l => madeR k [⟨.mk xk xn xs xl xu, xd, xhu, xhd⟩, y] l) ≠ .out at hn
    show W _ _ _ _ _ (doneX _ (ansF TP r (Lv ts) h (PR.ans Rd.v ts ((runR f (.level 0 w) l1).bind fun y l => (mustT [41] l).bind fun _ l => madeR k [⟨.mk xk xn xs xl xu, xd, xhu, xhd⟩, y] l))))
    have hv := ih 0 w l1 (by omega) hw hs1
    have hin := run_in f (.level 0 w) l1 hs1
    cases h2 : runR f (.level 0 w) l1 with
    | out => rw [h2] at hn; exact absurd rfl hn
    | bad e l2 =>
      rw [h2] at hv
      replace hv : PX D1 TP 104 [.mptr r 0, i64 (0 : Nat), i64 (w : Nat)] r (Lv ts) (po ts l1) (.bad (e : Nat) (po ts l2)) := hv (fun h => by cases h)
      show W _ _ _ _ _ (doneX _ (ansF TP r (Lv ts) h (.bad (e : Nat) (po ts l2))))
      repeat' (first
          | refine WX.val hf hr rfl rfl hm ?_ | refine WX.bad hf hr rfl hv (fun b => ?_) | refine W.seq ?_ | refine W.regionX ?_ | refine WX.nil ?_ | refine WX.near rfl (o_boxR 0 rfl) rfl ?_ | refine WX.near rfl (o_allocR 1 rfl) rfl ?_ | fail)
      exact ⟨rfl, _, _, rfl⟩
    | ok y l2 =>
      rw [h2] at hv hn hin
      replace hv := hv (fun h => by cases h)
      change Suf ts l2 at hin
      obtain ⟨⟨yk, yn, ys, yl, yu⟩, yd, yhu, yhd⟩ := y
      change PX D1 TP 104 [.mptr r 0, i64 (0 : Nat), i64 (w : Nat)] r (Lv ts) (po ts l1) (.val (.agg [i64 yk, i64 yn, .str ys, yu, i64 (yd : Nat)]) (po ts l2)) at hv
      have hm2 := must_px (r := r) hin [41] hl
      cases h3 : mustT [41] l2 with
      | out => rw [show ((PR.ok _ l2 : PR Rd).bind _) = (mustT [41] l2).bind _ from rfl, h3] at hn; exact absurd rfl hn
      | bad e l3 =>
        rw [h3] at hm2
        change PX D1 TP 236 _ r (Lv ts) (po ts l2) (.bad (e : Nat) (po ts l3)) at hm2
        show W _ _ _ _ _ (doneX _ (ansF TP r (Lv ts) h (PR.ans Rd.v ts ((mustT [41] l2).bind _))))
        rw [h3]
        show W _ _ _ _ _ (doneX _ (ansF TP r (Lv ts) h (.bad (e : Nat) (po ts l3))))
        repeat' (first
            | refine WX.val hf hr rfl rfl hm ?_ | refine WX.val hf hr rfl rfl hv ?_ | refine WX.bad hf hr rfl hm2 (fun b => ?_) | refine W.seq ?_ | refine W.regionX ?_ | refine WX.nil ?_ | refine WX.near rfl (o_storeHR hf rfl rfl) rfl ?_ | refine WX.near rfl (o_boxR 0 rfl) rfl ?_ | refine WX.near rfl (o_allocR 1 rfl) rfl ?_ | refine WX.near rfl (o_allocR 2 rfl) rfl ?_ | fail)
        exact ⟨rfl, _, _, rfl⟩
      | ok q l3 =>
        rw [h3] at hm2
        change PX D1 TP 236 _ r (Lv ts) (po ts l2) (.val (.tup []) (po ts l3)) at hm2
        show W _ _ _ _ _ (doneX _ (ansF TP r (Lv ts) h (PR.ans Rd.v ts ((mustT [41] l2).bind _))))
        rw [h3]
        show W _ _ _ _ _ (doneX _ (ansF TP r (Lv ts) h (PR.ans Rd.v ts (madeR k [⟨.mk xk xn xs xl xu, xd, xhu, xhd⟩, ⟨.mk yk yn ys yl yu, yd, yhu, yhd⟩] l3))))
        have hmd := made2_px (ts := ts) (l := l3) (r := r) k ⟨.mk xk xn xs xl xu, xd, xhu, xhd⟩ ⟨.mk yk yn ys yl yu, yd, yhu, yhd⟩ (h.next + 3)
        cases h4 : madeR k [⟨.mk xk xn xs xl xu, xd, xhu, xhd⟩, ⟨.mk yk yn ys yl yu, yd, yhu, yhd⟩] l3 with
        | out => rw [madeR_eq] at h4; split at h4 <;> cases h4
        | bad e l4 =>
          rw [h4] at hmd
          show W _ _ _ _ _ (doneX _ (ansF TP r (Lv ts) h (.bad (e : Nat) (po ts l4))))
          repeat' (first
              | refine WX.val hf hr rfl rfl hm ?_ | refine WX.val hf hr rfl rfl hv ?_ | refine WX.val hf hr rfl rfl hm2 ?_ | refine WX.badP hf hr (cells_r rfl) rfl hmd (fun b => ?_) | refine W.seq ?_ | refine W.regionX ?_ | refine WX.nil ?_ | refine WX.near rfl (o_loadHNR rfl rfl) rfl ?_ | refine WX.near rfl (o_storeHR hf rfl rfl) rfl ?_ | refine WX.near rfl (o_boxR 0 rfl) rfl ?_ | refine WX.near rfl (o_allocR 1 rfl) rfl ?_ | refine WX.near rfl (o_allocR 2 rfl) rfl ?_ | refine WX.near rfl (o_litHR 3 rfl rfl) rfl ?_ | fail)
          exact ⟨rfl, _, _, rfl⟩
        | ok z l4 =>
          rw [h4] at hmd
          show W _ _ _ _ _ (doneX _ (ansF TP r (Lv ts) h (.val z.v (po ts l4))))
          obtain ⟨⟨zk, zn, zs, zl, zu⟩, zd, zhu, zhd⟩ := z
          change PXC D1 TP 158 _ r (Lv ts) (po ts l3) (.val (.agg [i64 zk, i64 zn, .str zs, zu, i64 (zd : Nat)]) (po ts l4)) _ at hmd
          repeat' (first
              | refine WX.val hf hr rfl rfl hm ?_ | refine WX.val hf hr rfl rfl hv ?_ | refine WX.val hf hr rfl rfl hm2 ?_ | refine WX.valP hf hr (cells_r rfl) rfl rfl hmd ?_ | refine W.seq ?_ | refine W.regionX ?_ | refine WX.nil ?_ | refine W.ret ?_ | refine WX.near rfl (o_loadHNR rfl rfl) rfl ?_ | refine WX.near rfl (o_storeHR hf rfl rfl) rfl ?_ | refine WX.near rfl (o_boxR 0 rfl) rfl ?_ | refine WX.near rfl (o_allocR 1 rfl) rfl ?_ | refine WX.near rfl (o_allocR 2 rfl) rfl ?_ | refine WX.near rfl (o_litHR 3 rfl rfl) rfl ?_ | fail)
          exact ⟨_, resK_cellR rfl rfl rfl rfl, _, _, rfl, rfl, frz_rd ⟨.mk zk zn zs zl zu, zd, zhu, zhd⟩⟩
end
end Go.Proofs.YtfbikhkmamdjmaaDoor.CodesX
