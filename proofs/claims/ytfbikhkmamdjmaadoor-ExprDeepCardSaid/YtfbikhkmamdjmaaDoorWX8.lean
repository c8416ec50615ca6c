/- The program's parser of expressions: firsts, walked; all of it. -/
import Derived.Test.YtfbikhkmamdjmaaDoorWX7
namespace Go.Proofs.YtfbikhkmamdjmaaDoor.CodesX
open Go Go.Ab
set_option maxHeartbeats 4000000
set_option maxRecDepth 20000
theorem nb_yes {a b : Nat} (h : a = b) : Nat.beq a b = true := by subst h; exact Nat.beq_refl a
theorem nb_no {a b : Nat} (h : a ≠ b) : Nat.beq a b = false := by
  cases hb : Nat.beq a b with
  | false => rfl
  | true => exact absurd (Nat.eq_of_beq_eq_true hb) h
section
variable {ts : List Tk} {r f : Nat}
theorem first_ok (hl : ts.length < 2 ^ 60) (ih : LevelOk ts r f) (iht : TwoOk ts r f) : FirstOk ts r (f + 1) := by
  intro w l hw hs hn
  generalize hR : runR (f + 1) (.first w) l = R at hn ⊢
  unfold runR at hR
  have hnow := now_px (r := r) hs
  refine PX.tidy rfl rfl rfl rfl rfl fun h hf hr => ?_
  have hi := int_px (r := r) hs hl
  have hna := name_px (r := r) hs hl
  have hm1 := must_px (r := r) hs [40] hl
  generalize now l = t at hR hnow
  obtain ⟨tk, tn, tp, tt⟩ := t
  change PX D1 TP 234 [.mptr r 0] r (Lv ts) (po ts l) (.val (.agg [.int .i64 (tk : Nat), .int .i64 (tn : Nat), .int .i64 (tp : Nat), .str tt]) (po ts l)) at hnow
  by_cases h3 : tk = 3
  · rw [show (Tk.mk tk tn tp tt).k.beq 3 = true from nb_yes h3] at hR
    change ((ofT 3 l).bind fun t l => atomR 0 (t.n : Int) [] l) = R at hR
    cases h4 : ofT 3 l with
    | out => exact absurd h4 ofT_out
    | bad e l2 =>
      rw [h4] at hi hR
      change PX D1 TP 205 _ r (Lv ts) (po ts (l)) (.bad (e : Nat) (po ts l2)) at hi
      change PR.bad e l2 = R at hR
      subst hR
      repeat' (first
          | refine WX.val hf hr rfl rfl hnow ?_ | refine WX.bad hf hr rfl hi (fun b => ?_) | refine W.seq ?_ | refine W.regionX ?_ | refine WX.nil ?_ | refine W.block ?_ | refine W.yesP rfl (by omega) ?_ | refine WX.near rfl o_mov rfl ?_ | refine WX.near rfl o_eql rfl ?_ | refine WX.near rfl o_faddr rfl ?_ | refine WX.near rfl (o_loadHR rfl) rfl ?_ | refine WX.near rfl (o_storeHR hf rfl rfl) rfl ?_ | refine WX.near rfl (o_allocR 0 rfl) rfl ?_ | refine WX.near rfl (o_allocR 1 rfl) rfl ?_ | fail)
      exact ⟨rfl, _, _, rfl⟩
    | ok t l2 =>
      rw [h4] at hi hR
      change PX D1 TP 205 _ r (Lv ts) (po ts (l)) (.val (i64 (t.n : Nat)) (po ts l2)) at hi
      change atomR 0 (t.n : Int) [] l2 = R at hR
      subst hR
      repeat' (first
          | refine WX.val hf hr rfl rfl hnow ?_ | refine WX.val hf hr rfl rfl hi ?_ | refine WX.callvF (rput_fine hf) rfl rfl rfl rfl (plain_pu 0 (t.n : Nat) [] .nilsl rfl) ?_ | refine W.seq ?_ | refine W.regionX ?_ | refine WX.nil ?_ | refine W.block ?_ | refine W.ret ?_ | refine W.yesP rfl (by omega) ?_ | refine WX.near rfl o_mov rfl ?_ | refine WX.near rfl o_eql rfl ?_ | refine WX.near rfl o_faddr rfl ?_ | refine WX.near rfl (o_build rfl) rfl ?_ | refine WX.near rfl (o_loadHR rfl) rfl ?_ | refine WX.near rfl (o_storeHR hf rfl rfl) rfl ?_ | refine WX.near rfl (o_allocR 0 rfl) rfl ?_ | refine WX.near rfl (o_allocR 1 rfl) rfl ?_ | fail)
      exact ⟨_, resK_cellR rfl rfl rfl rfl, _, _, rfl, rfl, rfl⟩
  rw [show (Tk.mk tk tn tp tt).k.beq 3 = false from nb_no h3] at hR
  by_cases h1 : tk = 1
  · rw [show (Tk.mk tk tn tp tt).k.beq 1 = true from nb_yes h1] at hR
    change ((ofT 1 l).bind fun t l => atomR 2 0 t.s l) = R at hR
    cases h4 : ofT 1 l with
    | out => exact absurd h4 ofT_out
    | bad e l2 =>
      rw [h4] at hna hR
      change PX D1 TP 235 _ r (Lv ts) (po ts (l)) (.bad (e : Nat) (po ts l2)) at hna
      change PR.bad e l2 = R at hR
      subst hR
      repeat' (first
          | refine WX.val hf hr rfl rfl hnow ?_ | refine WX.bad hf hr rfl hna (fun b => ?_) | refine W.seq ?_ | refine W.regionX ?_ | refine WX.nil ?_ | refine W.block ?_ | refine W.yesP rfl (by omega) ?_ | refine W.noP rfl (by omega) ?_ | refine WX.near rfl o_mov rfl ?_ | refine WX.near rfl o_eql rfl ?_ | refine WX.near rfl o_faddr rfl ?_ | refine WX.near rfl (o_loadHR rfl) rfl ?_ | refine WX.near rfl (o_storeHR hf rfl rfl) rfl ?_ | refine WX.near rfl (o_allocR 0 rfl) rfl ?_ | refine WX.near rfl (o_allocR 1 rfl) rfl ?_ | fail)
      exact ⟨rfl, _, _, rfl⟩
    | ok t l2 =>
      rw [h4] at hna hR
      change PX D1 TP 235 _ r (Lv ts) (po ts (l)) (.val (.str t.s) (po ts l2)) at hna
      change atomR 2 0 t.s l2 = R at hR
      subst hR
      repeat' (first
          | refine WX.val hf hr rfl rfl hnow ?_ | refine WX.val hf hr rfl rfl hna ?_ | refine WX.callvF (rput_fine hf) rfl rfl rfl rfl (plain_pu 2 0 t.s .nilsl rfl) ?_ | refine W.seq ?_ | refine W.regionX ?_ | refine WX.nil ?_ | refine W.block ?_ | refine W.ret ?_ | refine W.yesP rfl (by omega) ?_ | refine W.noP rfl (by omega) ?_ | refine WX.near rfl o_mov rfl ?_ | refine WX.near rfl o_eql rfl ?_ | refine WX.near rfl o_faddr rfl ?_ | refine WX.near rfl (o_build rfl) rfl ?_ | refine WX.near rfl (o_loadHR rfl) rfl ?_ | refine WX.near rfl (o_storeHR hf rfl rfl) rfl ?_ | refine WX.near rfl (o_allocR 0 rfl) rfl ?_ | refine WX.near rfl (o_allocR 1 rfl) rfl ?_ | fail)
      exact ⟨_, resK_cellR rfl rfl rfl rfl, _, _, rfl, rfl, rfl⟩
  rw [show (Tk.mk tk tn tp tt).k.beq 1 = false from nb_no h1] at hR
  clear hi hna
  repeat' (first
      | refine WX.val hf hr rfl rfl hnow ?_ | refine W.seq ?_ | refine W.regionX ?_ | refine WX.nil ?_ | refine W.block ?_ | refine W.noP rfl (by omega) ?_ | refine WX.near rfl o_mov rfl ?_ | refine WX.near rfl o_eql rfl ?_ | refine WX.near rfl o_faddr rfl ?_ | refine WX.near rfl (o_loadHR rfl) rfl ?_ | refine WX.near rfl (o_storeHR hf rfl rfl) rfl ?_ | refine WX.near rfl (o_allocR 0 rfl) rfl ?_ | refine WX.near rfl (o_allocR 1 rfl) rfl ?_ | fail)
  have h_true := took_px (r := r) hs [116, 114, 117, 101] hl
  unfold tookT at h_true
  cases b_true : isT [116, 114, 117, 101] l with
  | true =>
    rw [b_true] at h_true hR
    have hs2 := tail_suf hs b_true
    simp only at h_true
    change atomR 1 1 [] l.tail = R at hR
    subst hR
    repeat' (first
        | refine WX.val hf hr rfl rfl h_true ?_ | refine WX.callvF (rput_fine hf) rfl rfl rfl rfl (plain_pu 1 1 [] .nilsl rfl) ?_ | refine W.seq ?_ | refine W.regionX ?_ | refine WX.nil ?_ | refine W.ret ?_ | refine W.yes rfl rfl ?_ | refine WX.near rfl (o_build rfl) rfl ?_ | refine WX.near rfl (o_storeHR hf rfl rfl) rfl ?_ | fail)
    exact ⟨_, resK_cellR rfl rfl rfl rfl, _, _, rfl, rfl, rfl⟩
  | false =>
  rw [b_true] at h_true hR
  simp only at h_true
  repeat' (first
      | refine WX.val hf hr rfl rfl h_true ?_ | refine W.seq ?_ | refine W.regionX ?_ | refine WX.nil ?_ | refine W.no rfl rfl ?_ | fail)
  have h_false := took_px (r := r) hs [102, 97, 108, 115, 101] hl
  unfold tookT at h_false
  cases b_false : isT [102, 97, 108, 115, 101] l with
  | true =>
    rw [b_false] at h_false hR
    have hs2 := tail_suf hs b_false
    simp only at h_false
    change atomR 1 0 [] l.tail = R at hR
    subst hR
    repeat' (first
        | refine WX.val hf hr rfl rfl h_false ?_ | refine WX.callvF (rput_fine hf) rfl rfl rfl rfl (plain_pu 1 0 [] .nilsl rfl) ?_ | refine W.seq ?_ | refine W.regionX ?_ | refine WX.nil ?_ | refine W.ret ?_ | refine W.yes rfl rfl ?_ | refine WX.near rfl (o_build rfl) rfl ?_ | refine WX.near rfl (o_storeHR hf rfl rfl) rfl ?_ | fail)
    exact ⟨_, resK_cellR rfl rfl rfl rfl, _, _, rfl, rfl, rfl⟩
  | false =>
  rw [b_false] at h_false hR
  simp only at h_false
  repeat' (first
      | refine WX.val hf hr rfl rfl h_false ?_ | refine W.seq ?_ | refine W.regionX ?_ | refine WX.nil ?_ | refine W.no rfl rfl ?_ | fail)
  have h_sym := took_px (r := r) hs [39] hl
  unfold tookT at h_sym
  cases b_sym : isT [39] l with
  | true =>
    rw [b_sym] at h_sym hR
    have hs2 := tail_suf hs b_sym
    simp only at h_sym
    have hna2 := name_px (r := r) hs2 hl
    change ((ofT 1 l.tail).bind fun t l => atomR 3 0 t.s l) = R at hR
    cases h4 : ofT 1 l.tail with
    | out => exact absurd h4 ofT_out
    | bad e l2 =>
      rw [h4] at hna2 hR
      change PX D1 TP 235 _ r (Lv ts) (po ts (l.tail)) (.bad (e : Nat) (po ts l2)) at hna2
      change PR.bad e l2 = R at hR
      subst hR
      repeat' (first
          | refine WX.val hf hr rfl rfl h_sym ?_ | refine WX.bad hf hr rfl hna2 (fun b => ?_) | refine W.seq ?_ | refine W.regionX ?_ | refine WX.nil ?_ | refine W.yes rfl rfl ?_ | fail)
      exact ⟨rfl, _, _, rfl⟩
    | ok t l2 =>
      rw [h4] at hna2 hR
      change PX D1 TP 235 _ r (Lv ts) (po ts (l.tail)) (.val (.str t.s) (po ts l2)) at hna2
      change atomR 3 0 t.s l2 = R at hR
      subst hR
      repeat' (first
          | refine WX.val hf hr rfl rfl h_sym ?_ | refine WX.val hf hr rfl rfl hna2 ?_ | refine WX.callvF (rput_fine hf) rfl rfl rfl rfl (plain_pu 3 0 t.s .nilsl rfl) ?_ | refine W.seq ?_ | refine W.regionX ?_ | refine WX.nil ?_ | refine W.ret ?_ | refine W.yes rfl rfl ?_ | refine WX.near rfl (o_build rfl) rfl ?_ | refine WX.near rfl (o_storeHR hf rfl rfl) rfl ?_ | fail)
      exact ⟨_, resK_cellR rfl rfl rfl rfl, _, _, rfl, rfl, rfl⟩
  | false =>
  rw [b_sym] at h_sym hR
  simp only at h_sym
  repeat' (first
      | refine WX.val hf hr rfl rfl h_sym ?_ | refine W.seq ?_ | refine W.regionX ?_ | refine WX.nil ?_ | refine W.no rfl rfl ?_ | fail)
  have h_self := took_px (r := r) hs [115, 101, 108, 102] hl
  unfold tookT at h_self
  cases b_self : isT [115, 101, 108, 102] l with
  | true =>
    rw [b_self] at h_self hR
    have hs2 := tail_suf hs b_self
    simp only at h_self
    change atomR 4 0 [] l.tail = R at hR
    subst hR
    repeat' (first
        | refine WX.val hf hr rfl rfl h_self ?_ | refine WX.callvF (rput_fine hf) rfl rfl rfl rfl (plain_pu 4 0 [] .nilsl rfl) ?_ | refine W.seq ?_ | refine W.regionX ?_ | refine WX.nil ?_ | refine W.ret ?_ | refine W.yes rfl rfl ?_ | refine WX.near rfl (o_build rfl) rfl ?_ | refine WX.near rfl (o_storeHR hf rfl rfl) rfl ?_ | fail)
    exact ⟨_, resK_cellR rfl rfl rfl rfl, _, _, rfl, rfl, rfl⟩
  | false =>
  rw [b_self] at h_self hR
  simp only at h_self
  repeat' (first
      | refine WX.val hf hr rfl rfl h_self ?_ | refine W.seq ?_ | refine W.regionX ?_ | refine WX.nil ?_ | refine W.no rfl rfl ?_ | fail)
  have h_time := took_px (r := r) hs [116, 105, 109, 101] hl
  unfold tookT at h_time
  cases b_time : isT [116, 105, 109, 101] l with
  | true =>
    rw [b_time] at h_time hR
    have hs2 := tail_suf hs b_time
    simp only at h_time
    change atomR 5 0 [] l.tail = R at hR
    subst hR
    repeat' (first
        | refine WX.val hf hr rfl rfl h_time ?_ | refine WX.callvF (rput_fine hf) rfl rfl rfl rfl (plain_pu 5 0 [] .nilsl rfl) ?_ | refine W.seq ?_ | refine W.regionX ?_ | refine WX.nil ?_ | refine W.ret ?_ | refine W.yes rfl rfl ?_ | refine WX.near rfl (o_build rfl) rfl ?_ | refine WX.near rfl (o_storeHR hf rfl rfl) rfl ?_ | fail)
    exact ⟨_, resK_cellR rfl rfl rfl rfl, _, _, rfl, rfl, rfl⟩
  | false =>
  rw [b_time] at h_time hR
  simp only at h_time
  repeat' (first
      | refine WX.val hf hr rfl rfl h_time ?_ | refine W.seq ?_ | refine W.regionX ?_ | refine WX.nil ?_ | refine W.no rfl rfl ?_ | fail)
  have h_far := took_px (r := r) hs [102, 97, 114] hl
  unfold tookT at h_far
  cases b_far : isT [102, 97, 114] l with
  | true =>
    rw [b_far] at h_far hR
    have hs2 := tail_suf hs b_far
    simp only at h_far
    have hm2 := must_px (r := r) hs2 [40] hl
    change ((mustT [40] l.tail).bind fun _ l => (runR f (.level 0 (w + 1)) l).bind fun x l => runR f (.two 19 x (w + 1)) l) = R at hR
    have hin2 := must_in (s := [40]) hs2
    cases h4 : mustT [40] l.tail with
    | out => rw [h4] at hR; exact absurd hR.symm hn
    | bad e l2 =>
      rw [h4] at hm2 hR
      change PX D1 TP 236 _ r (Lv ts) (po ts l.tail) (.bad (e : Nat) (po ts l2)) at hm2
      change PR.bad e l2 = R at hR
      subst hR
      repeat' (first
          | refine WX.val hf hr rfl rfl h_far ?_ | refine WX.bad hf hr rfl hm2 (fun b => ?_) | refine W.seq ?_ | refine W.regionX ?_ | refine WX.nil ?_ | refine W.yes rfl rfl ?_ | fail)
      exact ⟨rfl, _, _, rfl⟩
    | ok q l2 =>
      rw [h4] at hm2 hR hin2
      change PX D1 TP 236 _ r (Lv ts) (po ts l.tail) (.val (.tup []) (po ts l2)) at hm2
      change Suf ts l2 at hin2
      change ((runR f (.level 0 (w + 1)) l2).bind fun x l => runR f (.two 19 x (w + 1)) l) = R at hR
      have hv := ih 0 (w + 1) l2 (by omega) (by omega) hin2
      have hin3 := run_in f (.level 0 (w + 1)) l2 hin2
      cases h5 : runR f (.level 0 (w + 1)) l2 with
      | out => rw [h5] at hR; exact absurd hR.symm hn
      | bad e l3 =>
        rw [h5] at hv hR
        replace hv : PX D1 TP 104 [.mptr r 0, i64 0, i64 ((w + 1 : Nat) : Int)] r (Lv ts) (po ts l2) (.bad (e : Nat) (po ts l3)) := hv (fun h => by cases h)
        change PR.bad e l3 = R at hR
        subst hR
        repeat' (first
            | refine WX.val hf hr rfl rfl h_far ?_ | refine WX.val hf hr rfl rfl hm2 ?_ | refine WX.bad hf hr rfl hv (fun b => ?_) | refine W.seq ?_ | refine W.regionX ?_ | refine WX.nil ?_ | refine W.yes rfl rfl ?_ | refine WX.near rfl (o_add (by omega) (by omega)) rfl ?_ | fail)
        exact ⟨rfl, _, _, rfl⟩
      | ok x l3 =>
        rw [h5] at hv hR hin3
        change Suf ts l3 at hin3
        replace hv := hv (fun h => by cases h)
        change runR f (.two 19 x (w + 1)) l3 = R at hR
        have hv2 := iht 19 x (w + 1) l3 (by omega) hin3
        obtain ⟨⟨xk, xn, xs, xl, xu⟩, xd, xhu, xhd⟩ := x
        change PX D1 TP 104 [.mptr r 0, i64 0, i64 ((w + 1 : Nat) : Int)] r (Lv ts) (po ts l2) (.val (.agg [i64 xk, i64 xn, .str xs, xu, i64 (xd : Nat)]) (po ts l3)) at hv
        rw [hR] at hv2
        replace hv2 : PX D1 TP 237 [.mptr r 0, i64 19, .agg [i64 xk, i64 xn, .str xs, xu, i64 (xd : Nat)], i64 ((w + 1 : Nat) : Int)] r (Lv ts) (po ts l3) (R.ans Rd.v ts) := hv2 hn
        cases R with
        | out => exact absurd rfl hn
        | bad e l4 =>
          change PX D1 TP 237 _ r (Lv ts) (po ts l3) (.bad (e : Nat) (po ts l4)) at hv2
          repeat' (first
              | refine WX.val hf hr rfl rfl h_far ?_ | refine WX.val hf hr rfl rfl hm2 ?_ | refine WX.val hf hr rfl rfl hv ?_ | refine WX.bad hf hr rfl hv2 (fun b => ?_) | refine W.seq ?_ | refine W.regionX ?_ | refine WX.nil ?_ | refine W.yes rfl rfl ?_ | refine WX.near rfl (o_add (by omega) (by omega)) rfl ?_ | fail)
          exact ⟨rfl, _, _, rfl⟩
        | ok z l4 =>
          obtain ⟨⟨zk, zn, zs, zl, zu⟩, zd, zhu, zhd⟩ := z
          change PX D1 TP 237 _ r (Lv ts) (po ts l3) (.val (.agg [i64 zk, i64 zn, .str zs, zu, i64 (zd : Nat)]) (po ts l4)) at hv2
          repeat' (first
              | refine WX.val hf hr rfl rfl h_far ?_ | refine WX.val hf hr rfl rfl hm2 ?_ | refine WX.val hf hr rfl rfl hv ?_ | refine WX.val hf hr rfl rfl hv2 ?_ | refine W.seq ?_ | refine W.regionX ?_ | refine WX.nil ?_ | refine W.ret ?_ | refine W.yes rfl rfl ?_ | refine WX.near rfl (o_add (by omega) (by omega)) rfl ?_ | refine WX.near rfl (o_storeHR hf rfl rfl) rfl ?_ | fail)
          exact ⟨_, resK_cellR rfl rfl rfl rfl, _, _, rfl, rfl, frz_rd ⟨.mk zk zn zs zl zu, zd, zhu, zhd⟩⟩
  | false =>
  rw [b_far] at h_far hR
  simp only at h_far
  repeat' (first
      | refine WX.val hf hr rfl rfl h_far ?_ | refine W.seq ?_ | refine W.regionX ?_ | refine WX.nil ?_ | refine W.skip ?_ | refine W.no rfl rfl ?_ | fail)
  change ((mustT [40] l).bind fun _ l => (runR f (.level 0 (w + 1)) l).bind fun x l => match isT [44] l with
    | true => runR f (.two 15 x (w + 1)) l
    | false => (mustT [41] l).bind fun _ l => .ok x l) = R at hR
  have hin2 := must_in (s := [40]) hs
  cases h4 : mustT [40] l with
  | out => rw [h4] at hR; exact absurd hR.symm hn
  | bad e l2 =>
    rw [h4] at hm1 hR
    change PX D1 TP 236 _ r (Lv ts) (po ts l) (.bad (e : Nat) (po ts l2)) at hm1
    change PR.bad e l2 = R at hR
    subst hR
    repeat' (first
        | refine WX.bad hf hr rfl hm1 (fun b => ?_) | fail)
    exact ⟨rfl, _, _, rfl⟩
  | ok q l2 =>
    rw [h4] at hm1 hR hin2
    change PX D1 TP 236 _ r (Lv ts) (po ts l) (.val (.tup []) (po ts l2)) at hm1
    change Suf ts l2 at hin2
    change ((runR f (.level 0 (w + 1)) l2).bind fun x l => match isT [44] l with
      | true => runR f (.two 15 x (w + 1)) l
      | false => (mustT [41] l).bind fun _ l => .ok x l) = R at hR
    have hv := ih 0 (w + 1) l2 (by omega) (by omega) hin2
    have hin3 := run_in f (.level 0 (w + 1)) l2 hin2
    cases h5 : runR f (.level 0 (w + 1)) l2 with
    | out => rw [h5] at hR; exact absurd hR.symm hn
    | bad e l3 =>
      rw [h5] at hv hR
      replace hv : PX D1 TP 104 [.mptr r 0, i64 0, i64 ((w + 1 : Nat) : Int)] r (Lv ts) (po ts l2) (.bad (e : Nat) (po ts l3)) := hv (fun h => by cases h)
      change PR.bad e l3 = R at hR
      subst hR
      repeat' (first
          | refine WX.val hf hr rfl rfl hm1 ?_ | refine WX.bad hf hr rfl hv (fun b => ?_) | refine W.seq ?_ | refine W.regionX ?_ | refine WX.nil ?_ | refine WX.near rfl (o_add (by omega) (by omega)) rfl ?_ | fail)
      exact ⟨rfl, _, _, rfl⟩
    | ok x l3 =>
      rw [h5] at hv hR hin3
      change Suf ts l3 at hin3
      replace hv := hv (fun h => by cases h)
      change (match isT [44] l3 with
        | true => runR f (.two 15 x (w + 1)) l3
        | false => (mustT [41] l3).bind fun _ l => .ok x l) = R at hR
      have hv2 := iht 15 x (w + 1) l3 (by omega) hin3
      have his := is_px (r := r) hin3 [44]
      have hm3 := must_px (r := r) hin3 [41] hl
      obtain ⟨⟨xk, xn, xs, xl, xu⟩, xd, xhu, xhd⟩ := x
      change PX D1 TP 104 [.mptr r 0, i64 0, i64 ((w + 1 : Nat) : Int)] r (Lv ts) (po ts l2) (.val (.agg [i64 xk, i64 xn, .str xs, xu, i64 (xd : Nat)]) (po ts l3)) at hv
      cases h6 : isT [44] l3 with
      | true =>
        rw [h6] at his hR
        change runR f (.two 15 _ (w + 1)) l3 = R at hR
        rw [hR] at hv2
        replace hv2 : PX D1 TP 237 [.mptr r 0, i64 15, .agg [i64 xk, i64 xn, .str xs, xu, i64 (xd : Nat)], i64 ((w + 1 : Nat) : Int)] r (Lv ts) (po ts l3) (R.ans Rd.v ts) := hv2 hn
        cases R with
        | out => exact absurd rfl hn
        | bad e l4 =>
          change PX D1 TP 237 _ r (Lv ts) (po ts l3) (.bad (e : Nat) (po ts l4)) at hv2
          repeat' (first
              | refine WX.val hf hr rfl rfl hm1 ?_ | refine WX.val hf hr rfl rfl hv ?_ | refine WX.val hf hr rfl rfl his ?_ | refine WX.bad hf hr rfl hv2 (fun b => ?_) | refine W.seq ?_ | refine W.regionX ?_ | refine WX.nil ?_ | refine W.yes rfl rfl ?_ | refine WX.near rfl (o_add (by omega) (by omega)) rfl ?_ | refine WX.near rfl (o_loadHNR rfl rfl) rfl ?_ | refine WX.near rfl (o_storeHR hf rfl rfl) rfl ?_ | refine WX.near rfl (o_allocR 2 rfl) rfl ?_ | fail)
          exact ⟨rfl, _, _, rfl⟩
        | ok z l4 =>
          obtain ⟨⟨zk, zn, zs, zl, zu⟩, zd, zhu, zhd⟩ := z
          change PX D1 TP 237 _ r (Lv ts) (po ts l3) (.val (.agg [i64 zk, i64 zn, .str zs, zu, i64 (zd : Nat)]) (po ts l4)) at hv2
          repeat' (first
              | refine WX.val hf hr rfl rfl hm1 ?_ | refine WX.val hf hr rfl rfl hv ?_ | refine WX.val hf hr rfl rfl his ?_ | refine WX.val hf hr rfl rfl hv2 ?_ | refine W.seq ?_ | refine W.regionX ?_ | refine WX.nil ?_ | refine W.ret ?_ | refine W.yes rfl rfl ?_ | refine WX.near rfl (o_add (by omega) (by omega)) rfl ?_ | refine WX.near rfl (o_loadHNR rfl rfl) rfl ?_ | refine WX.near rfl (o_storeHR hf rfl rfl) rfl ?_ | refine WX.near rfl (o_allocR 2 rfl) rfl ?_ | fail)
          exact ⟨_, resK_cellR rfl rfl rfl rfl, _, _, rfl, rfl, frz_rd ⟨.mk zk zn zs zl zu, zd, zhu, zhd⟩⟩
      | false =>
        rw [h6] at his hR
        change ((mustT [41] l3).bind fun _ l => .ok ⟨.mk xk xn xs xl xu, xd, xhu, xhd⟩ l) = R at hR
        cases h7 : mustT [41] l3 with
        | out => rw [h7] at hR; exact absurd hR.symm hn
        | bad e l4 =>
          rw [h7] at hm3 hR
          change PX D1 TP 236 _ r (Lv ts) (po ts l3) (.bad (e : Nat) (po ts l4)) at hm3
          change PR.bad e l4 = R at hR
          subst hR
          repeat' (first
              | refine WX.val hf hr rfl rfl hm1 ?_ | refine WX.val hf hr rfl rfl hv ?_ | refine WX.val hf hr rfl rfl his ?_ | refine WX.bad hf hr rfl hm3 (fun b => ?_) | refine W.seq ?_ | refine W.regionX ?_ | refine WX.nil ?_ | refine W.skip ?_ | refine W.no rfl rfl ?_ | refine WX.near rfl (o_add (by omega) (by omega)) rfl ?_ | refine WX.near rfl (o_storeHR hf rfl rfl) rfl ?_ | refine WX.near rfl (o_allocR 2 rfl) rfl ?_ | fail)
          exact ⟨rfl, _, _, rfl⟩
        | ok q l4 =>
          rw [h7] at hm3 hR
          change PX D1 TP 236 _ r (Lv ts) (po ts l3) (.val (.tup []) (po ts l4)) at hm3
          change PR.ok ⟨.mk xk xn xs xl xu, xd, xhu, xhd⟩ l4 = R at hR
          subst hR
          repeat' (first
              | refine WX.val hf hr rfl rfl hm1 ?_ | refine WX.val hf hr rfl rfl hv ?_ | refine WX.val hf hr rfl rfl his ?_ | refine WX.val hf hr rfl rfl hm3 ?_ | refine W.seq ?_ | refine W.regionX ?_ | refine WX.nil ?_ | refine W.skip ?_ | refine W.ret ?_ | refine W.no rfl rfl ?_ | refine WX.near rfl (o_add (by omega) (by omega)) rfl ?_ | refine WX.near rfl (o_loadHNR rfl rfl) rfl ?_ | refine WX.near rfl (o_storeHR hf rfl rfl) rfl ?_ | refine WX.near rfl (o_allocR 2 rfl) rfl ?_ | fail)
          exact ⟨_, resK_cellR rfl rfl rfl rfl, _, _, rfl, rfl, frz_rd ⟨.mk xk xn xs xl xu, xd, xhu, xhd⟩⟩
end
/-- the parser of expressions, told plainly, is the program's -/
theorem all_ok {ts : List Tk} {r : Nat} (hl : ts.length < 2 ^ 60) (hN : ∀ t ∈ ts, t.n < 2 ^ 63) : ∀ f, (∀ g, g ≤ f → LevelOk ts r g) ∧ SingleOk ts r f ∧ FirstOk ts r f ∧ TwoOk ts r f
  | 0 => ⟨fun g hg => by
      obtain rfl : g = 0 := by omega
      exact fun n w l _ _ _ h => absurd rfl h, fun w l _ _ h => absurd rfl h, fun w l _ _ h => absurd rfl h, fun k x w l _ _ h => absurd rfl h⟩
  | f + 1 => by
    obtain ⟨h1, h2, h3, h4⟩ := all_ok (r := r) hl hN f
    refine ⟨fun g hg => ?_, single_ok hl hN h2 h3, first_ok hl (h1 f (Nat.le_refl _)) h4, two_ok hl (h1 f (Nat.le_refl _))⟩
    by_cases hgf : g = f + 1
    · subst hgf; exact level_ok hl h1 h2
    · exact h1 g (by omega)
end Go.Proofs.YtfbikhkmamdjmaaDoor.CodesX
