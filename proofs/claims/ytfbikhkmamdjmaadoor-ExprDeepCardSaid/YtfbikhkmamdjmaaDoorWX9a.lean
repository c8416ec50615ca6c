/- The program's parser of expressions, as it is called: Parse. -/
import Derived.Test.YtfbikhkmamdjmaaDoorWX8
namespace Go.Proofs.YtfbikhkmamdjmaaDoor.CodesX
open Go Go.Ab
set_option maxHeartbeats 4000000
set_option maxRecDepth 20000
theorem W.then {D : OCtx} {cap : Nat} {m : Kn} {h : Heap} {b : ACode} {Q : Ex → Kn → Heap → Prop} (w : W D cap b m h Q) : thenW D cap b Q .nrm m h := w
theorem WS.callE {D : OCtx} {cap : Nat} {m : Kn} {h h2 : Heap} {K : Kn → Heap → Prop} {f : Nat} {xs xs' : List Opd} {d : Option Nat} {l : List Step} {u : V} (e : gL (kop m) xs = some xs') (hx : dOk cap d = true) (he : CallW D f (xs'.map vev) h fun u' h' => u' = u ∧ h' = h2) (w : WS D cap l (kput m d u) h2 K) :
    WS D cap (⟨d, .call f xs, none, []⟩ :: l) m h K := WS.call e hx he fun v h' hc => by obtain ⟨rfl, rfl⟩ := hc; exact w
theorem o_tassertT {t : Nat} {z v : V} {h : Heap} : Does (.tassert t true z (.v (.ifc t v))) h (.tup [v, .bool true]) h := by
  refine ⟨?_⟩; rw [op1v]; simp [op1, ev]
theorem o_mkfn {f : Nat} {pre caps : List Opd} {h : Heap} : Does (.mkfn f pre caps) h (.fn f (pre.map vev) (caps.map vev)) h := ⟨by
  rw [op1v, vev_eq]; rfl⟩
theorem o_binNt {t : Nat} {v : V} {h : Heap} : Does (.binN 4 true (.v (.ifc t v)) (.v .nilifc)) h (.bool true) h := ⟨rfl⟩
theorem o_binNf {h : Heap} : Does (.binN 4 true (.v .nilifc) (.v .nilifc)) h (.bool false) h := ⟨rfl⟩
section
variable {ts : List Tk} {r f : Nat}
theorem expr_px (hl : ts.length < 2 ^ 60) (hN : ∀ t ∈ ts, t.n < 2 ^ 63) {l : List Tk} (hs : Suf ts l) {R : PR Rd} (hR : runR f (.level 0 0) l = R) (hn : R ≠ .out) : PX D1 TP 64 [.mptr r 0] r (Lv ts) (po ts l) (R.ans (fun x => x.x.v) ts) := by
  have hv := (all_ok (r := r) hl hN f).1 f (Nat.le_refl _) 0 0 l (by omega) (by omega) hs
  rw [hR] at hv
  replace hv := hv hn
  refine PX.tidy rfl rfl rfl rfl rfl fun h hf hr => ?_
  cases R with
  | out => exact absurd rfl hn
  | bad e l2 =>
    change PX D1 TP 104 [.mptr r 0, i64 0, i64 0] r (Lv ts) (po ts l) (.bad (e : Nat) (po ts l2)) at hv
    repeat' (first
        | refine WX.bad hf hr rfl hv (fun b => ?_) | refine W.seq ?_ | refine W.regionX ?_ | refine WX.nil ?_ | refine WX.near rfl (o_allocR 0 rfl) rfl ?_ | fail)
    exact ⟨rfl, _, _, rfl⟩
  | ok x l2 =>
    obtain ⟨⟨xk, xn, xs, xl, xu⟩, xd, xhu, xhd⟩ := x
    change PX D1 TP 104 [.mptr r 0, i64 0, i64 0] r (Lv ts) (po ts l) (.val (.agg [i64 xk, i64 xn, .str xs, xu, i64 (xd : Nat)]) (po ts l2)) at hv
    repeat' (first
        | refine WX.val hf hr rfl rfl hv ?_ | refine WX.near rfl (o_fieldA rfl) rfl ?_ | refine W.seq ?_ | refine W.regionX ?_ | refine WX.nil ?_ | refine W.ret ?_ | refine WX.near rfl (o_storeHR hf rfl rfl) rfl ?_ | refine WX.near rfl (o_allocR 0 rfl) rfl ?_ | fail)
    refine ⟨_, resK_cellR rfl rfl rfl rfl, _, _, rfl, rfl, ?_⟩
    show (freezes _ h.next 999999999999999 [i64 xk, i64 xn, .str xs, xu]).map V.agg = _
    rw [freezes_still _ _ (by simp) (by intro v hv; simp only [List.mem_cons, List.not_mem_nil, or_false] at hv; rcases hv with rfl | rfl | rfl | rfl <;> first | rfl | exact xhu)]
    rfl
theorem caught_pu (e : Int) (p : Nat) : PuF D1 63 [stopV TP e p] (.tup [i64 (p : Nat), i64 e]) := by
  refine PuF.tidy rfl rfl rfl rfl rfl fun h hf => ?_
  unfold stopV
  repeat' (first
      | refine WS.near rfl o_tassertT rfl ?_ | refine W.seq ?_ | refine W.region ?_ | refine WS.nil ?_ | refine W.skip ?_ | refine W.ret ?_ | refine W.no rfl rfl ?_ | refine WS.near rfl o_mov rfl ?_ | refine WS.near rfl o_notT rfl ?_ | refine WS.near rfl o_faddr rfl ?_ | refine WS.near rfl (o_extract rfl) rfl ?_ | refine WS.near rfl (o_loadH rfl) rfl ?_ | refine WS.near rfl (o_storeH (by assumption) rfl rfl) rfl ?_ | refine WS.near rfl (o_allocH 0 rfl) rfl ?_ | fail)
  exact ⟨_, rfl, _, rfl, rfl⟩
end
section
variable {D : OCtx} {T f a b k : Nat} {L : V} {args : List V} {h0 : Heap} {bs : List (Option (List V))}
theorem px_val {v : V} (hf : h0.Fine) (hb : bget bs k = some [L, .int .i64 (a : Nat)]) (he : PX D T f args (h0.next + k) L a (.val v b)) : CallW D f args (hp h0 bs) fun u h' => u = v ∧ h' = hp h0 (bset bs k (some [L, .int .i64 (b : Nat)])) := by
  obtain ⟨o, h', hc, ho, hh⟩ := he _ (hp_fine hf) ((hp_cells ..).trans hb)
  subst ho hh
  exact ⟨v, _, hc, rfl, hp_set h0 (bget_lt hb) (some [L, .int .i64 (b : Nat)])⟩
theorem px_bad {e : Int} {p : Nat} (hf : h0.Fine) (hb : bget bs k = some [L, .int .i64 (a : Nat)]) (he : PX D T f args (h0.next + k) L a (.bad e p)) : CallP D f args (hp h0 bs) fun u h' => u = stopV T e p ∧ ∃ b : Nat, h' = hp h0 (bset bs k (some [L, .int .i64 (b : Nat)])) := by
  obtain ⟨o, h', hc, ho, b, hh⟩ := he _ (hp_fine hf) ((hp_cells ..).trans hb)
  subst ho hh
  exact ⟨_, _, hc, rfl, b, hp_set h0 (bget_lt hb) (some [L, .int .i64 (b : Nat)])⟩
end
def zeroE : V := .agg [i64 0, i64 0, .str [], .nilsl]
/-- what Parse answers -/
def parseV (ts : List Tk) : PR Rd → V
  | .ok x l => .tup [x.x.v, i64 (po ts l : Nat), i64 0]
  | .bad e l => .tup [zeroE, i64 (po ts l : Nat), i64 (e : Nat)]
  | .out => .undef
theorem frz_parse {H : Heap} {n : Nat} {a b d e : Int} {c : List Nat} {u : V} (hu : V.still u = true) : Go.Ab.freeze H n fuelF (.tup [.agg [i64 a, i64 b, .str c, u], i64 d, i64 e]) = some (.tup [.agg [i64 a, i64 b, .str c, u], i64 d, i64 e]) := by
  have key : ∀ f, Go.Ab.freeze H n (f + 200) (.tup [.agg [i64 a, i64 b, .str c, u], i64 d, i64 e]) = some (.tup [.agg [i64 a, i64 b, .str c, u], i64 d, i64 e]) := fun f => by
    have h1 : ∀ k, Go.Ab.freeze H n (k + 1) u = some u := fun k => freeze_still hu
    show (((freezes H n (f + 199) [.agg [i64 a, i64 b, .str c, u], i64 d, i64 e])).map V.tup) = _
    simp only [i64, frzs_cons, frz_agg, frz_int, frz_str, h1, frzs_nil, Option.bind_some, Option.map_some]
  exact key 999999999999800
theorem WR.mono {D : OCtx} {cap : Nat} {c : ACode} {md : Md} {m : Kn} {h : Heap} {R R' : Ex → Md → Kn → Heap → Prop} (w : WR D cap c md m h R) (q : ∀ ex md m h, R ex md m h → R' ex md m h) : WR D cap c md m h R' := fun fr hf => by
  obtain ⟨n, ex, md1, st1, hr, hd, m', hm, hq⟩ := w fr hf
  exact ⟨n, ex, md1, st1, hr, hd, m', hm, q _ _ _ _ hq⟩
section
variable {h1 : Heap} {z0 z1 z2 z3 c1 c2 : V} {junk : List (Option (List V))}
theorem catch_wr (hf : h1.Fine) (e : Int) (p : Nat) : WR D1 (capOfD c62.dep) c62.body (.pan (stopV TP e p)) (argsK 0 [.mptr (h1.next + 0) 0, .mptr (h1.next + 1) 0, .mptr (h1.next + 2) 0]) (hp h1 (some [z0, z1, z2, z3] :: some [c1] :: some [c2] :: junk))
    (fun ex md _ h2 => ex = .nrm ∧ md = .caught (stopV TP e p) ∧ h2 = hp h1 (some [i64 0, i64 0, .str [], .nilsl] :: some [i64 (p : Nat)] :: some [i64 e] :: junk)) := by
  have hcp := caught_pu e p
  unfold stopV at hcp ⊢
  refine WR.seq (WR.caught rfl rfl ⟨rfl, WR.seq (WR.region (W.region ?_))⟩)
  refine WS.near rfl o_binNt rfl (WS.nil ⟨rfl, WR.yes rfl rfl (WR.seq (WR.region (W.region ?_)))⟩)
  repeat' (first
      | refine WS.nil ?_ | refine WS.near rfl (o_build rfl) rfl ?_ | refine WS.near rfl (o_storeH (by assumption) rfl rfl) rfl ?_ | fail)
  refine ⟨rfl, WR.region (W.region ?_)⟩
  refine WS.puF hf rfl rfl hcp ?_
  repeat' (first
      | refine WS.nil ?_ | refine WS.near rfl (o_extract rfl) rfl ?_ | refine WS.near rfl (o_storeH (by assumption) rfl rfl) rfl ?_ | fail)
  exact ⟨rfl, rfl, rfl⟩
theorem calm_wr (h : Heap) (args : List V) : WR D1 (capOfD c62.dep) c62.body .ret (argsK 0 args) h (fun ex md _ h2 => ex = .nrm ∧ md = .ret ∧ h2 = h) := by
  refine WR.seq (WR.calm rfl rfl ⟨rfl, WR.seq (WR.region (W.region ?_))⟩)
  exact WS.near rfl o_binNf rfl (WS.nil ⟨rfl, WR.no rfl rfl (WR.skip ⟨rfl, rfl, rfl⟩)⟩)
end
end Go.Proofs.YtfbikhkmamdjmaaDoor.CodesX
