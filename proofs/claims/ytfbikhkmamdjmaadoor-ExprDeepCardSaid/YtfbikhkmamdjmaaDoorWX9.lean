/- The program's parser of expressions: Parse. -/
import Derived.Test.YtfbikhkmamdjmaaDoorWX9a
namespace Go.Proofs.YtfbikhkmamdjmaaDoor.CodesX
open Go Go.Ab
set_option maxHeartbeats 1000000
set_option maxRecDepth 20000
theorem parse_pu {ts : List Tk} {f : Nat} (hl : ts.length < 2 ^ 60) (hN : ∀ t ∈ ts, t.n < 2 ^ 63) (hne : ts ≠ []) {R : PR Rd} (hR : runR f (.level 0 0) ts = R) (hn : R ≠ .out) : PuF D1 34 [Lv ts, i64 0] (parseV ts R) := by
  intro h hF
  have hpos : 0 < ts.length := List.length_pos_iff.2 hne
  have hpo : po ts ts = 0 := Nat.sub_self _
  have hf : ({ h with floors := h.next :: h.floors } : Heap).Fine := hF.shut
  have hx := expr_px (r := h.next + 3) hl hN Suf.refl hR hn
  rw [hpo] at hx
  suffices hs : CallX D1 34 [Lv ts, i64 0] h fun o h' => o = .ret (parseV ts R) ∧ h' = h by
    obtain ⟨o, h', hc, rfl, rfl⟩ := hs
    exact ⟨_, _, hc, rfl, rfl⟩
  refine CallX.recovers (g := 62) (caps := [.mptr (h.next + 0) 0, .mptr (h.next + 1) 0, .mptr (h.next + 2) 0]) rfl rfl rfl rfl rfl rfl rfl rfl rfl ?_
  have htd : ∀ bs, (hp ({ h with floors := h.next :: h.floors }) bs).tidied h = h := fun bs => hp_tidied h bs
  rw [show ({ h with floors := h.next :: h.floors } : Heap) = hp { h with floors := h.next :: h.floors } [] from (hp_nil ..).symm]
  have hnx : ({ h with floors := h.next :: h.floors } : Heap).next = h.next := rfl
  generalize hh1 : ({ h with floors := h.next :: h.floors } : Heap) = h1 at *
  rw [← hnx] at hx ⊢
  refine WDf.seq ?_
  repeat' (first
      | refine W.region ?_ | refine WS.nil ?_ | refine WS.near rfl (o_allocH 0 rfl) rfl ?_ | refine WS.near rfl (o_allocH 1 rfl) rfl ?_ | refine WS.near rfl (o_allocH 2 rfl) rfl ?_ | fail)
  refine ⟨rfl, ?_⟩
  refine WDf.seq ?_
  repeat' (first
      | refine WS.near rfl o_lenT rfl ?_ | refine W.seq ?_ | refine W.region ?_ | refine WS.nil ?_ | refine WS.guardT rfl ?_ | refine WS.near rfl o_pickF rfl ?_ | refine WS.near rfl o_lss rfl ?_ | refine WS.near rfl o_geq rfl ?_ | fail)
  refine W.then (W.fork rfl (fun _ => ?_) (fun _ => W.skip ?_))
  · exfalso; omega
  refine ⟨rfl, WDf.here ?_⟩
  repeat' (first
      | refine WS.near rfl o_mkfn rfl ?_ | refine WS.nil ?_ | fail)
  refine ⟨rfl, ?_⟩
  cases R with
  | out => exact absurd rfl hn
  | bad e l =>
    change PX D1 TP 64 _ _ (Lv ts) 0 (.bad (e : Nat) (po ts l)) at hx
    refine W.seq (W.region ?_)
    repeat' (first
        | refine WS.nil ?_ | refine WS.near rfl (o_build rfl) rfl ?_ | refine WS.near rfl (o_boxH 3 rfl) rfl ?_ | fail)
    refine W.then (W.seq ?_)
    refine W.panFirst rfl rfl (px_bad (k := 3) hf rfl hx) fun v h' hc => ?_
    obtain ⟨rfl, b, rfl⟩ := hc
    refine ⟨.pan (stopV TP (e : Nat) (po ts l)), rfl, ?_⟩
    refine WR.mono (catch_wr hf (e : Nat) (po ts l)) fun ex2 md2 m2 h2 hq => ?_
    obtain ⟨rfl, rfl, rfl⟩ := hq
    refine ⟨.inl rfl, rfl, [zeroE, i64 (po ts l : Nat), i64 (e : Nat)], .tup [zeroE, i64 (po ts l : Nat), i64 (e : Nat)], ?_, ?_, rfl, htd _⟩
    · exact resK_cell rfl rfl rfl (resK_cell rfl rfl rfl (resK_cell rfl rfl rfl rfl))
    · exact frz_parse (u := .nilsl) rfl
  | ok x l =>
    obtain ⟨⟨xk, xn, xs, xl, xu⟩, xd, xhu, xhd⟩ := x
    change PX D1 TP 64 _ _ (Lv ts) 0 (.val (.agg [i64 xk, i64 xn, .str xs, xu]) (po ts l)) at hx
    refine W.seq (W.region ?_)
    repeat' (first
        | refine WS.nil ?_ | refine WS.near rfl (o_build rfl) rfl ?_ | refine WS.near rfl (o_boxH 3 rfl) rfl ?_ | fail)
    refine W.then (W.seq (W.region ?_))
    refine WS.callE rfl rfl (px_val (k := 3) hf rfl hx) ?_
    repeat' (first
        | refine WS.nil ?_ | refine WS.near rfl (o_storeH (by assumption) rfl rfl) rfl ?_ | fail)
    refine W.then (W.seq (W.region ?_))
    repeat' (first
        | refine WS.nearC rfl (o_storeH hf rfl rfl) rfl ⟨⟨_, _, _, rfl, o_loadH rfl, rfl⟩, trivial⟩ ?_ | refine WS.nil ?_ | refine WS.near rfl o_faddr rfl ?_ | refine WS.near rfl o_nilchk rfl ?_ | refine WS.near rfl (o_loadH rfl) rfl ?_ | refine WS.near rfl (o_loadHN rfl rfl) rfl ?_ | refine WS.near rfl (o_storeH (by assumption) rfl rfl) rfl ?_ | fail)
    refine W.then (W.ret ?_)
    refine ⟨.ret, rfl, ?_⟩
    refine WR.mono (calm_wr _ _) fun ex2 md2 m2 h2 hq => ?_
    obtain ⟨rfl, rfl, rfl⟩ := hq
    refine ⟨.inl rfl, rfl, [.agg [i64 xk, i64 xn, .str xs, xu], i64 (po ts l : Nat), i64 0], .tup [.agg [i64 xk, i64 xn, .str xs, xu], i64 (po ts l : Nat), i64 0], ?_, ?_, rfl, htd _⟩
    · exact resK_cell rfl rfl rfl (resK_cell rfl rfl rfl (resK_cell rfl rfl rfl rfl))
    · exact frz_parse xhu
end Go.Proofs.YtfbikhkmamdjmaaDoor.CodesX
