/- ValidTrees: the law. -/
import Derived.Test.YtfbikhkmamdjmaaDoorWV31
import Derived.Test.YtfbikhkmamdjmaaDoorWVU
namespace Go.Proofs.YtfbikhkmamdjmaaDoor.CodesK
open Go Go.Ab
set_option maxHeartbeats 3200000
set_option maxRecDepth 100000

theorem ndk_still {n : ND} (hn : n.Ok) : ∀ u ∈ n.cells, V.still u = true := fun u h => by
  simp only [ND.cells, List.mem_cons, List.not_mem_nil, or_false] at h
  rcases h with rfl | rfl | rfl | rfl | rfl | rfl | rfl | rfl | rfl | rfl <;> first | rfl | exact fz_still hn.ex.fz | exact fz_still hn.ku | exact fz_still hn.wu
theorem frz_n {n : ND} (hn : n.Ok) {h : Heap} {k : Nat} : Go.Ab.freeze h 0 (k + 20) n.v = some n.v :=
  agg_still (k := k + 19) (ndk_still hn) (by show 10 < k + 19; omega)
theorem big2 (n : ND) (hn : n.Ok) : PuF D2 19 [n.v, i64 0] (.bool (bigN 46 n)) := by
  have h1 := bigN_pu 46 n (by omega) hn
  rw [show (46 - ((46 : Nat) : Int)) = 0 by omega] at h1
  refine PuF.up (p := [n.v, i64 0]) rfl (fun h => ?_) rfl h1
  show freezes h 0 (999999999999979 + 21) _ = _
  rw [frzs_cons, frz_n hn (k := 999999999999979)]
  rfl
theorem count2 (n : ND) (hn : n.Ok) (hc : n.cnt < 2 ^ 30) : PuF D2 20 [n.v] (i64 n.cnt) := by
  refine PuF.up (p := [n.v]) rfl (fun h => ?_) rfl (count_pu _ n (Nat.le_refl _) hn hc)
  show freezes h 0 (999999999999979 + 21) _ = _
  rw [frzs_cons, frz_n hn (k := 999999999999979)]
  rfl
theorem rn2 (n : ND) (hn : n.Ok) : PuF D2 21 [n.v, i64 1] (.bool (rnF 40 n)) := by
  have h1 := rn_pu 40 n (Nat.le_refl _) hn
  rw [show (41 - ((40 : Nat) : Int)) = 1 by omega] at h1
  refine PuF.up (p := [n.v, i64 1]) rfl (fun h => ?_) rfl h1
  show freezes h 0 (999999999999979 + 21) _ = _
  rw [frzs_cons, frz_n hn (k := 999999999999979)]
  rfl
theorem row_ok {n : ND} (hn : n.Ok) {at' : Nat} {par : Int} (h1 : at' + n.cnt < 2 ^ 40) (h2 : In64 par) : (n.row at' par).Ok := by
  obtain ⟨a1, a2, a3⟩ := hn.ka
  exact ⟨a1, a2, a3, by show In64 ((at' + n.cnt : Nat) : Int); unfold In64; omega, h2, hn.sl, hn.ex, hn.wu, hn.wk, hn.xm, hn.wl, hn.wm⟩
mutual
theorem fl_ok : ∀ (n : ND) (at' : Nat) (par : Int), n.Ok → at' + n.cnt < 2 ^ 40 → In64 par → ∀ r ∈ n.fl at' par, r.Ok
  | .mk k a b s x l u ws w, at', par, hn, h1, h2, r, hr => by
    have hc : (ND.mk k a b s x l u ws w).cnt = ND.cnts l + 1 := rfl
    rw [ND.fl, List.mem_cons] at hr
    rcases hr with rfl | hr
    · exact row_ok hn h1 h2
    · exact fls_ok l (at' + 1) (at' : Nat) hn.kids (by omega) (by unfold In64; omega) r hr
theorem fls_ok : ∀ (l : List ND) (at' : Nat) (par : Int), (∀ y ∈ l, y.Ok) → at' + ND.cnts l < 2 ^ 40 → In64 par → ∀ r ∈ ND.fls at' par l, r.Ok
  | [], _, _, _, _, _, r, hr => by cases hr
  | n :: t, at', par, hn, h1, h2, r, hr => by
    have hc : ND.cnts (n :: t) = n.cnt + ND.cnts t := rfl
    rw [ND.fls, List.mem_append] at hr
    rcases hr with hr | hr
    · exact fl_ok n at' par (hn n List.mem_cons_self) (by omega) h2 r hr
    · exact fls_ok t _ par (fun y hy => hn y (List.mem_cons_of_mem _ hy)) (by omega) h2 r hr
end
/-- rows that were made, as they read -/
theorem made_frz {h : Heap} {bs : List (Option (List V))} {u : V} {l : List FL} (hs : IsSl h bs 11 u l.length (l.flatMap FL.cells)) (hpos : l ≠ []) (hok : ∀ r ∈ l, r.Ok) (hl : l.length < 2 ^ 40) : freezes (hp h bs) 0 fuelF [u] = some [slV (l.map FL.v)] := by
  show freezes _ 0 (999999999999999 + 1) [u] = _
  rw [frzs_cons, frz_made FL.cells hs (by decide) (fun _ => rfl) (by omega) (fun r hr => fl_still (hok r hr)) (fun hh => absurd hh hpos)]
  rfl
theorem law_pu (n : ND) (hn : n.Ok) (hc : n.cnt < 2 ^ 30) : PuF D2 6 [n.v] (.bool true) := by
  have hbig := big2 n hn
  have hcnt := count2 n hn hc
  have hrn := rn2 n hn
  refine PuF.tidy rfl rfl rfl rfl rfl fun h hf => ?_
  cases hB : bigN 46 n with
  | true =>
    rw [hB] at hbig
    repeat' (first
        | refine WS.puF hf rfl rfl alive2 ?_ | refine WS.near rfl (o_loadHN rfl rfl) rfl ?_ | refine WS.puF hf rfl rfl hbig ?_ | refine W.seq ?_ | refine W.region ?_ | refine WS.nil ?_ | refine W.ret ?_ | refine W.yes rfl rfl ?_ | refine WS.guardT rfl ?_ | refine WS.guardF rfl rfl rfl ?_ | refine WS.near rfl o_mov rfl ?_ | refine WS.near rfl o_pickT rfl ?_ | refine WS.near rfl o_pickF rfl ?_ | refine WS.near rfl o_notT rfl ?_ | refine WS.near rfl (o_loadHN rfl rfl) rfl ?_ | refine WS.near rfl (o_boxH 0 rfl) rfl ?_ | fail)
    all_goals first
      | exact ⟨_, rfl, fin_bool rfl⟩
      | (exfalso; omega)
  | false =>
    rw [hB] at hbig
    refine W.seq ?_
    repeat' (first
        | refine W.region ?_ | refine WS.nil ?_ | refine WS.near rfl o_mov rfl ?_ | refine WS.near rfl (o_boxH 0 rfl) rfl ?_ | fail)
    refine W.seq ?_
    repeat' (first
        | refine WS.puF hf rfl rfl alive2 ?_ | refine W.region ?_ | refine WS.nil ?_ | fail)
    refine W.seq ?_
    repeat' (first
        | refine WS.near rfl (o_loadHN rfl rfl) rfl ?_ | refine WS.puF hf rfl rfl hbig ?_ | refine WS.puF hf rfl rfl hcnt ?_ | refine W.seq ?_ | refine W.region ?_ | refine WS.nil ?_ | refine W.skip ?_ | refine W.ret ?_ | refine W.fork rfl (fun _ => ?_) (fun _ => ?_) | refine WS.guardT rfl ?_ | refine WS.near rfl o_mov rfl ?_ | refine WS.near rfl o_pickF rfl ?_ | refine WS.near rfl o_notT rfl ?_ | refine WS.near rfl o_gtr rfl ?_ | refine WS.near rfl (o_loadHN rfl rfl) rfl ?_ | fail)
    · exact ⟨_, rfl, fin_bool rfl⟩
    rename_i hcc
    have hc3 : n.cnt ≤ 300 := by omega
    refine WS.call rfl rfl (make_w n hn hc h hf _) fun u h' hcl => ?_
    obtain ⟨bs', rfl, hs, hg⟩ := hcl
    have hb0 : bget bs' 0 = some n.cells := hg.keep 0 _ rfl (fun _ _ _ _ hh => by cases hh)
    have hfl := n.fl_len 0 (-1)
    have hpos := n.cnt_pos
    have hrows := fl_ok n 0 (-1) hn (by omega) (by unfold In64; omega)
    rw [← hfl] at hs
    have hfz := made_frz hs (fun hh => by rw [hh] at hfl; simp at hfl; omega) hrows (by omega)
    have hre := right_e (slV ((n.fl 0 (-1)).map FL.v)) (n.fl 0 (-1)) (slV_fz _) hrows (by omega)
    rw [run_fl n (by omega)] at hre
    repeat' (first
        | refine WS.near rfl (o_loadHN hb0 rfl) rfl ?_ | refine WS.plainC (p := [slV ((n.fl 0 (-1)).map FL.v)]) rfl rfl rfl hfz rfl hre ⟨⟨_, _, _, rfl, o_loadHN hb0 rfl, rfl⟩, trivial⟩ ?_ | refine WS.puF hf rfl rfl hrn ?_ | refine WS.near rfl o_same rfl ?_ | refine W.seq ?_ | refine W.region ?_ | refine WS.nil ?_ | refine W.ret ?_ | fail)
    exact ⟨_, rfl, fin_bool rfl⟩
theorem law_w (n : ND) (hn : n.Ok) (hc : n.cnt < 2 ^ 30) : CallW D2 6 [n.v] Heap.empty fun v _ => v = .bool true :=
  (law_pu n hn hc Heap.empty fine0).mono fun _ _ hc => hc.1
end Go.Proofs.YtfbikhkmamdjmaaDoor.CodesK
