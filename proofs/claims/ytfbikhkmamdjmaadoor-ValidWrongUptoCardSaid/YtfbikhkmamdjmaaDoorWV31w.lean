/- ValidTrees, ValidWrong: what is made flat, counted, looked at. -/
import Derived.Test.YtfbikhkmamdjmaaDoorWV30
namespace Go.Proofs.YtfbikhkmamdjmaaDoor.CodesK
open Go Go.Ab
set_option maxHeartbeats 3200000
set_option maxRecDepth 100000

theorem make_w (n : ND) (hn : n.Ok) (hc : n.cnt < 2 ^ 30) (h : Heap) (hf : h.Fine) (bs : List (Option (List V))) : CallW D2 18 [n.v] (hp h bs) fun u h' => ∃ bs', h' = hp h bs' ∧ IsSl h bs' 11 u n.cnt ((n.fl 0 (-1)).flatMap FL.cells) ∧ Grow h bs bs' .nilsl u := by
  refine CallW.open rfl rfl rfl rfl rfl ?_
  have hw := flat_w _ n (Nat.le_refl _) hn h hf (badd bs n.cells) .nilsl 0 [] (-1) IsSl.nil (by omega)
  rw [Nat.zero_add, List.nil_append] at hw
  repeat' (first
      | refine WS.near rfl o_boxS rfl ?_ | refine WS.near rfl (o_loadHN bget_badd rfl) rfl ?_ | refine W.seq ?_ | refine W.region ?_ | refine WS.nil ?_ | refine WS.near rfl o_mov rfl ?_ | fail)
  refine WS.call rfl rfl hw fun u h' hc => ?_
  obtain ⟨bs', rfl, hs, hg⟩ := hc
  repeat' (first
      | refine WS.nil ?_ | refine W.ret ?_ | fail)
  exact ⟨_, rfl, _, rfl, hs, ⟨fun i l e hv => hg.keep i l (bget_badd_lt e) hv, fun i a b d e hh => (hg.own i a b d e hh).imp id fun hq => by rw [badd_len] at hq; omega, by have := hg.le; rw [badd_len] at this; omega⟩⟩
theorem row_ok {n : ND} (hn : n.Ok) {at' : Nat} {par : Int} (h1 : at' + n.cnt < 2 ^ 40) (h2 : In64 par) : (n.row at' par).Ok := by
  obtain ⟨a1, a2, a3⟩ := hn.ka
  exact ⟨a1, a2, a3, by show In64 ((at' + n.cnt : Nat) : Int); unfold In64; omega, h2, hn.sl, hn.ex, hn.wu, hn.wk, hn.xm, hn.wl, hn.wm⟩
mutual
theorem fl_ok : ∀ (n : ND) (at' : Nat) (par : Int), n.Ok → at' + n.cnt < 2 ^ 40 → In64 par → ∀ r ∈ n.fl at' par, r.Ok
  | .mk k a b s x l u ws w, at', par, hn, h1, h2, r, hr => by
    have hc : (ND.mk k a b s x l u ws w).cnt = ND.cnts l + 1 := rfl
    rw [ND.fl, List.mem_cons] at hr
    rcases hr with rfl | hr
    · exact row_ok hn h1 h2
    · exact fls_ok l (at' + 1) (at' : Nat) hn.kids (by omega) (by unfold In64; omega) r hr
theorem fls_ok : ∀ (l : List ND) (at' : Nat) (par : Int), (∀ y ∈ l, y.Ok) → at' + ND.cnts l < 2 ^ 40 → In64 par → ∀ r ∈ ND.fls at' par l, r.Ok
  | [], _, _, _, _, _, r, hr => by cases hr
  | n :: t, at', par, hn, h1, h2, r, hr => by
    have hc : ND.cnts (n :: t) = n.cnt + ND.cnts t := rfl
    rw [ND.fls, List.mem_append] at hr
    rcases hr with hr | hr
    · exact fl_ok n at' par (hn n List.mem_cons_self) (by omega) h2 r hr
    · exact fls_ok t _ par (fun y hy => hn y (List.mem_cons_of_mem _ hy)) (by omega) h2 r hr
end
/-- rows that were made, as they read -/
theorem made_frz {h : Heap} {bs : List (Option (List V))} {u : V} {l : List FL} (hs : IsSl h bs 11 u l.length (l.flatMap FL.cells)) (hpos : l ≠ []) (hok : ∀ r ∈ l, r.Ok) (hl : l.length < 2 ^ 40) : freezes (hp h bs) 0 fuelF [u] = some [slV (l.map FL.v)] := by
  show freezes _ 0 (999999999999999 + 1) [u] = _
  rw [frzs_cons, frz_made FL.cells hs (by decide) (fun _ => rfl) (by omega) (fun r hr => fl_still (hok r hr)) (fun hh => absurd hh hpos)]
  rfl
end Go.Proofs.YtfbikhkmamdjmaaDoor.CodesK
