/- The tree of a flat list: by the document. -/
import Derived.Test.YtfbikhkmamdjmaaDoorWV3
import Derived.Test.YtfbikhkmamdjmaaDoorWV5
import Derived.Test.YtfbikhkmamdjmaaDoorWV2
namespace Go.Proofs.YtfbikhkmamdjmaaDoor.CodesK
open Go Go.Ab
set_option maxHeartbeats 6400000
set_option maxRecDepth 100000

theorem fz_cells {u : V} {l : List V} (h : IsFz u l) : u.cells = [u] := by
  rcases h with ⟨rfl, _⟩ | ⟨rfl, _⟩ | ⟨c, rfl⟩ <;> rfl
theorem fz_still {u : V} {l : List V} (h : IsFz u l) : V.still u = true := by
  rcases h with ⟨rfl, _⟩ | ⟨rfl, _⟩ | ⟨c, rfl⟩ <;> rfl
theorem sl_cells {h0 : Heap} {bs : List (Option (List V))} {sz n : Nat} {v : V} {row : List V} (h : IsSl h0 bs sz v n row) : v.cells = [v] := by
  obtain ⟨_, ⟨rfl, _⟩ | ⟨k, l, rfl, _⟩⟩ := h <;> rfl
/-- a node's cells, as the document makes it -/
def rfC (r : FL) (v : V) : List V := [i64 r.k, i64 r.a, i64 r.b, .str r.s, i64 r.x.k, i64 r.x.n, .str r.x.name, r.x.u, v, r.w]
theorem rf_v (r : FL) (l : List RT) : (RT.mk r l).rf.v = .agg (rfC r (slV ((l.map RT.rf).map ND.v))) := by
  rw [RT.rf, rfs_map]; rfl
theorem rf_cells (t : RT) : t.rf.cells = rfC t.r (slV ((t.kids.map RT.rf).map ND.v)) := by
  cases t
  rw [RT.rf, rfs_map]; rfl
theorem rfC_still {r : FL} (hr : r.Ok) {v : V} (hv : V.still v = true) : ∀ u ∈ rfC r v, V.still u = true := fun u h => by
  simp only [rfC, List.mem_cons, List.not_mem_nil, or_false] at h
  rcases h with rfl | rfl | rfl | rfl | rfl | rfl | rfl | rfl | rfl | rfl <;> first | rfl | exact hv | exact (fz_still hr.x.fz) | exact (fz_still hr.w)
theorem bk_r (l : List FL) : ∀ (f at' : Nat) (par : Int), (bk l f at' par).1.r = rowAt l at'
  | 0, _, _ => rfl
  | f + 1, at', par => by rw [bk_succ]; split <;> rfl
theorem row_get {u : V} {l : List FL} (_ : IsFz u (l.map FL.v)) {i : Nat} (hi : i < l.length) : (l.map FL.v)[i]? = some (rowAt l i).v := fz_at (d := default) i hi
/-- only the slice's own block matters -/
theorem sl_keep {h0 : Heap} {bs bs' : List (Option (List V))} {sz n : Nat} {v : V} {row : List V} (hs : IsSl h0 bs sz v n row) (hk : ∀ k c, (∃ a b d e, v = .msl (h0.next + k) a b d e) → bget bs k = some c → bget bs' k = some c) : IsSl h0 bs' sz v n row := by
  obtain ⟨h1, h2 | ⟨k, l, e1, e2, e3, e4⟩⟩ := hs
  · exact ⟨h1, .inl h2⟩
  · exact ⟨h1, .inr ⟨k, l, e1, hk k l ⟨_, _, _, _, e1⟩ e2, e3, e4⟩⟩
structure BS where
  i : Nat
  acc : List RT
  g : Nat
  v : V
  bs : List (Option (List V))
def zN : List V := [.int .i64 0, .int .i64 0, .int .i64 0, .str [], .int .i64 0, .int .i64 0, .str [], .nilsl, .nilsl, .nilsl]
theorem freeze_tup2 {h : Heap} {n : Nat} {v u : V} {k : IntKind} {a b : Int} (hv : Go.Ab.freeze h n 999999999999998 v = some u) (hab : a = b) : Go.Ab.freeze h n fuelF (.tup [v, .int k a]) = some (.tup [u, .int k b]) := by
  subst hab
  show (((Go.Ab.freeze h n 999999999999998 v).bind fun v' => (freezes h n 999999999999998 [.int k a]).map (v' :: ·)).map V.tup) = _
  rw [hv]
  rfl
theorem freeze_rf {h : Heap} {bs : List (Option (List V))} {v : V} {acc : List RT} {r : FL} (hr : r.Ok) (hsl : IsSl h bs 10 v acc.length (acc.flatMap fun t => t.rf.cells)) (hv0 : acc = [] → v = .nilsl) (hac : ∀ t ∈ acc, t.r.Ok) (hl : acc.length < 2 ^ 40) :
    Go.Ab.freeze (hp h bs) h.next 999999999999998 (.agg (rfC r v)) = some (RT.mk r acc).rf.v := by
  have h1 : ∀ k, 2 ^ 41 < k → Go.Ab.freeze (hp h bs) h.next k v = some (slV ((acc.map RT.rf).map ND.v)) := fun k hk => by
    have := freeze_made (fun t : RT => t.rf.cells) (k := k) hsl (by decide) (fun x => rfl) (by omega) (fun t ht u hu => by
      rw [rf_cells] at hu
      exact rfC_still (hac t ht) (slV_still _) u hu) hv0
    rw [this]
    congr 2
    rw [List.map_map]
    rfl
  have h2 := h1 999999999999988 (by omega)
  rw [rf_v]
  have s1 := (fz_still hr.x.fz)
  have s2 := (fz_still hr.w)
  show Go.Ab.freeze (hp h bs) h.next (999999999999978 + 20) (.agg (rfC r v)) = _
  simp only [rfC, frz_agg, frzs_cons, frzs_nil, i64, frz_int, frz_str, freeze_still s1, freeze_still s2, h2, Option.bind_some, Option.map_some]
theorem back_pu (u : V) (l : List FL) (hu : IsFz u (l.map FL.v)) (hok : ∀ r ∈ l, r.Ok) (hl : l.length < 2 ^ 30) : ∀ (f at' : Nat) (par : Int), at' < l.length → l.length - at' ≤ f → PuF D1 84 [u, i64 at', i64 par] (.tup [(bk l f at' par).1.rf.v, i64 (bk l f at' par).2])
  | 0, at', par, h1, h2 => by omega
  | f + 1, at', par, hat, hf' => by
    have hum : ∀ h0 : Heap, Does (.len 1 (.v u)) h0 (.int .i64 (l.length : Nat)) h0 := fun h0 => by have := o_lenZ (h0 := h0) hu; rwa [List.length_map] at this
    have hrok : ∀ i, i < l.length → (rowAt l i).Ok := fun i hi => hok _ (getD_mem hi)
    have hr := hrok at' hat
    have hwc := (fz_cells hr.w)
    rw [bk_succ]
    have hbr : badRow l at' par ↔ ((rowAt l at').p ≠ par ∨ (rowAt l at').e ≤ (at' : Int) ∨ (l.length : Int) < (rowAt l at').e) := Iff.rfl
    generalize hx : rowAt l at' = r at hr hwc hbr ⊢
    refine PuF.tidy rfl rfl rfl rfl rfl fun h hf => ?_
    repeat' (first
        | refine W.seq ?_ | refine W.region ?_ | refine WS.nil ?_ | refine WS.near rfl o_mov rfl ?_ | refine WS.near rfl (o_allocH 0 rfl) rfl ?_ | fail)
    refine WS.near rfl (o_iaddrZ at' hu rfl (row_get hu hat) rfl) rfl ?_
    rw [hx]
    repeat' (first
        | refine WS.near rfl (o_loadA rfl) rfl ?_ | refine WS.near rfl (hum _) rfl ?_ | refine WS.near rfl (o_build (cs := rfC r .nilsl) (by simp only [List.map_cons, List.map_nil, fill, vev, hwc]; rfl)) rfl ?_ | refine W.seq ?_ | refine W.region ?_ | refine WS.nil ?_ | refine W.skip ?_ | refine W.block ?_ | refine W.ret ?_ | refine W.yes rfl rfl ?_ | refine W.fork rfl (fun _ => ?_) (fun _ => ?_) | refine WS.guardT rfl ?_ | refine WS.guardF rfl rfl rfl ?_ | refine WS.guardK rfl (fun _ => ?_) (fun _ => ?_) | refine WS.near rfl o_mov rfl ?_ | refine WS.near rfl o_pickT rfl ?_ | refine WS.near rfl o_pickF rfl ?_ | refine WS.near rfl o_leq rfl ?_ | refine WS.near rfl o_gtr rfl ?_ | refine WS.near rfl o_neq rfl ?_ | refine WS.near rfl o_faddr rfl ?_ | refine WS.near rfl (o_loadH rfl) rfl ?_ | refine WS.near rfl (o_loadHN rfl rfl) rfl ?_ | refine WS.near rfl (o_storeH (by assumption) rfl rfl) rfl ?_
        | refine WS.near rfl (o_allocH 1 rfl) rfl ?_ | refine WS.near rfl (o_allocH 2 rfl) rfl ?_ | refine WS.near rfl (o_add (by omega) (by omega)) rfl ?_ | fail)
    all_goals first
      | (refine ⟨_, resK_cell (k := 0) rfl rfl rfl rfl, ⟨_, rfl, ?_⟩⟩
         rw [if_pos (hbr.2 (by omega))]
         exact freeze_tup2 (freeze_rf (v := .nilsl) (acc := []) hr IsSl.nil (fun _ => rfl) (fun _ hh => by cases hh) (by simp)) rfl)
      | skip
    have hnb : ¬ badRow l at' par := fun hh => by have := hbr.1 hh; omega
    rw [if_neg hnb]
    refine W.loop (fun a : BS => [(0, u), (1, i64 at'), (3, .mptr (h.next + 0) 0), (5, .mptr (h.next + 1) 0), (6, .mptr (h.next + 2) 0), (7, i64 a.i)]) (fun a => hp h a.bs)
      (fun a => (a.i ≤ l.length ∧ at' < a.i ∧ (a.i : Int) ≤ r.e) ∧ bl (fun to => bk l f to (at' : Nat)) r.e.toNat (l.length - at') (at' + 1) [] = bl (fun to => bk l f to (at' : Nat)) r.e.toNat a.g a.i a.acc ∧ r.e.toNat < a.g + a.i ∧ bget a.bs 0 = some zN ∧ bget a.bs 1 = some r.cells ∧ bget a.bs 2 = some (rfC r a.v) ∧
        IsSl h a.bs 10 a.v a.acc.length (a.acc.flatMap fun t => t.rf.cells) ∧ (a.acc = [] → a.v = .nilsl) ∧ (∀ t ∈ a.acc, t.r.Ok) ∧ (∀ k b c d e, a.v = .msl (h.next + k) b c d e → 3 ≤ k) ∧ a.acc.length ≤ a.i) (fun a => l.length - a.i)
      ⟨at' + 1, [], l.length - at', .nilsl, _⟩ ⟨⟨(show at' + 1 ≤ l.length by omega), (show at' < at' + 1 by omega), (show ((at' + 1 : Nat) : Int) ≤ r.e by omega)⟩, rfl, (show r.e.toNat < l.length - at' + (at' + 1) by omega), rfl, rfl, rfl, IsSl.nil, fun _ => rfl, (fun _ hh => by cases hh), (fun _ _ _ _ _ hh => by cases hh), Nat.zero_le _⟩ (by exact ⟨rfl, rfl, rfl, rfl, rfl, congrArg (fun z => some (V.int .i64 z)) (show (at' : Int) + 1 = ((at' + 1 : Nat) : Int) by omega), trivial⟩) rfl ?_
    rintro ⟨to, acc, g, v, bs⟩ ⟨⟨hi, hi2, hi3⟩, hbl, hg, hb0, hb1, hb2, hsl, hv0, hac, hvk, hal⟩
    simp only at hi hi2 hi3 hbl hg hb0 hb1 hb2 hsl hv0 hac hvk hal ⊢
    refine W.seq ?_
    refine W.seq ?_
    repeat' (first
        | refine WS.near rfl (o_loadH (hload_of hb1 rfl)) rfl ?_ | refine W.region ?_ | refine WS.nil ?_ | refine W.skip ?_ | refine W.block ?_ | refine W.exit ?_ | refine W.fork rfl (fun _ => ?_) (fun _ => ?_) | refine WS.near rfl o_lss rfl ?_ | refine WS.near rfl o_faddr rfl ?_ | fail)
    refine W.seq ?_
    repeat' (first
        | refine W.region ?_ | fail)
    · have hlt : to < l.length := by omega
      have ih := back_pu u l hu hok hl f to (at' : Nat) hlt (by omega)
      have hend := bk_end l f to (at' : Nat)
      have hkr := bk_r l f to (at' : Nat)
      have hkok := hrok to hlt
      rw [← hkr] at hkok
      have hbad : badRow l to (at' : Nat) ↔ ((rowAt l to).p ≠ (at' : Nat) ∨ (rowAt l to).e ≤ (to : Int) ∨ (l.length : Int) < (rowAt l to).e) := Iff.rfl
      obtain ⟨g, rfl⟩ : ∃ q, g = q + 1 := ⟨g - 1, by omega⟩
      have hstep : bl (fun to => bk l f to (at' : Nat)) r.e.toNat (g + 1) to acc = if (bk l f to (at' : Nat)).2 < 0 ∨ (r.e.toNat : Int) < (bk l f to (at' : Nat)).2 then (acc, -1) else bl (fun to => bk l f to (at' : Nat)) r.e.toNat g (bk l f to (at' : Nat)).2.toNat (acc ++ [(bk l f to (at' : Nat)).1]) := by
        conv => lhs; unfold bl
        rw [if_pos (by omega)]
      rw [hstep] at hbl
      clear hstep
      generalize bk l f to (at' : Nat) = kr at ih hend hkok hbl
      have hbs : 2 < bs.length := bget_lt hb2
      have g1 : ∀ z cs, bget (bput (badd bs z) bs.length 0 10 cs) 1 = some r.cells := fun z cs => by rw [bget_bput_ne (by omega)]; exact bget_badd_lt hb1
      have g0 : ∀ z cs, bget (bput (badd bs z) bs.length 0 10 cs) 0 = some zN := fun z cs => by rw [bget_bput_ne (by omega)]; exact bget_badd_lt hb0
      have g2 : ∀ z cs, bget (bput (badd bs z) bs.length 0 10 cs) 2 = some (rfC r v) := fun z cs => by rw [bget_bput_ne (by omega)]; exact bget_badd_lt hb2
      have hfin : ∀ z cs, (kr.2 < 0 ∨ (r.e.toNat : Int) < kr.2) → Go.Ab.freeze (hp h (bput (bput (badd bs z) bs.length 0 10 cs) 0 0 10 (rfC r v))) h.next fuelF (.tup [.agg (rfC r v), i64 (-1)]) = some (.tup [(RT.mk r (bl (fun to => bk l f to (at' : Nat)) r.e.toNat (l.length - at') (at' + 1) []).1).rf.v, i64 (bl (fun to => bk l f to (at' : Nat)) r.e.toNat (l.length - at') (at' + 1) []).2]) := fun z cs hh => by
        rw [if_pos hh] at hbl
        rw [hbl]
        refine freeze_tup2 (freeze_rf hr ?_ hv0 hac (show acc.length < 2 ^ 40 by omega)) rfl
        refine sl_keep (IsSl.tmp (z := z) (off := 0) (m := 10) (cs := cs) hsl) fun k c ⟨_, _, _, _, hk⟩ e => ?_
        have := hvk k _ _ _ _ hk
        rw [bget_bput_ne (by omega)]
        exact e
      repeat' (first
          | refine WS.puF hf rfl rfl ih ?_ | refine WS.near rfl o_allocS rfl ?_ | refine WS.near rfl (o_storeH hf bget_badd rfl) rfl ?_ | refine WS.near rfl (o_loadH (hload_of (g1 _ _) rfl)) rfl ?_ | refine WS.near rfl (o_loadHN (g2 _ _) rfl) rfl ?_ | refine WS.near rfl (o_storeH hf (g0 _ _) rfl) rfl ?_ | refine WS.near rfl (o_loadH (hload_of (g2 _ _) rfl)) rfl ?_ | refine WS.near rfl (o_loadHN (bget_bput bget_badd) rfl) rfl ?_ | refine WS.near rfl (o_litS (cs := kr.1.rf.cells) rfl) rfl ?_ | refine W.seq ?_ | refine W.region ?_ | refine WS.nil ?_ | refine W.skip ?_ | refine W.ret ?_ | refine W.yes rfl rfl ?_ | refine W.fork rfl (fun _ => ?_) (fun _ => ?_) | refine WS.guardT rfl ?_ | refine WS.guardF rfl rfl rfl ?_ | refine WS.guardK rfl (fun _ => ?_) (fun _ => ?_) | refine WS.near rfl o_mov rfl ?_ | refine WS.near rfl o_pickT rfl ?_ | refine WS.near rfl o_pickF rfl ?_
          | refine WS.near rfl o_lss rfl ?_ | refine WS.near rfl o_gtr rfl ?_ | refine WS.near rfl o_faddr rfl ?_ | refine WS.near rfl (o_extract rfl) rfl ?_ | fail)
      · exact ⟨_, resK_cell (k := 0) rfl (bget_bput (g0 _ _)) rfl rfl, ⟨_, rfl, hfin _ _ (by omega)⟩⟩
      · exact ⟨_, resK_cell (k := 0) rfl (bget_bput (g0 _ _)) rfl rfl, ⟨_, rfl, hfin _ _ (by omega)⟩⟩
      · rw [if_neg (by omega)] at hbl
        clear hfin
        obtain ⟨v', bs', hd, hsl', hkeep, hown, hle⟩ := app_all hf (IsSl.badd (c := kr.1.rf.cells) (IsSl.tmp (z := zN) (off := 0) (m := 10) (cs := kr.1.rf.cells) hsl)) bget_badd (c := kr.1.rf.cells) rfl (by decide) (bytes := 144) (by show (acc.length + 1) * 144 ≤ 140737488355328; omega)
        refine WS.near rfl hd rfl ?_
        rw [badd_len, bput_len, badd_len] at hown hle
        have k2 := hkeep 2 _ (bget_badd_lt (g2 zN kr.1.rf.cells)) (fun a b d e hh => by have := hvk _ _ _ _ _ hh; omega)
        have k1 := hkeep 1 _ (bget_badd_lt (g1 zN kr.1.rf.cells)) (fun a b d e hh => by have := hvk _ _ _ _ _ hh; omega)
        have k0 := hkeep 0 _ (bget_badd_lt (g0 zN kr.1.rf.cells)) (fun a b d e hh => by have := hvk _ _ _ _ _ hh; omega)
        have hvk' : ∀ k a b d e, v' = .msl (h.next + k) a b d e → 3 ≤ k := fun k a b d e hh => by
          rcases hown _ _ _ _ _ hh with ⟨a', b', d', e', h9⟩ | h9
          · exact hvk _ _ _ _ _ h9
          · omega
        repeat' (first
            | refine WS.near rfl (o_storeO hf k2 (sl_cells hsl') rfl) rfl ?_ | refine W.region ?_ | refine WS.nil ?_ | refine WS.near rfl o_mov rfl ?_ | refine WS.near rfl o_faddr rfl ?_ | fail)
        have hse : kr.2 = (rowAt l to).e ∧ ¬ badRow l to (at' : Nat) := by
          rcases hend with hh | hh
          · omega
          · exact hh
        have hs1 : ¬ ((rowAt l to).p ≠ (at' : Nat) ∨ (rowAt l to).e ≤ (to : Int) ∨ (l.length : Int) < (rowAt l to).e) := fun hh => hse.2 (hbad.2 hh)
        have hcast : kr.2 = ((kr.2.toNat : Nat) : Int) := by omega
        obtain ⟨bs2, hbs2⟩ : ∃ q, q = bput bs' 2 (0 + 8) 1 [v'] := ⟨_, rfl⟩
        have m2 : bget bs2 2 = some (rfC r v') := by rw [hbs2, bget_bput k2]; rfl
        have mn : ∀ j, j ≠ 2 → bget bs2 j = bget bs' j := fun j hj => by rw [hbs2, bget_bput_ne hj]
        refine ⟨⟨kr.2.toNat, acc ++ [kr.1], g, v', bs2⟩, ⟨⟨(show kr.2.toNat ≤ l.length by omega), (show at' < kr.2.toNat by omega), (show ((kr.2.toNat : Nat) : Int) ≤ r.e by omega)⟩, hbl, (show r.e.toNat < g + kr.2.toNat by omega), (mn 0 (by omega)).trans k0, (mn 1 (by omega)).trans k1, m2, ?_, fun hh => by simp at hh, fun t ht => ?_, hvk', ?_⟩, (show l.length - kr.2.toNat < l.length - to by omega), ⟨rfl, rfl, rfl, rfl, rfl, congrArg (fun z => some (V.int .i64 z)) hcast, trivial⟩, by rw [hbs2]⟩
        · show IsSl h bs2 10 v' (acc ++ [kr.1]).length ((acc ++ [kr.1]).flatMap fun t => t.rf.cells)
          rw [List.length_append, List.flatMap_append]
          simp only [List.length_cons, List.length_nil, List.flatMap_cons, List.flatMap_nil, List.append_nil]
          refine sl_keep hsl' fun k c ⟨_, _, _, _, hk⟩ e => ?_
          have := hvk' k _ _ _ _ hk
          rw [mn k (by omega)]
          exact e
        · rcases List.mem_append.1 ht with hh | hh
          · exact hac t hh
          · rw [List.mem_singleton] at hh; subst hh; exact hkok
        · show (acc ++ [kr.1]).length ≤ kr.2.toNat
          rw [List.length_append]; simp only [List.length_cons, List.length_nil]; omega
    · have hte : to = r.e.toNat := by omega
      obtain ⟨g, rfl⟩ : ∃ q, g = q + 1 := ⟨g - 1, by omega⟩
      have hbe : bl (fun to => bk l f to (at' : Nat)) r.e.toNat (g + 1) to acc = (acc, ((to : Nat) : Int)) := by
        unfold bl
        rw [if_neg (by omega)]
      rw [hbe] at hbl
      repeat' (first
          | refine WS.near rfl (o_loadHN hb2 rfl) rfl ?_ | refine WS.near rfl (o_storeH hf hb0 rfl) rfl ?_ | refine W.seq ?_ | refine W.region ?_ | refine WS.nil ?_ | refine W.ret ?_ | refine WS.near rfl o_mov rfl ?_ | fail)
      refine ⟨_, resK_cell (k := 0) rfl (bget_bput hb0) rfl rfl, ⟨_, rfl, ?_⟩⟩
      rw [hbl]
      refine freeze_tup2 (freeze_rf hr ?_ hv0 hac (show acc.length < 2 ^ 40 by omega)) rfl
      refine sl_keep hsl fun k c ⟨_, _, _, _, hk⟩ e => ?_
      have := hvk k _ _ _ _ hk
      rw [bget_bput_ne (by omega)]
      exact e
end Go.Proofs.YtfbikhkmamdjmaaDoor.CodesK
