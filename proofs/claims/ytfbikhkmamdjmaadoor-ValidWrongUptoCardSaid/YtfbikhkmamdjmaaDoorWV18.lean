/- The tree of a flat list: by the program. -/
import Derived.Test.YtfbikhkmamdjmaaDoorWV17
namespace Go.Proofs.YtfbikhkmamdjmaaDoor.CodesK
open Go Go.Ab
set_option maxHeartbeats 6400000
set_option maxRecDepth 100000

def topI : List Fm → Int
  | [] => -1
  | f :: _ => f.a
def stk (F : List Fm) : List (Nat × List RT) := F.map fun g => (g.a, g.ks)
def Mach (l : List FL) (at' : Nat) : List Fm → Prop
  | [] => at' = 0
  | f :: G => go l at' (f.a, f.ks) (stk G) = start l
structure MS where
  at' : Nat
  F : List Fm
  vo : V
  D : Nat → Bool
  bs : List (Option (List V))
structure IS where
  F : List Fm
  vo : V
  D : Nat → Bool
  bs : List (Option (List V))
theorem none_end (h : Heap) (bs : List (Option (List V))) : Go.Ab.freeze (hp h bs) h.next fuelF (.tup [.agg zN, .bool false]) = some (.tup [.agg zN, .bool false]) :=
  freeze_tup2b (agg_still (k := 999999999999997) zN_still (by show 10 < 999999999999997; omega))
theorem open_form {h : Heap} {bs : List (Option (List V))} {vo : V} {n : Nat} {row : List V} (hs : IsSl h bs 11 vo (n + 1) row) : ∃ jo co, vo = .msl (h.next + jo) 11 0 (n + 1) none ∧ bget bs jo = some co ∧ (n + 1) * 11 ≤ co.length ∧ co.take ((n + 1) * 11) = row := by
  obtain ⟨_, ⟨_, h2⟩ | ⟨k, c, h1, h2, h3, h4⟩⟩ := hs
  · omega
  · exact ⟨k, c, h1, h2, h3, h4⟩
theorem top1_of {l : List FL} {co : List V} {f : Fm} {G : List Fm} (ht : co.take ((G.length + 1) * 11) = (f :: G).reverse.flatMap (fcells l)) (_ : (G.length + 1) * 11 ≤ co.length) :
    (co.drop ((0 + G.length) * 11 + 0)).head? = some (i64 f.a) ∧ (co.drop ((0 + G.length) * 11 + 1)).take 10 = ndC (rowAt l f.a) f.v := by
  have hco : co = G.reverse.flatMap (fcells l) ++ (fcells l f ++ co.drop ((G.length + 1) * 11)) := by
    conv => lhs; rw [← List.take_append_drop ((G.length + 1) * 11) co, ht]
    simp only [List.reverse_cons, List.flatMap_append, List.flatMap_cons, List.flatMap_nil, List.append_nil, List.append_assoc]
  have hl := flat_len l G.reverse
  rw [List.length_reverse] at hl
  generalize co.drop ((G.length + 1) * 11) = tl at hco
  generalize G.reverse.flatMap (fcells l) = A at hco hl
  have d1 : ∀ k, (A ++ (fcells l f ++ tl)).drop ((0 + G.length) * 11 + k) = (fcells l f ++ tl).drop k := fun k => by
    rw [show (0 + G.length) * 11 + k = A.length + k by omega, List.drop_length_add_append]
  constructor
  · rw [hco, d1]; rfl
  · rw [hco, d1]; rfl
theorem back_pc (u : V) (l : List FL) (hu : IsFz u (l.map FL.v)) (hok : ∀ r ∈ l, r.Ok) (hl : l.length ≤ 4000) : PuC D1 81 [u] (backV ((start l).map RT.pr)) NoMap := by
  have hum : ∀ h0 : Heap, Does (.len 1 (.v u)) h0 (.int .i64 (l.length : Nat)) h0 := fun h0 => by have := o_lenZ (h0 := h0) hu; rwa [List.length_map] at this
  have hrok : ∀ i, i < l.length → (rowAt l i).Ok := fun i hi => hok _ (getD_mem hi)
  refine PuC.tidy (fun h hm => hm) rfl rfl rfl rfl rfl fun h hf hm => ?_
  refine W.seq ?_
  repeat' (first
      | refine W.region ?_ | refine WS.nil ?_ | refine WS.near rfl o_mov rfl ?_ | refine WS.near rfl (o_allocH 0 rfl) rfl ?_ | fail)
  refine W.scope ?_
  refine W.inscope ?_
  repeat' (first
      | refine WS.near rfl (hum _) rfl ?_ | refine W.seq ?_ | refine W.region ?_ | refine WS.nil ?_ | refine WS.near rfl o_mov rfl ?_ | fail)
  refine W.marked (fun a : MS => [(0, u), (1, .mptr (h.next + 0) 0), (3, a.vo), (4, i64 a.at'), (5, i64 (topI a.F)), (6, i64 l.length)]) (fun a => hp h a.bs)
    (fun a => a.at' ≤ l.length ∧ Inv l h a.bs a.D a.at' a.vo a.F ∧ Mach l a.at' a.F ∧ a.F.length ≤ a.at') (fun a => l.length - a.at')
    ⟨0, [], .nilsl, fun _ => false, [some zN]⟩ rfl ⟨Nat.zero_le _, ⟨IsSl.nil, fun _ => rfl, (fun f hf => by cases hf), .nil, (fun _ _ _ _ _ hv => by cases hv), (fun _ hj => by cases hj), rfl⟩, rfl, Nat.zero_le _⟩ ⟨rfl, rfl, rfl, rfl, rfl, rfl, trivial⟩ rfl ?_
  rintro ⟨at', F, vo, D, bs⟩ ⟨hle, hi, hma, hfl⟩ ih
  simp only at hle hi hma hfl ⊢
  have hz := hi.z
  refine W.seq ?_
  refine W.seq ?_
  repeat' (first
      | refine W.region ?_ | refine WS.nil ?_ | refine W.skip ?_ | refine W.goto ?_ | refine W.fork rfl (fun _ => ?_) (fun _ => ?_) | refine WS.near rfl o_eql rfl ?_ | fail)
  · -- the end
    rename_i hend
    have hend : at' = l.length := by omega
    refine W.inscope ?_
    cases F with
    | nil =>
      have h0 : at' = 0 := hma
      have hv := hi.nil rfl
      subst hv
      have hs : start l = none := by unfold start; rw [if_neg (by omega)]
      rw [hs]
      repeat' (first
          | refine WS.near rfl (o_build (cs := zN) rfl) rfl ?_ | refine WS.near rfl (o_storeH hf hz rfl) rfl ?_ | refine W.seq ?_ | refine W.region ?_ | refine WS.nil ?_ | refine W.skip ?_ | refine W.ret ?_ | refine W.yes rfl rfl ?_ | refine WS.guardF rfl rfl rfl ?_ | refine WS.near rfl o_mov rfl ?_ | refine WS.near rfl o_pickT rfl ?_ | refine WS.near rfl o_neq rfl ?_ | refine WS.near rfl o_lenN rfl ?_ | fail)
      exact ⟨_, resK_cell (k := 0) rfl (bget_bput hz) rfl rfl, ⟨_, rfl, none_end _ _⟩⟩
    | cons f G =>
      have hfo := hi.ok f List.mem_cons_self
      have h0 : 0 < l.length := by have := hfo.lt; omega
      have hg : go l at' (f.a, f.ks) (stk G) = start l := hma
      rw [go, if_neg (by omega)] at hg
      obtain ⟨jo, co, hvo, hjo, hco, htk⟩ := open_form hi.sl
      subst hvo
      cases G with
      | nil =>
        obtain ⟨_, t2⟩ := top1_of (G := []) htk hco
        have hnb : Nat.ble ((0 + 0) * 11 + 1 + 10) (lenL co) = true := by rw [lenL_eq]; exact Nat.ble_eq_true_of_le (by simp only [List.length_nil] at hco; omega)
        have t2 : (co.drop ((0 + 0) * 11 + 1)).take 10 = ndC (rowAt l f.a) f.v := t2
        repeat' (first
            | refine WS.near rfl (o_iaddrZ 0 hu rfl (row_get hu h0) rfl) rfl ?_ | refine WS.near rfl (o_build (cs := zN) rfl) rfl ?_ | refine WS.near rfl (o_iaddrM (n := 0) rfl (by simp)) rfl ?_ | refine WS.near' rfl (o_loadHN hjo hnb) rfl (congrArg V.agg t2) ?_ | refine WS.near rfl (o_storeH hf hz rfl) rfl ?_ | refine W.seq ?_ | refine W.region ?_ | refine WS.nil ?_ | refine W.skip ?_ | refine W.ret ?_ | refine W.fork rfl (fun _ => ?_) (fun _ => ?_) | refine WS.guardT rfl ?_ | refine WS.near rfl o_mov rfl ?_ | refine WS.near rfl o_pickF rfl ?_ | refine WS.near rfl o_neq rfl ?_ | refine WS.near rfl o_lenM rfl ?_ | refine WS.near rfl o_faddr rfl ?_ | refine WS.near rfl o_loadF rfl ?_ | refine WS.near rfl (o_faddrF (Nat.le_of_ble_eq_true rfl)) rfl ?_ | fail)
        · rename_i ge
          have hne : ¬ (rowAt l 0).e = (l.length : Int) := ge
          rw [if_neg (fun hh => hne hh.2)] at hg
          rw [← hg]
          exact ⟨_, resK_cell (k := 0) rfl (bget_bput hz) rfl rfl, ⟨_, rfl, none_end _ _⟩⟩
        · rename_i ge
          have he : (rowAt l 0).e = (l.length : Int) := Classical.not_not.1 ge
          rw [if_pos ⟨rfl, he⟩] at hg
          rw [← hg]
          have hKd : Kd h bs (fun j => D j || decide (f.q = some j)) f.v f.ks := by
            refine ⟨hfo.nl, f.row, ⟨hfo.kid.len, ?_⟩, 5000 * RT.deeps f.ks, (fun _ _ => trivial), Nat.le_refl _, hfo.rd.ext (only_ext (fun j hj => by rw [hj]; rfl) (fun _ _ _ e => e)) (Nat.le_refl _)⟩
            rcases hfo.kid.is with ⟨h1, h2, _, _⟩ | ⟨j, h1, h2, h3⟩
            · exact .inl ⟨h1, h2⟩
            · exact .inr ⟨j, f.row, h1, h2, by rw [hfo.kid.len]; exact Nat.le_refl _, List.take_of_length_le (by rw [hfo.kid.len]; exact Nat.le_refl _)⟩
          have hkl := hfo.kl
          have hnode := hKd.node (rowAt l f.a) (fun j a b c d hv => by
            rcases hfo.kid.is with ⟨h1, _, _, _⟩ | ⟨k, h1, _, h3⟩
            · rw [h1] at hv; cases hv
            · rw [h1] at hv
              simp only [V.msl.injEq] at hv
              have : k = j := by omega
              subst this
              simp [h3]) (by omega)
          have hdk := RT.deeps_le f.ks (at' - 1 - f.a) fun t ht => by have := hfo.dp t ht; omega
          have hxd : (RT.mk (rowAt l f.a) f.ks).deep = RT.deeps f.ks + 1 := rfl
          refine ⟨_, resK_cell (k := 0) rfl (bget_bput hz) rfl rfl, ⟨_, rfl, ?_⟩⟩
          refine freeze_tup2b ((hnode.ext fun j c e => ?_) 999999999999998 (by rw [hxd]; omega))
          rw [only_get, Nat.zero_add] at e
          cases hD : (D j || decide (f.q = some j)) with
          | false => rw [hD] at e; cases e
          | true =>
            rw [hD] at e
            have hj0 : j ≠ 0 := by
              rcases Bool.or_eq_true_iff.1 hD with hj | hj
              · exact (hi.dl j hj).2
              · exact (hfo.out j (of_decide_eq_true hj)).2
            rw [bget_bput_ne hj0]
            exact e
      | cons g G2 =>
        rw [if_neg (fun hh => by have := hh.1; simp [stk] at this)] at hg
        rw [← hg]
        have hG : G2.length + 2 ≤ at' := by have := hfl; simp only [List.length_cons] at this; omega
        repeat' (first
            | refine WS.near rfl (o_build (cs := zN) rfl) rfl ?_ | refine WS.near rfl (o_storeH hf hz rfl) rfl ?_ | refine W.seq ?_ | refine W.region ?_ | refine WS.nil ?_ | refine W.skip ?_ | refine W.ret ?_ | refine W.yes rfl rfl ?_ | refine WS.guardF rfl rfl rfl ?_ | refine WS.near rfl o_mov rfl ?_ | refine WS.near rfl o_pickT rfl ?_ | refine WS.near rfl o_neq rfl ?_ | refine WS.near rfl o_lenM rfl ?_ | fail)
        all_goals first
          | exact ⟨_, resK_cell (k := 0) rfl (bget_bput hz) rfl rfl, ⟨_, rfl, none_end _ _⟩⟩
          | (exfalso; simp only [List.length_cons] at *; omega)
          | fail
  rename_i hlt
  have hlt : at' < l.length := by omega
  have hr := hrok at' hlt
  have hrg := row_get hu hlt
  have hbr : badRow l at' (topI F) ↔ ((rowAt l at').p ≠ topI F ∨ (rowAt l at').e ≤ (at' : Int) ∨ (l.length : Int) < (rowAt l at').e) := Iff.rfl
  generalize hrw : rowAt l at' = r at hr hrg hbr
  have hfin : badRow l at' (topI F) → start l = none := fun hb => by
    cases F with
    | nil =>
      have h0 : at' = 0 := hma
      subst h0
      unfold start
      rw [if_pos hlt, if_pos (show badRow l 0 (-1) from hb)]
    | cons f G =>
      have hg : go l at' (f.a, f.ks) (stk G) = start l := hma
      rw [← hg, go, if_pos hlt, if_pos (.inl hb)]
  have htop : topI F < 0 → at' = 0 := fun ht => by
    cases F with
    | nil => exact hma
    | cons f G => have : (f.a : Int) < 0 := ht; omega
  refine W.meetR (α := Unit) (fun _ => [(0, u), (1, .mptr (h.next + 0) 0), (3, vo), (4, i64 at'), (5, i64 (topI F)), (6, i64 l.length)]) (fun _ => hp h bs) (fun _ => ¬ badRow l at' (topI F)) ?_ ?_
  · refine W.seq ?_
    repeat' (first
        | refine WS.near rfl (o_iaddrZ at' hu rfl hrg rfl) rfl ?_ | refine WS.near rfl (o_build (cs := zN) rfl) rfl ?_ | refine WS.near rfl (o_storeH hf hz rfl) rfl ?_ | refine W.seq ?_ | refine W.region ?_ | refine WS.nil ?_ | refine W.skip ?_ | refine W.ret ?_ | refine W.yes rfl rfl ?_ | refine W.no rfl rfl ?_ | refine W.fork rfl (fun _ => ?_) (fun _ => ?_) | refine WS.guardT rfl ?_ | refine WS.guardF rfl rfl rfl ?_ | refine WS.guardV rfl rfl ?_ | refine WS.guardK rfl (fun _ => ?_) (fun _ => ?_) | refine WS.near rfl o_mov rfl ?_ | refine WS.near rfl o_pickT rfl ?_ | refine WS.near rfl o_pickF rfl ?_ | refine WS.near rfl o_lss rfl ?_ | refine WS.near rfl o_leq rfl ?_ | refine WS.near rfl o_gtr rfl ?_ | refine WS.near rfl o_neq rfl ?_ | refine WS.near rfl o_loadF rfl ?_ | refine WS.near rfl (o_faddrF (Nat.le_of_ble_eq_true rfl)) rfl ?_ | fail)
    all_goals first
      | exact ⟨(), fun hb => by have := hbr.1 hb; omega, ⟨rfl, rfl, rfl, rfl, rfl, rfl, trivial⟩, rfl⟩
      | (rw [hfin (hbr.2 (by omega))]
         exact ⟨_, resK_cell (k := 0) rfl (bget_bput hz) rfl rfl, ⟨_, rfl, none_end _ _⟩⟩)
      | (exfalso; have := htop (by omega); omega)
      | fail
  rintro _ hnb
  have hnb' : ¬ (r.p ≠ topI F ∨ r.e ≤ (at' : Int) ∨ (l.length : Int) < r.e) := fun hh => hnb (hbr.2 hh)
  have hfin2 : ∀ f G, F = f :: G → (rowAt l f.a).e < r.e → start l = none := fun f G hF he => by
    subst hF
    have hg : go l at' (f.a, f.ks) (stk G) = start l := hma
    rw [← hg, go, if_pos hlt, if_pos (.inr (by rw [hrw]; exact he))]
  refine W.meetR (α := Unit) (fun _ => [(0, u), (1, .mptr (h.next + 0) 0), (3, vo), (4, i64 at'), (5, i64 (topI F)), (6, i64 l.length)]) (fun _ => hp h bs) (fun _ => ∀ f G, F = f :: G → ¬ (rowAt l f.a).e < r.e) ?_ ?_
  · refine W.seq ?_
    cases F with
    | nil =>
      repeat' (first
          | refine W.region ?_ | refine WS.nil ?_ | refine W.skip ?_ | refine W.no rfl rfl ?_ | refine WS.guardF rfl rfl rfl ?_ | refine WS.near rfl o_pickF rfl ?_ | refine WS.near rfl o_geq rfl ?_ | fail)
      exact ⟨(), (fun f G hh => by cases hh), ⟨rfl, rfl, rfl, rfl, rfl, rfl, trivial⟩, rfl⟩
    | cons f G =>
      have hfo := hi.ok f List.mem_cons_self
      have hfa := hfo.lt
      have hfl : f.a < l.length := by omega
      repeat' (first
          | refine WS.near rfl (o_iaddrZ at' hu rfl hrg rfl) rfl ?_ | refine WS.near rfl (o_iaddrZ f.a hu rfl (row_get hu hfl) rfl) rfl ?_ | refine WS.near rfl (o_build (cs := zN) rfl) rfl ?_ | refine WS.near rfl (o_storeH hf hz rfl) rfl ?_ | refine W.seq ?_ | refine W.region ?_ | refine WS.nil ?_ | refine W.skip ?_ | refine W.ret ?_ | refine W.fork rfl (fun _ => ?_) (fun _ => ?_) | refine WS.guardT rfl ?_ | refine WS.near rfl o_mov rfl ?_ | refine WS.near rfl o_pickT rfl ?_ | refine WS.near rfl o_gtr rfl ?_ | refine WS.near rfl o_geq rfl ?_ | refine WS.near rfl o_loadF rfl ?_ | refine WS.near rfl (o_faddrF (Nat.le_of_ble_eq_true rfl)) rfl ?_ | fail)
      all_goals first
        | exact ⟨(), fun f' G' hh => by cases hh; omega, ⟨rfl, rfl, rfl, rfl, rfl, rfl, trivial⟩, rfl⟩
        | (rw [hfin2 f G rfl (by omega)]
           exact ⟨_, resK_cell (k := 0) rfl (bget_bput hz) rfl rfl, ⟨_, rfl, none_end _ _⟩⟩)
        | fail
  rintro _ hnt
  have hnd : PuF D1 124 [r.v] (.agg (ndC r .nilsl)) := by
    have := flatNode_pu r hr
    rwa [r.node_v] at this
  have hgo : start l = go l (at' + 1) (pop l (at' + 1) (at', []) (stk F)).1 (pop l (at' + 1) (at', []) (stk F)).2 := by
    cases F with
    | nil =>
      have h0 : at' = 0 := hma
      subst h0
      unfold start
      rw [if_pos hlt, if_neg (show ¬ badRow l 0 (-1) from hnb)]
      rfl
    | cons f G =>
      have hg : go l at' (f.a, f.ks) (stk G) = start l := hma
      rw [← hg]
      conv => lhs; rw [go]
      rw [if_pos hlt, if_neg ?_]
      · rfl
      · rintro (hh | hh)
        · exact hnb hh
        · exact hnt f G rfl (by rw [← hrw]; exact hh)
  clear hma hfin hfin2 htop hnt
  refine W.seq ?_
  repeat' (first
      | refine WS.near rfl (o_iaddrZ at' hu rfl hrg rfl) rfl ?_ | refine WS.near rfl (o_loadA rfl) rfl ?_ | refine WS.puF hf rfl rfl hnd ?_ | refine WS.near rfl (o_build (cs := i64 at' :: ndC r .nilsl) rfl) rfl ?_ | refine WS.near rfl (o_litS (cs := i64 at' :: ndC r .nilsl) rfl) rfl ?_ | refine W.region ?_ | fail)
  obtain ⟨vo', bs', hd, hsl', hkeep, hown, hlen⟩ := app_all hf (IsSl.badd (c := i64 at' :: ndC r .nilsl) hi.sl) bget_badd (c := i64 at' :: ndC r .nilsl) rfl (by decide) (bytes := 152) (by show (F.length + 1) * 152 ≤ 140737488355328; omega)
  rw [badd_len] at hown hlen
  have hi' := hi.push (c := i64 at' :: ndC r .nilsl) (by rw [← hrw]; rfl) hsl' hkeep hown hlen
  refine WS.near rfl hd rfl ?_
  repeat' (first
      | refine W.seq ?_ | refine W.region ?_ | refine WS.nil ?_ | refine W.block ?_ | refine WS.near rfl o_mov rfl ?_ | refine WS.near rfl (o_add (by omega) (by omega)) rfl ?_ | fail)
  refine W.loop (fun a : IS => [(0, u), (1, .mptr (h.next + 0) 0), (3, a.vo), (4, i64 ((at' + 1 : Nat) : Int)), (5, i64 (topI a.F)), (6, i64 l.length)]) (fun a => hp h a.bs)
    (fun a => ∃ f G, a.F = f :: G ∧ Inv l h a.bs a.D (at' + 1) a.vo a.F ∧ pop l (at' + 1) (at', []) (stk F) = pop l (at' + 1) (f.a, f.ks) (stk G) ∧ a.F.length ≤ at' + 1) (fun a => a.F.length)
    ⟨⟨at', [], .nilsl, [], none⟩ :: F, vo', D, bs'⟩ ⟨_, F, rfl, hi', rfl, by show F.length + 1 ≤ at' + 1; omega⟩ (by exact ⟨rfl, rfl, rfl, congrArg (fun z => some (V.int .i64 z)) (show (at' : Int) + 1 = ((at' + 1 : Nat) : Int) by omega), rfl, rfl, trivial⟩) rfl ?_
  rintro ⟨F2, vo2, D2, bs2⟩ ⟨f, G, hF2, hi2, hpop, hfl2⟩
  simp only at hF2 hi2 hpop hfl2 ⊢
  subst hF2
  have hfo := hi2.ok f List.mem_cons_self
  have hfa : f.a < l.length := by have := hfo.lt; omega
  obtain ⟨jo, co, hvo, hjo, hco, htk⟩ := open_form hi2.sl
  subst hvo
  have htc : topI (f :: G) = (f.a : Int) := rfl
  -- what comes behind the loop
  have hend : pop l (at' + 1) (f.a, f.ks) (stk G) = ((f.a, f.ks), stk G) → Mach l (at' + 1) (f :: G) := fun hp2 => by
    show go l (at' + 1) (f.a, f.ks) (stk G) = start l
    rw [hgo, hpop, hp2]
  refine W.seq ?_
  refine W.seq ?_
  cases G with
  | nil =>
    repeat' (first
        | refine W.region ?_ | refine WS.nil ?_ | refine W.exit ?_ | refine W.no rfl rfl ?_ | refine WS.guardF rfl rfl rfl ?_ | refine WS.near rfl o_pickF rfl ?_ | refine WS.near rfl o_gtr rfl ?_ | refine WS.near rfl o_lenM rfl ?_ | fail)
    repeat' (first
        | refine W.seq ?_ | refine W.goto ?_ | fail)
    exact ih ⟨at' + 1, [f], _, D2, bs2⟩ _ _ ⟨(show at' + 1 ≤ l.length by omega), hi2, hend rfl, hfl2⟩ (show l.length - (at' + 1) < l.length - at' by omega) ⟨rfl, rfl, rfl, rfl, rfl, rfl, trivial⟩ rfl
  | cons g G2 =>
    repeat' (first
        | refine WS.near rfl (o_iaddrZ f.a hu rfl (row_get hu hfa) rfl) rfl ?_ | refine W.region ?_ | refine WS.nil ?_ | refine W.skip ?_ | refine W.block ?_ | refine W.exit ?_ | refine W.no rfl rfl ?_ | refine W.fork rfl (fun _ => ?_) (fun _ => ?_) | refine WS.guardT rfl ?_ | refine WS.guardF rfl rfl rfl ?_ | refine WS.guardK rfl (fun _ => ?_) (fun _ => ?_) | refine WS.near rfl o_pickT rfl ?_ | refine WS.near rfl o_pickF rfl ?_ | refine WS.near rfl o_gtr rfl ?_ | refine WS.near rfl o_eql rfl ?_ | refine WS.near rfl o_lenM rfl ?_ | refine WS.near rfl o_loadF rfl ?_ | refine WS.near rfl (o_faddrF (Nat.le_of_ble_eq_true rfl)) rfl ?_ | fail)
    · rename_i g1 g2
      have he : (rowAt l f.a).e = ((at' + 1 : Nat) : Int) := g2
      have hgo2 := hi2.ok g (List.mem_cons_of_mem _ List.mem_cons_self)
      have hG : G2.length + 2 ≤ at' + 1 := by have := hfl2; simp only [List.length_cons] at this; omega
      have hT := top2_of (G := G2) hco htk
      have hcw := closed_w hf hm hjo hT.le hT.va hT.nc (by have := hfl2; simp only [List.length_cons] at this; omega) (by have := hgo2.kl; omega) hgo2.kid (((hi2.oj jo _ _ _ _ rfl).2.2) g (List.mem_cons_of_mem _ List.mem_cons_self))
      have hcl := fun qa qb => hi2.close hjo (by omega) htk hco qa qb
      refine W.seq ?_
      refine W.region ?_
      refine WS.call rfl rfl hcw fun v h' hc => ?_
      obtain ⟨rfl, qa, qb, rfl⟩ := hc
      have hi3 := hcl qa qb
      obtain ⟨jo3, co3, hv3, hj3, hc3, ht3⟩ := open_form hi3.sl
      simp only [V.msl.injEq] at hv3
      have : jo3 = jo := by omega
      subst this
      obtain ⟨t1, _⟩ := top1_of (G := G2) ht3 hc3
      repeat' (first
          | refine WS.near rfl (o_iaddrM (n := G2.length) (by omega) (by omega)) rfl ?_ | refine WS.near rfl (o_loadH (hload_of hj3 t1)) rfl ?_ | refine W.region ?_ | refine WS.nil ?_ | refine WS.near rfl o_lenM rfl ?_ | refine WS.near rfl o_faddr rfl ?_ | refine WS.near rfl (o_sub (by omega) (by omega)) rfl ?_ | fail)
      refine ⟨⟨_, _, _, _⟩, ⟨_, G2, rfl, hi3, ?_, ?_⟩, ?_, ⟨rfl, rfl, rfl, rfl, rfl, rfl, trivial⟩, rfl⟩
      · rw [hpop]
        show pop l (at' + 1) (f.a, f.ks) ((g.a, g.ks) :: stk G2) = _
        rw [pop, if_pos he]
      · simp only [List.length_cons] at hfl2 ⊢; omega
      · simp only [List.length_cons]; omega
    · rename_i g1 g2
      have he : (rowAt l f.a).e ≠ ((at' + 1 : Nat) : Int) := g2
      repeat' (first
          | refine W.seq ?_ | refine W.goto ?_ | fail)
      exact ih ⟨at' + 1, f :: g :: G2, _, D2, bs2⟩ _ _ ⟨(show at' + 1 ≤ l.length by omega), hi2, hend (pop_no he), hfl2⟩ (show l.length - (at' + 1) < l.length - at' by omega) ⟨rfl, rfl, rfl, rfl, rfl, rfl, trivial⟩ rfl
    · rename_i g1
      exfalso
      simp only [List.length_cons] at g1
      omega
end Go.Proofs.YtfbikhkmamdjmaaDoor.CodesK
