/- ValidWrong: the law. -/
import Derived.Test.YtfbikhkmamdjmaaDoorWV31w
import Derived.Test.YtfbikhkmamdjmaaDoorWVU3
import Derived.Test.YtfbikhkmamdjmaaDoorWV9
namespace Go.Proofs.YtfbikhkmamdjmaaDoor.CodesK
open Go Go.Ab
set_option maxHeartbeats 3200000
set_option maxRecDepth 100000

/-- one row turned -/
theorem splice_row (tl : List V) (x : V) (fld : Nat) (hfld : fld < 11) : ∀ (L : List FL) (i : Nat) (r : FL), i < L.length → r.cells = splice (rowAt L i).cells fld 1 [x] →
    splice (L.flatMap FL.cells ++ tl) (i * 11 + fld) 1 [x] = (L.set i r).flatMap FL.cells ++ tl
  | [], _, _, h, _ => by simp at h
  | y :: L, 0, r, _, hr => by
    have hr : r.cells = splice y.cells fld 1 [x] := hr
    have h11 : y.cells.length = 11 := rfl
    simp only [List.flatMap_cons, List.set_cons_zero, hr]
    rw [List.append_assoc y.cells]
    unfold splice
    rw [Nat.zero_mul, Nat.zero_add, List.take_append_of_le_length (by omega), List.drop_append_of_le_length (by omega)]
    simp only [List.append_assoc]
  | y :: L, i + 1, r, h, hr => by
    have ih := splice_row tl x fld hfld L i r (by simpa using h) hr
    have h11 : y.cells.length = 11 := rfl
    simp only [List.flatMap_cons, List.set_cons_succ, List.append_assoc]
    rw [← ih]
    unfold splice
    rw [show (i + 1) * 11 + fld = y.cells.length + (i * 11 + fld) by omega, List.take_length_add_append, show y.cells.length + (i * 11 + fld) + 1 = y.cells.length + (i * 11 + fld + 1) by omega, List.drop_length_add_append]
    simp only [List.append_assoc]
theorem set_rowAt {L : List FL} {i j : Nat} {r : FL} (h : i < L.length) : rowAt (L.set i r) j = if j = i then r else rowAt L j := by
  unfold rowAt
  by_cases hj : j = i
  · subst hj
    simp [List.getD, h]
  · rw [if_neg hj]
    simp [List.getD, List.getElem?_set_ne (Ne.symm hj)]
theorem set_turned {L : List FL} {i : Nat} {r : FL} (h : i < L.length) : Turned L (L.set i r) i := ⟨h, List.length_set, fun j hj => by rw [set_rowAt h, if_neg hj]⟩
theorem set_ok {L : List FL} {i : Nat} {r : FL} (hL : ∀ x ∈ L, x.Ok) (hr : r.Ok) : ∀ x ∈ L.set i r, x.Ok := fun x hx => by
  rcases List.mem_or_eq_of_mem_set hx with hx | rfl
  · exact hL x hx
  · exact hr
/-- the rows behind a store -/
theorem sl_set {h : Heap} {bs : List (Option (List V))} {j : Nat} {c : List V} {L : List FL} {i fld : Nat} {r : FL} {x : V} (hj : bget bs j = some c) (ht : c.take (L.length * 11) = L.flatMap FL.cells) (hi : i < L.length) (hfld : fld < 11)
    (hr : r.cells = splice (rowAt L i).cells fld 1 [x]) : IsSl h (bput bs j ((0 + i) * 11 + fld) 1 [x]) 11 (.msl (h.next + j) 11 0 L.length none) (L.set i r).length ((L.set i r).flatMap FL.cells) := by
  have hc2 : c = L.flatMap FL.cells ++ c.drop (L.length * 11) := by rw [← ht, List.take_append_drop]
  have hsp := splice_row (c.drop (L.length * 11)) x fld hfld L i r hi hr
  rw [← hc2] at hsp
  have hl : (L.set i r).length = L.length := List.length_set
  refine ⟨fcl_len _, .inr ⟨j, _, by rw [hl], bget_bput hj, ?_, ?_⟩⟩
  · rw [Nat.zero_add, hsp, hl, List.length_append, fcl_len, hl]; omega
  · rw [Nat.zero_add, hsp]
    exact List.take_left' (fcl_len _)
theorem o_remN {a b : Int} {h : Heap} (h0 : 0 ≤ a) (h1 : 0 < b) : ∃ i : Nat, (i : Int) = a % b ∧ (i : Int) < b ∧ Does (.bin .rem (.v (.int .i64 a)) (.v (.int .i64 b))) h (.int .i64 (i : Nat)) h := by
  have h2 := Int.emod_nonneg a (show b ≠ 0 by omega)
  have h3 := Int.emod_lt_of_pos a h1
  have he : (((a % b).toNat : Nat) : Int) = a % b := by omega
  exact ⟨(a % b).toNat, he, by omega, by rw [he]; exact o_rem h0 h1⟩
theorem flat_drop (tl : List V) (fld : Nat) (hf : fld ≤ 11) : ∀ (L : List FL) (i : Nat), i < L.length → ∃ q, (L.flatMap FL.cells ++ tl).drop (i * 11 + fld) = (rowAt L i).cells.drop fld ++ q
  | [], _, h => by simp at h
  | y :: L, 0, _ => ⟨L.flatMap FL.cells ++ tl, by
      have h11 : y.cells.length = 11 := rfl
      rw [List.flatMap_cons, List.append_assoc, Nat.zero_mul, Nat.zero_add, List.drop_append_of_le_length (by omega)]
      rfl⟩
  | y :: L, i + 1, h => by
    obtain ⟨q, hq⟩ := flat_drop tl fld hf L i (by simpa using h)
    have h11 : y.cells.length = 11 := rfl
    refine ⟨q, ?_⟩
    rw [List.flatMap_cons, List.append_assoc, show (i + 1) * 11 + fld = y.cells.length + (i * 11 + fld) by omega, List.drop_length_add_append, hq]
    rfl
theorem cell_at {c : List V} {L : List FL} {i fld : Nat} {x : V} (ht : c.take (L.length * 11) = L.flatMap FL.cells) (hi : i < L.length) (hf : fld ≤ 11) (hx : ((rowAt L i).cells.drop fld).head? = some x) : (c.drop ((0 + i) * 11 + fld)).head? = some x := by
  obtain ⟨q, hq⟩ := flat_drop (c.drop (L.length * 11)) fld hf L i hi
  rw [← ht, List.take_append_drop] at hq
  rw [Nat.zero_add, hq]
  cases hd : (rowAt L i).cells.drop fld with
  | nil => rw [hd] at hx; cases hx
  | cons a r => rw [hd] at hx; exact hx
structure TL where
  L : List FL
  u : V
  bs : List (Option (List V))
def x0 : EX := .mk 0 0 [] [] .nilsl
def x13 (e : Int) : FL := ⟨13, 0, 0, e, -1, [], x0, [], .nilsl⟩
theorem x0_ok : x0.Ok := .mk (show In64 0 by unfold In64; omega) (show In64 0 by unfold In64; omega) (.inl ⟨rfl, rfl⟩) (fun y hy => by cases hy)
theorem x0_sm : x0.Sm := .mk (by decide) (by decide) (fun y hy => by cases hy)
theorem x13_ok (e : Int) (he : In64 e) : FL.Ok (x13 e) :=
  ⟨show In64 13 by unfold In64; omega, show In64 0 by unfold In64; omega, show In64 0 by unfold In64; omega, he, show In64 (-1) by unfold In64; omega, show 0 < 2 ^ 60 by decide, x0_ok, .inl ⟨rfl, rfl⟩, (fun y hy => by cases hy), x0_sm, show 0 * 56 ≤ 140737488355328 by decide, (fun y hy => by cases hy)⟩
theorem law_pu3 (n : ND) (hn : n.Ok) (hc : n.cnt < 2 ^ 22) (at' which by' : Int) : PuF D2 5 [n.v, i64 at', i64 which, i64 by'] (.bool true) := by
  have hfl := n.fl_len 0 (-1)
  have hpos := n.cnt_pos
  have hrows := fl_ok n 0 (-1) hn (by omega) (by unfold In64; omega)
  refine PuF.tidy rfl rfl rfl rfl rfl fun h hf => ?_
  refine W.seq ?_
  repeat' (first
      | refine W.region ?_ | refine WS.nil ?_ | refine WS.near rfl o_mov rfl ?_ | refine WS.near rfl (o_boxH 0 rfl) rfl ?_ | fail)
  refine W.seq ?_
  repeat' (first
      | refine WS.puF hf rfl rfl alive2 ?_ | refine W.region ?_ | refine WS.nil ?_ | fail)
  refine W.seq ?_
  repeat' (first
      | refine WS.near rfl (o_loadHN rfl rfl) rfl ?_ | refine W.region ?_ | refine WS.near rfl (o_loadHN rfl rfl) rfl ?_ | fail)
  refine WS.call rfl rfl (make_w n hn (by omega) h hf _) fun u h' hcl => ?_
  obtain ⟨bs', rfl, hs, hg⟩ := hcl
  generalize hL : n.fl 0 (-1) = L at hfl hrows hs
  rw [← hfl] at hs hpos
  have hLne : L ≠ [] := fun hh => by rw [hh] at hpos; simp at hpos
  have hfz := made_frz hs hLne hrows (by omega)
  have hre := refRight_e (slV (L.map FL.v)) L (slV_fz _) hrows (by omega)
  obtain ⟨_, ⟨_, h0⟩ | ⟨j, c, rfl, hj, hcl, hct⟩⟩ := hs
  · omega
  refine WS.nil ?_
  cases hR : runF L with
  | false =>
    rw [hR] at hre
    repeat' (first
        | refine WS.plain (p := [slV (L.map FL.v)]) rfl rfl rfl hfz rfl hre ?_ | refine W.seq ?_ | refine W.region ?_ | refine WS.nil ?_ | refine W.ret ?_ | refine W.yes rfl rfl ?_ | refine WS.guardT rfl ?_ | refine WS.guardF rfl rfl rfl ?_ | refine WS.near rfl o_mov rfl ?_ | refine WS.near rfl o_pickT rfl ?_ | refine WS.near rfl o_pickF rfl ?_ | refine WS.near rfl o_notT rfl ?_ | refine WS.near rfl o_notF rfl ?_ | fail)
    exact ⟨_, rfl, fin_bool rfl⟩
  | true =>
    rw [hR] at hre
    have hran := run_tight hR
    refine W.meetR (α := Unit) (fun _ => [(1, i64 at'), (2, i64 which), (3, i64 by'), (7, .msl (h.next + j) 11 0 L.length none)]) (fun _ => hp h bs') (fun _ => 0 ≤ at' ∧ 1 ≤ by' ∧ by' ≤ 1099511627776) ?_ ?_
    · refine W.seq ?_
      repeat' (first
          | refine WS.plain (p := [slV (L.map FL.v)]) rfl rfl rfl hfz rfl hre ?_ | refine W.seq ?_ | refine W.region ?_ | refine WS.nil ?_ | refine W.skip ?_ | refine W.ret ?_ | refine W.yes rfl rfl ?_ | refine W.fork rfl (fun _ => ?_) (fun _ => ?_) | refine WS.guardT rfl ?_ | refine WS.guardF rfl rfl rfl ?_ | refine WS.guardK rfl (fun _ => ?_) (fun _ => ?_) | refine WS.near rfl o_mov rfl ?_ | refine WS.near rfl o_pickT rfl ?_ | refine WS.near rfl o_pickF rfl ?_ | refine WS.near rfl o_notT rfl ?_ | refine WS.near rfl o_lss rfl ?_ | refine WS.near rfl o_gtr rfl ?_ | fail)
      all_goals first
        | exact ⟨_, rfl, fin_bool rfl⟩
        | exact ⟨(), ⟨by omega, by omega, by omega⟩, ⟨rfl, rfl, rfl, rfl, trivial⟩, rfl⟩
        | fail
    rintro _ ⟨ha, hb1, hb2⟩
    obtain ⟨i, hi1, hi2, hd⟩ := o_remN (h := hp h bs') ha (show (0 : Int) < (L.length : Nat) by omega)
    have hi : i < L.length := by omega
    have hLb : L.length < 2 ^ 22 := by omega
    refine W.seq ?_
    repeat' (first
        | refine WS.near rfl hd rfl ?_ | refine W.region ?_ | refine WS.nil ?_ | refine WS.near rfl o_lenM rfl ?_ | fail)
    refine W.meetR (α := TL) (fun a => [(7, a.u)]) (fun a => hp h a.bs) (fun a => freezes (hp h a.bs) 0 fuelF [a.u] = some [slV (a.L.map FL.v)] ∧ (∀ r ∈ a.L, r.Ok) ∧ runF a.L = false ∧ a.L.length < 2 ^ 40) ?_ ?_
    · have hro := hrows (rowAt L i) (getD_mem hi)
      have hin := hran.t.in1 i (Nat.zero_le _) hi
      have hgd := hran.t.good i (Nat.zero_le _) hi
      obtain ⟨gk1, gk2, gb1, gb2⟩ := hgd
      have hx13 := x13_ok ((L.length : Int) + 1) (by unfold In64; omega)
      have hlt := hran.t.lt i (Nat.zero_le _) hi
      have hpa : -1 ≤ (rowAt L i).p := by
        by_cases h0 : i = 0
        · rw [h0, hran.root]; omega
        · have := hran.par i (by omega) hi; omega
      have hsL : IsSl h bs' 11 (.msl (h.next + j) 11 0 L.length none) L.length (L.flatMap FL.cells) := ⟨fcl_len L, .inr ⟨j, c, rfl, hj, hcl, hct⟩⟩
      have fin3 : ∀ (r : FL) (fld : Nat) (x : V), fld < 11 → r.cells = splice (rowAt L i).cells fld 1 [x] → r.Ok → runF (L.set i r) = false → freezes (hp h (bput bs' j ((0 + i) * 11 + fld) 1 [x])) 0 fuelF [.msl (h.next + j) 11 0 L.length none] = some [slV ((L.set i r).map FL.v)] ∧ (∀ r' ∈ L.set i r, r'.Ok) ∧ runF (L.set i r) = false ∧ (L.set i r).length < 2 ^ 40 := fun r fld x h1 h2 h3 h4 =>
        ⟨made_frz (sl_set hj hct hi h1 h2) (fun hh => hLne (List.length_eq_zero_iff.1 (by have := congrArg List.length hh; rwa [List.length_set] at this))) (set_ok hrows h3) (by rw [List.length_set]; omega), set_ok hrows h3, h4, by rw [List.length_set]; omega⟩
      have c3 := cell_at (fld := 3) hct hi (by omega) (x := i64 (rowAt L i).e) rfl
      have c4 := cell_at (fld := 4) hct hi (by omega) (x := i64 (rowAt L i).p) rfl
      have c2 := cell_at (fld := 2) hct hi (by omega) (x := i64 (rowAt L i).b) rfl
      have hbd : (0 + i) * 11 + 11 ≤ c.length := by omega
      refine W.seq ?_
      repeat' (first
          | refine W.region ?_ | refine WS.nil ?_ | refine W.block ?_ | refine WS.near rfl o_mov rfl ?_ | fail)
      repeat' (first
          | refine WS.near rfl (o_iaddrM (n := i) rfl (by omega)) rfl ?_ | refine WS.near rfl (o_loadH (hload_of hj c3)) rfl ?_ | refine WS.near rfl (o_loadH (hload_of hj c4)) rfl ?_ | refine WS.near rfl (o_loadH (hload_of hj c2)) rfl ?_ | refine WS.near rfl (o_storeR (n := 1) hf hj rfl (by omega)) rfl ?_ | refine W.seq ?_ | refine W.region ?_ | refine WS.nil ?_ | refine W.fork rfl (fun _ => ?_) (fun _ => ?_) | refine WS.near rfl o_eql rfl ?_ | refine WS.near rfl o_lenM rfl ?_ | refine WS.near rfl o_faddr rfl ?_ | refine WS.near rfl (o_build rfl) rfl ?_ | refine WS.near rfl (o_add (by omega) (by omega)) rfl ?_ | refine WS.near rfl (o_sub (by omega) (by omega)) rfl ?_ | fail)
      · exact ⟨⟨L.set i { rowAt L i with e := (rowAt L i).e + by' }, _, _⟩, fin3 _ 3 _ (by omega) rfl ⟨hro.k, hro.a, hro.b, by show In64 ((rowAt L i).e + by'); unfold In64; omega, hro.p, hro.s, hro.x, hro.w, hro.ws, hro.xm, hro.wl, hro.wm⟩ (wrong_end hR (set_turned hi) (by' := by') (by omega) (by rw [set_rowAt hi, if_pos rfl])), ⟨rfl, trivial⟩, rfl⟩
      · exact ⟨⟨L.set i { rowAt L i with p := (rowAt L i).p - by' }, _, _⟩, fin3 _ 4 _ (by omega) rfl ⟨hro.k, hro.a, hro.b, hro.e, by show In64 ((rowAt L i).p - by'); unfold In64; omega, hro.s, hro.x, hro.w, hro.ws, hro.xm, hro.wl, hro.wm⟩ (wrong_parent hR (set_turned hi) (by' := by') (by omega) (by rw [set_rowAt hi, if_pos rfl]) (by rw [set_rowAt hi, if_pos rfl])), ⟨rfl, trivial⟩, rfl⟩
      · exact ⟨⟨L.set i { rowAt L i with k := 15 + by' }, _, _⟩, fin3 _ 0 _ (by omega) rfl ⟨by show In64 (15 + by'); unfold In64; omega, hro.a, hro.b, hro.e, hro.p, hro.s, hro.x, hro.w, hro.ws, hro.xm, hro.wl, hro.wm⟩ (wrong_row (set_turned hi) (by rw [set_rowAt hi, if_pos rfl]; intro hg2; have := hg2.1; simp only at this; omega)), ⟨rfl, trivial⟩, rfl⟩
      · exact ⟨⟨L.set i { rowAt L i with b := (rowAt L i).b + 16 + by' }, _, _⟩, fin3 _ 2 _ (by omega) rfl ⟨hro.k, hro.a, by show In64 ((rowAt L i).b + 16 + by'); unfold In64; omega, hro.e, hro.p, hro.s, hro.x, hro.w, hro.ws, hro.xm, hro.wl, hro.wm⟩ (wrong_row (set_turned hi) (by rw [set_rowAt hi, if_pos rfl]; intro hg2; have := hg2.2.2.2; simp only at this; omega)), ⟨rfl, trivial⟩, rfl⟩
      · exact ⟨⟨L.set i { rowAt L i with k := 10 }, _, _⟩, fin3 _ 0 _ (by omega) rfl ⟨show In64 10 by unfold In64; omega, hro.a, hro.b, hro.e, hro.p, hro.s, hro.x, hro.w, hro.ws, hro.xm, hro.wl, hro.wm⟩ (wrong_row (set_turned hi) (by rw [set_rowAt hi, if_pos rfl]; intro hg2; exact hg2.2.1 rfl)), ⟨rfl, trivial⟩, rfl⟩
      · have happ := app_all hf (IsSl.badd (c := FL.cells (x13 ((L.length : Int) + 1))) hsL) bget_badd rfl (by decide) (bytes := 136) (by unfold maxRow; omega)
        obtain ⟨v2, bs2, hd2, hs2, _, _, _⟩ := happ
        have e2 : (L ++ [x13 ((L.length : Int) + 1)]).flatMap FL.cells = L.flatMap FL.cells ++ (x13 ((L.length : Int) + 1)).cells := by rw [List.flatMap_append, List.flatMap_cons, List.flatMap_nil, List.append_nil]
        have l2 : (L ++ [x13 ((L.length : Int) + 1)]).length = L.length + 1 := by rw [List.length_append]; rfl
        have ok2 : ∀ r ∈ L ++ [x13 ((L.length : Int) + 1)], r.Ok := fun r hr => by
          rcases List.mem_append.1 hr with hr | hr
          · exact hrows r hr
          · rw [List.mem_singleton.1 hr]; exact hx13
        rw [← e2, ← l2] at hs2
        have hfz2 := made_frz hs2 (by simp) ok2 (by omega)
        repeat' (first
            | refine WS.near rfl (o_litS (cs := FL.cells (x13 ((L.length : Int) + 1))) rfl) rfl ?_ | refine WS.near rfl hd2 rfl ?_ | refine WS.nil ?_ | fail)
        exact ⟨⟨L ++ [x13 ((L.length : Int) + 1)], v2, bs2⟩, ⟨hfz2, ok2, wrong_more (by omega) rfl, by rw [l2]; omega⟩, ⟨rfl, trivial⟩, rfl⟩
    · rintro ⟨L2, u2, bs2⟩ ⟨q1, q2, q3, q4⟩
      simp only at q1 q2 q3 q4 ⊢
      have hre2 := right_e (slV (L2.map FL.v)) L2 (slV_fz _) q2 (by omega)
      rw [q3] at hre2
      repeat' (first
          | refine WS.plain (p := [slV (L2.map FL.v)]) rfl rfl rfl q1 rfl hre2 ?_ | refine W.seq ?_ | refine W.region ?_ | refine WS.nil ?_ | refine W.ret ?_ | refine WS.near rfl o_notF rfl ?_ | fail)
      exact ⟨_, rfl, fin_bool rfl⟩
theorem law_w3 (n : ND) (hn : n.Ok) (hc : n.cnt < 2 ^ 22) (at' which by' : Int) : CallW D2 5 [n.v, i64 at', i64 which, i64 by'] Heap.empty fun v _ => v = .bool true :=
  (law_pu3 n hn hc at' which by' Heap.empty fine0).mono fun _ _ hc => hc.1
end Go.Proofs.YtfbikhkmamdjmaaDoor.CodesK
