/- Plans: a state after an act. -/
import Derived.Test.YtpaadclighadaaaDoorWG8
namespace Go.Proofs.YtpaadclighadaaaDoor.CodesG
open Go Go.Ab Go.Goap
set_option maxHeartbeats 800000
set_option maxRecDepth 100000

/-- what an act makes of a state -/
def stateF (d : DR) (l : List Int) (act : Int) : Option (List Int) := if 0 ≤ act ∧ act < (d.acts.length : Nat) then afterF d.dom l (d.acts.getD act.toNat default).a else none
def Ends (h0 : Heap) (o : Option (List Int)) (r : V) (h' : Heap) : Prop := ∃ bs, h' = hp h0 bs ∧ match o with
  | some L => ∃ u, r = .tup [u, .bool true] ∧ Made h0 bs u L
  | none => r = .tup [.nilsl, .bool false]
theorem ends_none {h0 : Heap} {bs : List (Option (List V))} {o : Option (List Int)} (e : o = none) : Ends (hp h0 []) o (.tup [.nilsl, .bool false]) (hp h0 bs) := ⟨bs, by rw [hp_nil], by rw [e]⟩
theorem ends_some {h0 : Heap} {bs : List (Option (List V))} {o : Option (List Int)} {u : V} {L : List Int} (e : o = some L) (m : Made h0 bs u L) : Ends (hp h0 []) o (.tup [u, .bool true]) (hp h0 bs) := ⟨bs, by rw [hp_nil], by rw [e, hp_nil]; exact ⟨u, rfl, m⟩⟩
theorem isl_above {h : Heap} {a b : List (Option (List V))} {sz n : Nat} {v : V} {row : List V} (hs : IsSl (hp h a) b sz v n row) : ∀ q x y z w, v = .msl (h.next + q) x y z w → a.length ≤ q := fun q x y z w e => by
  obtain ⟨h1, ⟨rfl, _⟩ | ⟨k, l, rfl, e2, e3, e4⟩⟩ := hs
  · cases e
  · simp only [V.msl.injEq] at e
    have : (hp h a).next = h.next + a.length := rfl
    omega
theorem cut_hp2 (d : DR) {v : V} {l : List Int} (hl : d.vars.length < 2 ^ 40) {h0 : Heap} {bs : List (Option (List V))} (hf : h0.Fine) (hb : IntsAt (hp h0 bs) v l) :
    CallW D1 30 [d.v, v] (hp h0 bs) fun r h' => ∃ bs', h' = hp h0 bs' ∧ Made h0 bs' r (cutF d.vars l) ∧ (∀ q c, bget bs q = some c → bget bs' q = some c) ∧ ∀ q x y z w, r = .msl (h0.next + q) x y z w → bs.length ≤ q :=
  (cut_w d hl _ (hp_fine hf) hb).mono fun r h' ⟨b2, e, m⟩ => ⟨bs ++ b2, by rw [e, hp_hp], isl_new m, fun q c e => bget_old e, isl_above m⟩
theorem cutR_hp2 (d : DR) {v : V} {l : List Int} (hl : d.vars.length < 2 ^ 40) {h0 : Heap} {bs : List (Option (List V))} (hf : h0.Fine) (hb : IntsAt (hp h0 bs) v l) :
    CallW D1 35 [d.v, v] (hp h0 bs) fun r h' => ∃ bs', h' = hp h0 bs' ∧ Made h0 bs' r (cutF d.vars l) ∧ (∀ q c, bget bs q = some c → bget bs' q = some c) ∧ ∀ q x y z w, r = .msl (h0.next + q) x y z w → bs.length ≤ q :=
  (cutR_w d hl _ (hp_fine hf) hb).mono fun r h' ⟨b2, e, m⟩ => ⟨bs ++ b2, by rw [e, hp_hp], isl_new m, fun q c e => bget_old e, isl_above m⟩
structure NIn (d : DR) : Prop where
  nd : ∀ r ∈ d.acts, r.a.need.length < 2 ^ 40

structure AS where
  k : Nat
  cur : List Int
  bs : List (Option (List V))
theorem make_in {d : DR} (hd : DIn d) {cur : List Int} (hc : ∀ i, In64 (cur.getD i 0)) (hl : cur.length = d.vars.length) (m : Mk) (hm : In64 m.n) (i : Nat) : In64 ((makeF d.vars cur m).getD i 0) := by
  unfold makeF
  cases hv : varI d.vars m.name with
  | none => exact hc i
  | some j =>
    have hj := (varI_lt hv).1
    simp only
    by_cases hij : j = i
    · subst hij
      have e : (cur.set j (turn (d.vars.getD j default) (cur.getD j 0) m)).getD j 0 = turn (d.vars.getD j default) (cur.getD j 0) m := by simp [List.getD, hl, hj]
      rw [e]
      have hv := hd.vars _ (getD_mem (d := default) hj)
      unfold turn
      refine within_in ?_ hv.1 hv.2
      split
      · exact sat_in _
      · exact hm
    · have e : (cur.set j (turn (d.vars.getD j default) (cur.getD j 0) m)).getD i 0 = cur.getD i 0 := by simp only [List.getD, List.getElem?_set, hij, if_false]
      rw [e]; exact hc i

theorem After_w (d : DR) (hd : DIn d) (hn : NIn d) {v : V} {l : List Int} (hli : ∀ i, In64 (l.getD i 0)) (act : Int) (h0 : Heap) (hf : h0.Fine) (hb : IntsAt h0 v l) :
    CallW D1 10 [d.v, v, i64 act] h0 (Ends h0 (stateF d l act)) := by
  have hml : (d.acts.map AR.v).length = d.acts.length := List.length_map ..
  have hna := hd.na
  have hl60 : d.vars.length < 2 ^ 60 := by have := hd.nv; omega
  refine CallW.open rfl rfl rfl rfl rfl ?_
  rw [← hp_nil (h0 := h0)]
  repeat' (first
      | refine WS.near rfl (o_lenZ d.has) rfl ?_ | refine W.seq ?_ | refine W.region ?_ | refine WS.nil ?_ | refine W.skip ?_ | refine W.block ?_ | refine W.ret ?_ | refine W.exit ?_ | refine W.yes rfl rfl ?_ | refine W.no rfl rfl ?_ | refine W.fork rfl (fun _ => ?_) (fun _ => ?_) | refine WS.guardT rfl ?_ | refine WS.guardF rfl rfl rfl ?_ | refine WS.guardK rfl (fun _ => ?_) (fun _ => ?_) | refine WS.near rfl o_mov rfl ?_ | refine WS.near rfl o_pickT rfl ?_ | refine WS.near rfl o_pickF rfl ?_ | refine WS.near rfl o_notT rfl ?_ | refine WS.near rfl o_notF rfl ?_ | refine WS.near rfl o_lss rfl ?_ | refine WS.near rfl o_geq rfl ?_ | refine WS.near rfl o_faddr rfl ?_ | refine WS.near rfl o_loadF rfl ?_ | refine WS.near rfl (o_loadH rfl) rfl ?_ | refine WS.near rfl (o_loadHN rfl rfl) rfl ?_ | refine WS.near rfl (o_boxH 0 rfl) rfl ?_ | refine WS.near rfl (o_add (by omega) (by omega)) rfl ?_
      | refine WS.near rfl (o_faddrF (Nat.le_of_ble_eq_true rfl)) rfl ?_)
  · rename_i h1
    exact ⟨_, rfl, ends_none (by unfold stateF; rw [if_neg (by omega)])⟩
  · rename_i h1 h2
    exact ⟨_, rfl, ends_none (by unfold stateF; rw [if_neg (by omega)])⟩
  rename_i h1 h2
  obtain ⟨t, rfl⟩ : ∃ t : Nat, act = (t : Nat) := ⟨act.toNat, by omega⟩
  have ht : t < d.acts.length := by omega
  have hst : stateF d l (t : Nat) = afterF d.dom l (d.acts.getD t default).a := by unfold stateF; rw [if_pos ⟨by omega, by omega⟩]; rfl
  have hMI := hd.acts _ (getD_mem (d := default) ht)
  have hNI := hn.nd _ (getD_mem (d := default) ht)
  have hat : ∀ {H : Heap}, Does (.iaddr 4 (.v d.acs) (.v (.int .i64 (t : Nat)))) H (.fptr (arC (d.acts.getD t default))) H := o_iaddrZ t d.has rfl (fz_at (d := default) t ht) rfl
  generalize d.acts.getD t default = r at hst hMI hNI hat
  rw [hst]
  unfold afterF
  refine WS.call rfl rfl (cut_hp2 d hd.nv hf (hb.hp hf)) fun u h' ⟨bs1, e, hm, hkeep, habove⟩ => ?_
  subst e
  have hb0 : bget bs1 0 = some d.cells := hkeep 0 _ rfl
  clear hkeep
  repeat' (first
      | refine WS.near rfl (o_loadH (hload_of hb0 rfl)) rfl ?_ | refine WS.near rfl hat rfl ?_ | refine WS.near rfl (o_loadA rfl) rfl ?_ | refine W.seq ?_ | refine W.region ?_ | refine WS.nil ?_ | refine W.skip ?_ | refine W.block ?_ | refine W.ret ?_ | refine W.exit ?_ | refine W.yes rfl rfl ?_ | refine W.no rfl rfl ?_ | refine W.fork rfl (fun _ => ?_) (fun _ => ?_) | refine WS.guardT rfl ?_ | refine WS.guardF rfl rfl rfl ?_ | refine WS.guardK rfl (fun _ => ?_) (fun _ => ?_) | refine WS.near rfl o_mov rfl ?_ | refine WS.near rfl o_pickT rfl ?_ | refine WS.near rfl o_pickF rfl ?_ | refine WS.near rfl o_notT rfl ?_ | refine WS.near rfl o_notF rfl ?_ | refine WS.near rfl o_lss rfl ?_ | refine WS.near rfl o_geq rfl ?_ | refine WS.near rfl o_faddr rfl ?_ | refine WS.near rfl o_loadF rfl ?_ | refine WS.near rfl (o_loadH rfl) rfl ?_ | refine WS.near rfl (o_loadHN rfl rfl) rfl ?_
      | refine WS.near rfl (o_boxH 0 rfl) rfl ?_ | refine WS.near rfl (o_add (by omega) (by omega)) rfl ?_ | refine WS.near rfl (o_faddrF (Nat.le_of_ble_eq_true rfl)) rfl ?_)
  refine WS.near rfl o_allocS rfl ?_
  refine WS.near rfl (o_storeH hf bget_badd rfl) rfl ?_
  have keep : ∀ q lq, bget bs1 q = some lq → bget (bput (badd bs1 [.str [], .int .i64 0, .nilsl, .nilsl]) bs1.length 0 4 (arC r)) q = some lq := fun q lq e => by
    rw [bget_bput_ne (by have := bget_lt e; omega)]
    exact bget_badd_lt e
  have g1 : bget (bput (badd bs1 [.str [], .int .i64 0, .nilsl, .nilsl]) bs1.length 0 4 (arC r)) bs1.length = some (arC r) := bget_bput (off := 0) (n := 4) (cs := arC r) bget_badd
  change WS D1 (capOfD c10.dep) [] _ (hp h0 (bput (badd bs1 [.str [], .int .i64 0, .nilsl, .nilsl]) bs1.length 0 4 (arC r))) _
  replace hb0 := keep _ _ hb0
  replace hm := hm.keep keep
  clear keep
  generalize bs1.length = K at g1 hb0 hm ⊢
  generalize bput (badd bs1 [.str [], .int .i64 0, .nilsl, .nilsl]) K 0 4 (arC r) = bs2 at g1 hb0 hm ⊢
  repeat' (first
      | refine WS.near rfl (o_loadHN hb0 rfl) rfl ?_ | refine WS.near rfl (o_loadH (hload_of g1 rfl)) rfl ?_ | refine W.seq ?_ | refine W.region ?_ | refine WS.nil ?_ | refine W.skip ?_ | refine W.block ?_ | refine W.ret ?_ | refine W.exit ?_ | refine W.yes rfl rfl ?_ | refine W.no rfl rfl ?_ | refine W.fork rfl (fun _ => ?_) (fun _ => ?_) | refine WS.guardT rfl ?_ | refine WS.guardF rfl rfl rfl ?_ | refine WS.guardK rfl (fun _ => ?_) (fun _ => ?_) | refine WS.near rfl o_mov rfl ?_ | refine WS.near rfl o_pickT rfl ?_ | refine WS.near rfl o_pickF rfl ?_ | refine WS.near rfl o_notT rfl ?_ | refine WS.near rfl o_notF rfl ?_ | refine WS.near rfl o_lss rfl ?_ | refine WS.near rfl o_geq rfl ?_ | refine WS.near rfl o_faddr rfl ?_ | refine WS.near rfl o_loadF rfl ?_ | refine WS.near rfl (o_loadH rfl) rfl ?_ | refine WS.near rfl (o_loadHN rfl rfl) rfl ?_ | refine WS.near rfl (o_boxH 0 rfl) rfl ?_
      | refine WS.near rfl (o_add (by omega) (by omega)) rfl ?_ | refine WS.near rfl (o_faddrF (Nat.le_of_ble_eq_true rfl)) rfl ?_)
  refine WS.puC hf hm.ints rfl rfl (all_pu d r.hnd (by omega) hl60 (cut_len _ _)) ?_
  cases hall : allF d.vars (cutF d.vars l) r.a.need with
  | false =>
    repeat' (first
        | refine W.seq ?_ | refine W.region ?_ | refine WS.nil ?_ | refine W.skip ?_ | refine W.block ?_ | refine W.ret ?_ | refine W.exit ?_ | refine W.yes rfl rfl ?_ | refine W.no rfl rfl ?_ | refine W.fork rfl (fun _ => ?_) (fun _ => ?_) | refine WS.guardT rfl ?_ | refine WS.guardF rfl rfl rfl ?_ | refine WS.guardK rfl (fun _ => ?_) (fun _ => ?_) | refine WS.near rfl o_mov rfl ?_ | refine WS.near rfl o_pickT rfl ?_ | refine WS.near rfl o_pickF rfl ?_ | refine WS.near rfl o_notT rfl ?_ | refine WS.near rfl o_notF rfl ?_ | refine WS.near rfl o_lss rfl ?_ | refine WS.near rfl o_geq rfl ?_ | refine WS.near rfl o_faddr rfl ?_ | refine WS.near rfl o_loadF rfl ?_ | refine WS.near rfl (o_loadH rfl) rfl ?_ | refine WS.near rfl (o_loadHN rfl rfl) rfl ?_ | refine WS.near rfl (o_boxH 0 rfl) rfl ?_ | refine WS.near rfl (o_add (by omega) (by omega)) rfl ?_
        | refine WS.near rfl (o_faddrF (Nat.le_of_ble_eq_true rfl)) rfl ?_)
    exact ⟨_, rfl, ends_none (by rw [show allF d.dom.vars (cutF d.dom.vars l) r.a.need = false from hall]; rfl)⟩
  | true =>
    have hmk : (r.a.make.map mkV).length = r.a.make.length := List.length_map ..
    obtain ⟨hmi, hmn⟩ := hMI
    repeat' (first
        | refine WS.near rfl (o_loadH (hload_of g1 rfl)) rfl ?_ | refine WS.near rfl (o_lenZ r.hmk) rfl ?_ | refine W.seq ?_ | refine W.region ?_ | refine WS.nil ?_ | refine W.skip ?_ | refine W.block ?_ | refine W.ret ?_ | refine W.exit ?_ | refine W.yes rfl rfl ?_ | refine W.no rfl rfl ?_ | refine W.fork rfl (fun _ => ?_) (fun _ => ?_) | refine WS.guardT rfl ?_ | refine WS.guardF rfl rfl rfl ?_ | refine WS.guardK rfl (fun _ => ?_) (fun _ => ?_) | refine WS.near rfl o_mov rfl ?_ | refine WS.near rfl o_pickT rfl ?_ | refine WS.near rfl o_pickF rfl ?_ | refine WS.near rfl o_notT rfl ?_ | refine WS.near rfl o_notF rfl ?_ | refine WS.near rfl o_lss rfl ?_ | refine WS.near rfl o_geq rfl ?_ | refine WS.near rfl o_faddr rfl ?_ | refine WS.near rfl o_loadF rfl ?_ | refine WS.near rfl (o_loadH rfl) rfl ?_ | refine WS.near rfl (o_loadHN rfl rfl) rfl ?_ | refine WS.near rfl (o_boxH 0 rfl) rfl ?_
        | refine WS.near rfl (o_add (by omega) (by omega)) rfl ?_ | refine WS.near rfl (o_faddrF (Nat.le_of_ble_eq_true rfl)) rfl ?_)
    refine W.loop (fun a : AS => [(3, .mptr (h0.next + 0) 0), (6, u), (28, r.mks), (29, .int .i64 ((r.a.make.map mkV).length : Nat)), (30, .int .i64 (a.k : Nat))]) (fun a => hp h0 a.bs)
      (fun a => a.k ≤ r.a.make.length ∧ bget a.bs 0 = some d.cells ∧ Made h0 a.bs u a.cur ∧ a.cur.length = d.vars.length ∧ (∀ i, In64 (a.cur.getD i 0)) ∧ (r.a.make.drop a.k).foldl (makeF d.vars) a.cur = makesF d.vars (cutF d.vars l) r.a.make) (fun a => r.a.make.length - a.k)
      ⟨0, cutF d.vars l, bs2⟩ ⟨Nat.zero_le _, hb0, hm, cut_len _ _, cut_in hd hli, by rw [List.drop_zero]; rfl⟩ ⟨rfl, rfl, rfl, rfl, rfl, trivial⟩ rfl ?_
    clear hb0 hm g1
    rintro ⟨k, cur, bs⟩ ⟨hk, hb0, hm, hcl, hci, hr⟩
    simp only at hk hb0 hm hcl hci hr ⊢
    repeat' (first
        | refine W.seq ?_ | refine W.region ?_ | refine WS.nil ?_ | refine W.skip ?_ | refine W.block ?_ | refine W.ret ?_ | refine W.exit ?_ | refine W.yes rfl rfl ?_ | refine W.no rfl rfl ?_ | refine W.fork rfl (fun _ => ?_) (fun _ => ?_) | refine WS.guardT rfl ?_ | refine WS.guardF rfl rfl rfl ?_ | refine WS.guardK rfl (fun _ => ?_) (fun _ => ?_) | refine WS.near rfl o_mov rfl ?_ | refine WS.near rfl o_pickT rfl ?_ | refine WS.near rfl o_pickF rfl ?_ | refine WS.near rfl o_notT rfl ?_ | refine WS.near rfl o_notF rfl ?_ | refine WS.near rfl o_lss rfl ?_ | refine WS.near rfl o_geq rfl ?_ | refine WS.near rfl o_faddr rfl ?_ | refine WS.near rfl o_loadF rfl ?_ | refine WS.near rfl (o_loadH rfl) rfl ?_ | refine WS.near rfl (o_loadHN rfl rfl) rfl ?_ | refine WS.near rfl (o_boxH 0 rfl) rfl ?_ | refine WS.near rfl (o_add (by omega) (by omega)) rfl ?_
        | refine WS.near rfl (o_faddrF (Nat.le_of_ble_eq_true rfl)) rfl ?_)
    · have hlt : k < r.a.make.length := by omega
      rw [fold_drop (d := default) hlt] at hr
      have hmn64 := hmi _ (getD_mem (d := default) hlt)
      refine WS.near rfl (o_iaddrZ k r.hmk rfl (fz_at (d := default) k hlt) rfl) rfl ?_
      generalize r.a.make.getD k default = m at hr hmn64 ⊢
      have hin := make_in hd hci hcl m hmn64
      have hnl := make_len d.vars cur m
      repeat' (first
          | refine WS.near rfl (o_loadA rfl) rfl ?_ | refine W.seq ?_ | refine W.region ?_ | refine WS.nil ?_ | refine W.skip ?_ | refine W.block ?_ | refine W.ret ?_ | refine W.exit ?_ | refine W.yes rfl rfl ?_ | refine W.no rfl rfl ?_ | refine W.fork rfl (fun _ => ?_) (fun _ => ?_) | refine WS.guardT rfl ?_ | refine WS.guardF rfl rfl rfl ?_ | refine WS.guardK rfl (fun _ => ?_) (fun _ => ?_) | refine WS.near rfl o_mov rfl ?_ | refine WS.near rfl o_pickT rfl ?_ | refine WS.near rfl o_pickF rfl ?_ | refine WS.near rfl o_notT rfl ?_ | refine WS.near rfl o_notF rfl ?_ | refine WS.near rfl o_lss rfl ?_ | refine WS.near rfl o_geq rfl ?_ | refine WS.near rfl o_faddr rfl ?_ | refine WS.near rfl o_loadF rfl ?_ | refine WS.near rfl (o_loadH rfl) rfl ?_ | refine WS.near rfl (o_loadHN rfl rfl) rfl ?_ | refine WS.near rfl (o_boxH 0 rfl) rfl ?_ | refine WS.near rfl (o_add (by omega) (by omega)) rfl ?_
          | refine WS.near rfl (o_faddrF (Nat.le_of_ble_eq_true rfl)) rfl ?_)
      refine WS.near rfl o_allocS rfl ?_
      refine WS.near rfl (o_storeH hf bget_badd rfl) rfl ?_
      have keep : ∀ q lq, bget bs q = some lq → bget (bput (badd bs [.str [], .bool false, .int .i64 0]) bs.length 0 3 (mkC m)) q = some lq := fun q lq e => by
        rw [bget_bput_ne (by have := bget_lt e; omega)]
        exact bget_badd_lt e
      have g1 : bget (bput (badd bs [.str [], .bool false, .int .i64 0]) bs.length 0 3 (mkC m)) bs.length = some (mkC m) := bget_bput (off := 0) (n := 3) (cs := mkC m) bget_badd
      change WS D1 (capOfD c10.dep) [] _ (hp h0 (bput (badd bs [.str [], .bool false, .int .i64 0]) bs.length 0 3 (mkC m))) _
      replace hb0 := keep _ _ hb0
      replace hm := hm.keep keep
      clear keep
      generalize bs.length = K at g1 hb0 hm ⊢
      generalize bput (badd bs [.str [], .bool false, .int .i64 0]) K 0 3 (mkC m) = bs3 at g1 hb0 hm ⊢
      have e1 : (k : Int) + 1 = ((k + 1 : Nat) : Int) := by omega
      have hvp := variable_pu d m.name hl60
      repeat' (first
          | refine WS.near rfl (o_loadHN hb0 rfl) rfl ?_ | refine WS.near rfl (o_loadH (hload_of g1 rfl)) rfl ?_ | refine W.seq ?_ | refine W.region ?_ | refine WS.nil ?_ | refine W.skip ?_ | refine W.block ?_ | refine W.ret ?_ | refine W.exit ?_ | refine W.yes rfl rfl ?_ | refine W.no rfl rfl ?_ | refine W.fork rfl (fun _ => ?_) (fun _ => ?_) | refine WS.guardT rfl ?_ | refine WS.guardF rfl rfl rfl ?_ | refine WS.guardK rfl (fun _ => ?_) (fun _ => ?_) | refine WS.near rfl o_mov rfl ?_ | refine WS.near rfl o_pickT rfl ?_ | refine WS.near rfl o_pickF rfl ?_ | refine WS.near rfl o_notT rfl ?_ | refine WS.near rfl o_notF rfl ?_ | refine WS.near rfl o_lss rfl ?_ | refine WS.near rfl o_geq rfl ?_ | refine WS.near rfl o_faddr rfl ?_ | refine WS.near rfl o_loadF rfl ?_ | refine WS.near rfl (o_loadH rfl) rfl ?_ | refine WS.near rfl (o_loadHN rfl rfl) rfl ?_ | refine WS.near rfl (o_boxH 0 rfl) rfl ?_
          | refine WS.near rfl (o_add (by omega) (by omega)) rfl ?_ | refine WS.near rfl (o_faddrF (Nat.le_of_ble_eq_true rfl)) rfl ?_)
      refine WS.puF hf rfl rfl hvp ?_
      cases hv : varI d.vars m.name with
      | none =>
        have hmf : makeF d.vars cur m = cur := by unfold makeF; rw [hv]
        rw [hmf] at hr
        repeat' (first
            | refine W.seq ?_ | refine W.region ?_ | refine WS.nil ?_ | refine W.skip ?_ | refine W.block ?_ | refine W.ret ?_ | refine W.exit ?_ | refine W.yes rfl rfl ?_ | refine W.no rfl rfl ?_ | refine W.fork rfl (fun _ => ?_) (fun _ => ?_) | refine WS.guardT rfl ?_ | refine WS.guardF rfl rfl rfl ?_ | refine WS.guardK rfl (fun _ => ?_) (fun _ => ?_) | refine WS.near rfl o_mov rfl ?_ | refine WS.near rfl o_pickT rfl ?_ | refine WS.near rfl o_pickF rfl ?_ | refine WS.near rfl o_notT rfl ?_ | refine WS.near rfl o_notF rfl ?_ | refine WS.near rfl o_lss rfl ?_ | refine WS.near rfl o_geq rfl ?_ | refine WS.near rfl o_faddr rfl ?_ | refine WS.near rfl o_loadF rfl ?_ | refine WS.near rfl (o_loadH rfl) rfl ?_ | refine WS.near rfl (o_loadHN rfl rfl) rfl ?_ | refine WS.near rfl (o_boxH 0 rfl) rfl ?_ | refine WS.near rfl (o_add (by omega) (by omega)) rfl ?_
            | refine WS.near rfl (o_faddrF (Nat.le_of_ble_eq_true rfl)) rfl ?_)
        exact ⟨⟨k + 1, cur, bs3⟩, ⟨by show k + 1 ≤ _; omega, hb0, hm, hcl, hci, hr⟩, by show r.a.make.length - (k + 1) < r.a.make.length - k; omega, ⟨rfl, rfl, rfl, rfl, congrArg (fun z => some (V.int .i64 z)) e1, trivial⟩, rfl⟩
      | some j =>
        have hj := (varI_lt hv).1
        have hmf : makeF d.vars cur m = cur.set j (turn (d.vars.getD j default) (cur.getD j 0) m) := by unfold makeF; rw [hv]
        obtain ⟨a, d1, d2⟩ := o_at (k := .i64) j hm.ints rfl (by omega : j < cur.length)
        obtain ⟨w, hw⟩ : ∃ w, w = turn (d.vars.getD j default) (cur.getD j 0) m := ⟨_, rfl⟩
        rw [← hw] at hmf
        obtain ⟨q, cq, hu, hq1, hq2, hm2⟩ := hm.put (by omega : j < cur.length) w
        have hq0 : q ≠ 0 := by
          have : 1 ≤ q := habove q _ _ _ _ hu
          omega
        have dI : ∀ {H : Heap}, Does (.iaddr 1 (.v u) (.v (.int .i64 (j : Nat)))) H (.mptr (h0.next + q) j) H := fun {H} => by
          rw [hu]
          have := o_iaddrM (h := H) (id := h0.next + q) (off := 0) (n := j) (cap := none) (k := .i64) (a := (j : Nat)) (sz := 1) (len := cur.length) rfl (by omega)
          rwa [show (0 + j) * 1 = j by omega] at this
        have e9 : bget (bput bs3 q j 1 [i64 w]) 0 = some d.cells := by rw [bget_bput_ne (Ne.symm hq0)]; exact hb0
        rw [hmf] at hr hnl hin
        cases hadd : m.add with
        | true =>
          have g2 : bget bs3 K = some [.str m.name, .bool true, i64 m.n] := by rw [g1, ← hadd]; rfl
          repeat' (first
              | refine WS.near rfl (o_loadH (hload_of g2 rfl)) rfl ?_ | refine WS.near rfl d1 rfl ?_ | refine WS.near rfl d2 rfl ?_ | refine W.seq ?_ | refine W.region ?_ | refine WS.nil ?_ | refine W.skip ?_ | refine W.block ?_ | refine W.ret ?_ | refine W.exit ?_ | refine W.yes rfl rfl ?_ | refine W.no rfl rfl ?_ | refine W.fork rfl (fun _ => ?_) (fun _ => ?_) | refine WS.guardT rfl ?_ | refine WS.guardF rfl rfl rfl ?_ | refine WS.guardK rfl (fun _ => ?_) (fun _ => ?_) | refine WS.near rfl o_mov rfl ?_ | refine WS.near rfl o_pickT rfl ?_ | refine WS.near rfl o_pickF rfl ?_ | refine WS.near rfl o_notT rfl ?_ | refine WS.near rfl o_notF rfl ?_ | refine WS.near rfl o_lss rfl ?_ | refine WS.near rfl o_geq rfl ?_ | refine WS.near rfl o_faddr rfl ?_ | refine WS.near rfl o_loadF rfl ?_ | refine WS.near rfl (o_loadH rfl) rfl ?_ | refine WS.near rfl (o_loadHN rfl rfl) rfl ?_
              | refine WS.near rfl (o_boxH 0 rfl) rfl ?_ | refine WS.near rfl (o_add (by omega) (by omega)) rfl ?_ | refine WS.near rfl (o_faddrF (Nat.le_of_ble_eq_true rfl)) rfl ?_)
          refine WS.puF hf rfl rfl (add_pu (a := cur.getD j 0) (b := m.n) (hci j) hmn64) ?_
          repeat' (first
              | refine WS.near rfl (o_loadH (hload_of hb0 rfl)) rfl ?_ | refine WS.near rfl (o_iaddrZ j d.hvs rfl (fz_at (d := default) j hj) rfl) rfl ?_ | refine W.seq ?_ | refine W.region ?_ | refine WS.nil ?_ | refine W.skip ?_ | refine W.block ?_ | refine W.ret ?_ | refine W.exit ?_ | refine W.yes rfl rfl ?_ | refine W.no rfl rfl ?_ | refine W.fork rfl (fun _ => ?_) (fun _ => ?_) | refine WS.guardT rfl ?_ | refine WS.guardF rfl rfl rfl ?_ | refine WS.guardK rfl (fun _ => ?_) (fun _ => ?_) | refine WS.near rfl o_mov rfl ?_ | refine WS.near rfl o_pickT rfl ?_ | refine WS.near rfl o_pickF rfl ?_ | refine WS.near rfl o_notT rfl ?_ | refine WS.near rfl o_notF rfl ?_ | refine WS.near rfl o_lss rfl ?_ | refine WS.near rfl o_geq rfl ?_ | refine WS.near rfl o_faddr rfl ?_ | refine WS.near rfl o_loadF rfl ?_ | refine WS.near rfl (o_loadH rfl) rfl ?_ | refine WS.near rfl (o_loadHN rfl rfl) rfl ?_
              | refine WS.near rfl (o_boxH 0 rfl) rfl ?_ | refine WS.near rfl (o_add (by omega) (by omega)) rfl ?_ | refine WS.near rfl (o_faddrF (Nat.le_of_ble_eq_true rfl)) rfl ?_)
          refine WS.puF hf rfl rfl (within_pu (sat (cur.getD j 0 + m.n)) (d.vars.getD j default).low (d.vars.getD j default).high) ?_
          have hwz : cutIn ((sat (cur.getD j 0 + m.n))) (d.vars.getD j default).low (d.vars.getD j default).high = w := by rw [hw]; unfold turn; rw [hadd]; rfl
          rw [hwz]
          repeat' (first
              | refine WS.near rfl dI rfl ?_ | refine W.seq ?_ | refine W.region ?_ | refine WS.nil ?_ | refine W.skip ?_ | refine W.block ?_ | refine W.ret ?_ | refine W.exit ?_ | refine W.yes rfl rfl ?_ | refine W.no rfl rfl ?_ | refine W.fork rfl (fun _ => ?_) (fun _ => ?_) | refine WS.guardT rfl ?_ | refine WS.guardF rfl rfl rfl ?_ | refine WS.guardK rfl (fun _ => ?_) (fun _ => ?_) | refine WS.near rfl o_mov rfl ?_ | refine WS.near rfl o_pickT rfl ?_ | refine WS.near rfl o_pickF rfl ?_ | refine WS.near rfl o_notT rfl ?_ | refine WS.near rfl o_notF rfl ?_ | refine WS.near rfl o_lss rfl ?_ | refine WS.near rfl o_geq rfl ?_ | refine WS.near rfl o_faddr rfl ?_ | refine WS.near rfl o_loadF rfl ?_ | refine WS.near rfl (o_loadH rfl) rfl ?_ | refine WS.near rfl (o_loadHN rfl rfl) rfl ?_ | refine WS.near rfl (o_boxH 0 rfl) rfl ?_ | refine WS.near rfl (o_add (by omega) (by omega)) rfl ?_
              | refine WS.near rfl (o_faddrF (Nat.le_of_ble_eq_true rfl)) rfl ?_)
          refine WS.near rfl (o_storeH (k := q) (off := j) (l := cq) hf hq1 (by rw [Bool.and_eq_true]; exact ⟨rfl, by rw [lenL_eq, Nat.ble_eq]; omega⟩)) rfl ?_
          repeat' (first
              | refine W.seq ?_ | refine W.region ?_ | refine WS.nil ?_ | refine W.skip ?_ | refine W.block ?_ | refine W.ret ?_ | refine W.exit ?_ | refine W.yes rfl rfl ?_ | refine W.no rfl rfl ?_ | refine W.fork rfl (fun _ => ?_) (fun _ => ?_) | refine WS.guardT rfl ?_ | refine WS.guardF rfl rfl rfl ?_ | refine WS.guardK rfl (fun _ => ?_) (fun _ => ?_) | refine WS.near rfl o_mov rfl ?_ | refine WS.near rfl o_pickT rfl ?_ | refine WS.near rfl o_pickF rfl ?_ | refine WS.near rfl o_notT rfl ?_ | refine WS.near rfl o_notF rfl ?_ | refine WS.near rfl o_lss rfl ?_ | refine WS.near rfl o_geq rfl ?_ | refine WS.near rfl o_faddr rfl ?_ | refine WS.near rfl o_loadF rfl ?_ | refine WS.near rfl (o_loadH rfl) rfl ?_ | refine WS.near rfl (o_loadHN rfl rfl) rfl ?_ | refine WS.near rfl (o_boxH 0 rfl) rfl ?_ | refine WS.near rfl (o_add (by omega) (by omega)) rfl ?_
              | refine WS.near rfl (o_faddrF (Nat.le_of_ble_eq_true rfl)) rfl ?_)
          exact ⟨⟨k + 1, cur.set j w, bput bs3 q j 1 [i64 w]⟩, ⟨by show k + 1 ≤ _; omega, e9, hm2, by show (cur.set j w).length = _; rw [List.length_set]; exact hcl, hin, hr⟩, by show r.a.make.length - (k + 1) < r.a.make.length - k; omega, ⟨rfl, rfl, rfl, rfl, congrArg (fun z => some (V.int .i64 z)) e1, trivial⟩, rfl⟩
        | false =>
          have g2 : bget bs3 K = some [.str m.name, .bool false, i64 m.n] := by rw [g1, ← hadd]; rfl
          repeat' (first
              | refine WS.near rfl (o_loadH (hload_of g2 rfl)) rfl ?_ | refine WS.near rfl (o_loadH (hload_of hb0 rfl)) rfl ?_ | refine WS.near rfl (o_iaddrZ j d.hvs rfl (fz_at (d := default) j hj) rfl) rfl ?_ | refine W.seq ?_ | refine W.region ?_ | refine WS.nil ?_ | refine W.skip ?_ | refine W.block ?_ | refine W.ret ?_ | refine W.exit ?_ | refine W.yes rfl rfl ?_ | refine W.no rfl rfl ?_ | refine W.fork rfl (fun _ => ?_) (fun _ => ?_) | refine WS.guardT rfl ?_ | refine WS.guardF rfl rfl rfl ?_ | refine WS.guardK rfl (fun _ => ?_) (fun _ => ?_) | refine WS.near rfl o_mov rfl ?_ | refine WS.near rfl o_pickT rfl ?_ | refine WS.near rfl o_pickF rfl ?_ | refine WS.near rfl o_notT rfl ?_ | refine WS.near rfl o_notF rfl ?_ | refine WS.near rfl o_lss rfl ?_ | refine WS.near rfl o_geq rfl ?_ | refine WS.near rfl o_faddr rfl ?_ | refine WS.near rfl o_loadF rfl ?_ | refine WS.near rfl (o_loadH rfl) rfl ?_
              | refine WS.near rfl (o_loadHN rfl rfl) rfl ?_ | refine WS.near rfl (o_boxH 0 rfl) rfl ?_ | refine WS.near rfl (o_add (by omega) (by omega)) rfl ?_ | refine WS.near rfl (o_faddrF (Nat.le_of_ble_eq_true rfl)) rfl ?_)
          refine WS.puF hf rfl rfl (within_pu m.n (d.vars.getD j default).low (d.vars.getD j default).high) ?_
          have hwz : cutIn (m.n) (d.vars.getD j default).low (d.vars.getD j default).high = w := by rw [hw]; unfold turn; rw [hadd]; rfl
          rw [hwz]
          repeat' (first
              | refine WS.near rfl dI rfl ?_ | refine W.seq ?_ | refine W.region ?_ | refine WS.nil ?_ | refine W.skip ?_ | refine W.block ?_ | refine W.ret ?_ | refine W.exit ?_ | refine W.yes rfl rfl ?_ | refine W.no rfl rfl ?_ | refine W.fork rfl (fun _ => ?_) (fun _ => ?_) | refine WS.guardT rfl ?_ | refine WS.guardF rfl rfl rfl ?_ | refine WS.guardK rfl (fun _ => ?_) (fun _ => ?_) | refine WS.near rfl o_mov rfl ?_ | refine WS.near rfl o_pickT rfl ?_ | refine WS.near rfl o_pickF rfl ?_ | refine WS.near rfl o_notT rfl ?_ | refine WS.near rfl o_notF rfl ?_ | refine WS.near rfl o_lss rfl ?_ | refine WS.near rfl o_geq rfl ?_ | refine WS.near rfl o_faddr rfl ?_ | refine WS.near rfl o_loadF rfl ?_ | refine WS.near rfl (o_loadH rfl) rfl ?_ | refine WS.near rfl (o_loadHN rfl rfl) rfl ?_ | refine WS.near rfl (o_boxH 0 rfl) rfl ?_ | refine WS.near rfl (o_add (by omega) (by omega)) rfl ?_
              | refine WS.near rfl (o_faddrF (Nat.le_of_ble_eq_true rfl)) rfl ?_)
          refine WS.near rfl (o_storeH (k := q) (off := j) (l := cq) hf hq1 (by rw [Bool.and_eq_true]; exact ⟨rfl, by rw [lenL_eq, Nat.ble_eq]; omega⟩)) rfl ?_
          repeat' (first
              | refine W.seq ?_ | refine W.region ?_ | refine WS.nil ?_ | refine W.skip ?_ | refine W.block ?_ | refine W.ret ?_ | refine W.exit ?_ | refine W.yes rfl rfl ?_ | refine W.no rfl rfl ?_ | refine W.fork rfl (fun _ => ?_) (fun _ => ?_) | refine WS.guardT rfl ?_ | refine WS.guardF rfl rfl rfl ?_ | refine WS.guardK rfl (fun _ => ?_) (fun _ => ?_) | refine WS.near rfl o_mov rfl ?_ | refine WS.near rfl o_pickT rfl ?_ | refine WS.near rfl o_pickF rfl ?_ | refine WS.near rfl o_notT rfl ?_ | refine WS.near rfl o_notF rfl ?_ | refine WS.near rfl o_lss rfl ?_ | refine WS.near rfl o_geq rfl ?_ | refine WS.near rfl o_faddr rfl ?_ | refine WS.near rfl o_loadF rfl ?_ | refine WS.near rfl (o_loadH rfl) rfl ?_ | refine WS.near rfl (o_loadHN rfl rfl) rfl ?_ | refine WS.near rfl (o_boxH 0 rfl) rfl ?_ | refine WS.near rfl (o_add (by omega) (by omega)) rfl ?_
              | refine WS.near rfl (o_faddrF (Nat.le_of_ble_eq_true rfl)) rfl ?_)
          exact ⟨⟨k + 1, cur.set j w, bput bs3 q j 1 [i64 w]⟩, ⟨by show k + 1 ≤ _; omega, e9, hm2, by show (cur.set j w).length = _; rw [List.length_set]; exact hcl, hin, hr⟩, by show r.a.make.length - (k + 1) < r.a.make.length - k; omega, ⟨rfl, rfl, rfl, rfl, congrArg (fun z => some (V.int .i64 z)) e1, trivial⟩, rfl⟩
    · have hge : r.a.make.drop k = [] := List.drop_eq_nil_of_le (by omega)
      rw [hge] at hr
      exact ⟨_, rfl, ends_some (by rw [if_pos (show allF d.dom.vars (cutF d.dom.vars l) r.a.need = true from hall), ← (show makesF d.dom.vars (cutF d.dom.vars l) r.a.make = cur from hr.symm)]) hm⟩
end Go.Proofs.YtpaadclighadaaaDoor.CodesG
