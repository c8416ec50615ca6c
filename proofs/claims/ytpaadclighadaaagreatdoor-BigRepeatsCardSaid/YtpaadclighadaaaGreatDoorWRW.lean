/- BigRepeats: what is repeated is well after so many ticks. -/
import Derived.Test.YtpaadclighadaaaGreatDoorWRA
import Derived.Test.YtpaadclighadaaaGreatDoorWRB
import Derived.Test.YtpaadclighadaaaGreatDoorWRC
import Derived.Test.YtpaadclighadaaaGreatDoorWRD
namespace Go.Proofs.YtpaadclighadaaaGreatDoor.CodesR
open Go Go.Ab
set_option maxHeartbeats 800000
set_option maxRecDepth 100000

theorem rep_all (n : Nat) (h1 : 1 ≤ n) (h2 : n ≤ 20) : repAll n = true := by
  match n, h1, h2 with
  | 0, h, _ => omega
  | 1, _, _ => exact rep1
  | 2, _, _ => exact rep2
  | 3, _, _ => exact rep3
  | 4, _, _ => exact rep4
  | 5, _, _ => exact rep5
  | 6, _, _ => exact rep6
  | 7, _, _ => exact rep7
  | 8, _, _ => exact rep8
  | 9, _, _ => exact rep9
  | 10, _, _ => exact rep10
  | 11, _, _ => exact rep11
  | 12, _, _ => exact rep12
  | 13, _, _ => exact rep13
  | 14, _, _ => exact rep14
  | 15, _, _ => exact rep15
  | 16, _, _ => exact rep16
  | 17, _, _ => exact rep17
  | 18, _, _ => exact rep18
  | 19, _, _ => exact rep19
  | 20, _, _ => exact rep20
  | k + 21, _, h => omega
theorem rep_tick {n c o : Nat} (h1 : 1 ≤ n) (h2 : n ≤ 20) (hc : c < n) (ho1 : 1 ≤ o) (ho : o ≤ 3) {s : V} (hs : s = stV c 0 ∨ s = stV c 1 ∨ (s = .nilsl ∧ c = 0)) :
    CallW D3 15 [repV n, s, envV [120] (o : Nat)] Heap.empty fun v h1 => V.own v = true ∧ Go.Ab.freeze h1.clean 0 fuelF v = some (repA n c o) := by
  obtain ⟨p, rfl⟩ : ∃ p, o = p + 1 := ⟨o - 1, by omega⟩
  have h := upto_spec (upto_spec (rep_all n h1 h2) c hc) p (by omega)
  unfold repTs at h
  split at h
  · rename_i ha
    split at h
    · rename_i hb
      rcases hs with rfl | rfl | ⟨rfl, rfl⟩
      · exact evalF (n := 100000) (isV_spec ha)
      · exact evalF (n := 100000) (isV_spec hb)
      · exact evalF (n := 100000) (isV_spec h)
    · cases h
  · cases h
noncomputable def D4 : OCtx := layer D3 (fun _ => false) (fun f => Nat.beq f 15)
theorem alive_pu : PuF D4 14 [] (.bool true) := PuF.orc (D := D4) (g := fun a h => match rows l1 14 a with
  | some u => some (.ret u, h)
  | none => none) rfl fun _ => rfl

theorem keep2 {b0 b1 : Option (List V)} {junk : List (Option (List V))} {c z cs : List V} : ∃ j, bput (badd (badd (b0 :: b1 :: junk) c) z) (badd (b0 :: b1 :: junk) c).length 0 4 cs = b0 :: b1 :: j := ⟨_, rfl⟩
structure RS where
  i : Nat
  c : Nat
  s : V
  junk : List (Option (List V))
def kidB : List V := [i64 9, i64 0, i64 0, .str [120], i64 0, i64 0, .str [], .nilsl, .nilsl, .nilsl]
def topB (h : Heap) (n : Int) : List V := [i64 6, i64 n, i64 0, .str [], i64 0, i64 0, .str [], .nilsl, .msl (h.next + 0) 10 0 1 none, .nilsl]
theorem rep_ans (n c o : Nat) (ho1 : 1 ≤ o) (ho : o ≤ 3) : ∃ (z : Int) (c' d' : Nat), repA n c o = .agg [i64 z, i64 2, .fsl [deedV [120] o] none, stV c' d'] ∧ d' ≤ 1 ∧ (o = 1 → c + 1 = n → z = 1 ∧ c' = 0) ∧ (o = 1 → c + 1 ≠ n → z = 3 ∧ c' = c + 1) ∧ (o = 2 → z = 2 ∧ c' = 0) ∧ (o = 3 → z = 3 ∧ c' = c) := by
  rcases (by omega : o = 1 ∨ o = 2 ∨ o = 3) with rfl | rfl | rfl
  · unfold repA
    simp only
    split
    · rename_i hb
      have := Nat.eq_of_beq_eq_true hb
      exact ⟨1, 0, 0, rfl, by omega, fun _ _ => ⟨rfl, rfl⟩, fun _ h => absurd this h, by omega, by omega⟩
    · rename_i hb
      have := Nat.ne_of_beq_eq_false hb
      exact ⟨3, c + 1, 0, rfl, by omega, fun _ h => absurd h this, fun _ _ => ⟨rfl, rfl⟩, by omega, by omega⟩
  · exact ⟨2, 0, 0, rfl, by omega, by omega, by omega, fun _ => ⟨rfl, rfl⟩, by omega⟩
  · exact ⟨3, c, 1, rfl, by omega, by omega, by omega, by omega, fun _ => ⟨rfl, rfl⟩⟩

theorem law_r (n : Int) (u : V) (l : List Int) (hu : IsInts u l) : PuF D4 4 [.int .i64 n, u] (.bool true) := by
  refine PuF.tidy rfl rfl rfl rfl rfl fun h hf => ?_
  repeat' (first
      | refine W.seq ?_ | refine W.region ?_ | refine WS.nil ?_ | refine W.skip ?_ | refine W.block ?_ | refine W.ret ?_ | refine W.exit ?_ | refine W.yes rfl rfl ?_ | refine W.fork rfl (fun _ => ?_) (fun _ => ?_) | refine WS.guardT rfl ?_ | refine WS.guardF rfl rfl rfl ?_ | refine WS.guardK rfl (fun _ => ?_) (fun _ => ?_) | refine WS.near rfl o_mov rfl ?_ | refine WS.near rfl o_pickT rfl ?_ | refine WS.near rfl o_pickF rfl ?_ | refine WS.near rfl o_notT rfl ?_ | refine WS.near rfl o_lss rfl ?_ | refine WS.near rfl o_gtr rfl ?_ | refine WS.near rfl o_eql rfl ?_ | refine WS.near rfl o_neq rfl ?_ | refine WS.near rfl o_lenF rfl ?_ | refine WS.near rfl o_faddr rfl ?_ | refine WS.near rfl o_loadF rfl ?_ | refine WS.near rfl (o_build rfl) rfl ?_ | refine WS.near rfl (o_loadHN rfl rfl) rfl ?_ | refine WS.near rfl (o_storeH (by assumption) rfl rfl) rfl ?_ | refine WS.near rfl (o_allocH 1 rfl) rfl ?_
      | refine WS.near rfl (o_add (by omega) (by omega)) rfl ?_ | refine WS.near rfl (o_iaddrF (n := 0) rfl rfl rfl) rfl ?_)
  refine WS.puF hf rfl rfl alive_pu ?_
  repeat' (first
      | refine WS.near rfl (o_lenI hu) rfl ?_ | refine W.seq ?_ | refine W.region ?_ | refine WS.nil ?_ | refine W.skip ?_ | refine W.block ?_ | refine W.ret ?_ | refine W.exit ?_ | refine W.yes rfl rfl ?_ | refine W.fork rfl (fun _ => ?_) (fun _ => ?_) | refine WS.guardT rfl ?_ | refine WS.guardF rfl rfl rfl ?_ | refine WS.guardK rfl (fun _ => ?_) (fun _ => ?_) | refine WS.near rfl o_mov rfl ?_ | refine WS.near rfl o_pickT rfl ?_ | refine WS.near rfl o_pickF rfl ?_ | refine WS.near rfl o_notT rfl ?_ | refine WS.near rfl o_lss rfl ?_ | refine WS.near rfl o_gtr rfl ?_ | refine WS.near rfl o_eql rfl ?_ | refine WS.near rfl o_neq rfl ?_ | refine WS.near rfl o_lenF rfl ?_ | refine WS.near rfl o_faddr rfl ?_ | refine WS.near rfl o_loadF rfl ?_ | refine WS.near rfl (o_build rfl) rfl ?_ | refine WS.near rfl (o_loadHN rfl rfl) rfl ?_ | refine WS.near rfl (o_storeH (by assumption) rfl rfl) rfl ?_
      | refine WS.near rfl (o_allocH 1 rfl) rfl ?_ | refine WS.near rfl (o_add (by omega) (by omega)) rfl ?_ | refine WS.near rfl (o_iaddrF (n := 0) rfl rfl rfl) rfl ?_)
  · exact ⟨_, rfl, fin_bool rfl⟩
  · exact ⟨_, rfl, fin_bool rfl⟩
  · exact ⟨_, rfl, fin_bool rfl⟩
  rename_i g1 g2 g3
  obtain ⟨k, rfl⟩ : ∃ k : Nat, n = (k : Nat) := ⟨n.toNat, by omega⟩
  repeat' (first
      | refine WS.near rfl (o_litH 0 rfl rfl) rfl ?_ | refine W.seq ?_ | refine W.region ?_ | refine WS.nil ?_ | refine W.skip ?_ | refine W.block ?_ | refine W.ret ?_ | refine W.exit ?_ | refine W.yes rfl rfl ?_ | refine W.fork rfl (fun _ => ?_) (fun _ => ?_) | refine WS.guardT rfl ?_ | refine WS.guardF rfl rfl rfl ?_ | refine WS.guardK rfl (fun _ => ?_) (fun _ => ?_) | refine WS.near rfl o_mov rfl ?_ | refine WS.near rfl o_pickT rfl ?_ | refine WS.near rfl o_pickF rfl ?_ | refine WS.near rfl o_notT rfl ?_ | refine WS.near rfl o_lss rfl ?_ | refine WS.near rfl o_gtr rfl ?_ | refine WS.near rfl o_eql rfl ?_ | refine WS.near rfl o_neq rfl ?_ | refine WS.near rfl o_lenF rfl ?_ | refine WS.near rfl o_faddr rfl ?_ | refine WS.near rfl o_loadF rfl ?_ | refine WS.near rfl (o_build rfl) rfl ?_ | refine WS.near rfl (o_loadHN rfl rfl) rfl ?_
      | refine WS.near rfl (o_storeH (by assumption) rfl rfl) rfl ?_ | refine WS.near rfl (o_allocH 1 rfl) rfl ?_ | refine WS.near rfl (o_add (by omega) (by omega)) rfl ?_ | refine WS.near rfl (o_iaddrF (n := 0) rfl rfl rfl) rfl ?_)
  refine W.loop (fun a : RS => [(0, .int .i64 (k : Nat)), (1, u), (4, .mptr (h.next + 1) 0), (5, a.s), (6, .int .i64 (a.c : Nat)), (7, .int .i64 (a.i : Nat))]) (fun a => hp h (some kidB :: some (topB h (k : Nat)) :: a.junk))
    (fun a => a.i ≤ l.length ∧ a.c < k ∧ (a.s = stV a.c 0 ∨ a.s = stV a.c 1 ∨ (a.s = .nilsl ∧ a.c = 0))) (fun a => l.length - a.i)
    ⟨0, 0, .nilsl, []⟩ ⟨Nat.zero_le _, by show 0 < k; omega, .inr (.inr ⟨rfl, rfl⟩)⟩ ⟨rfl, rfl, rfl, rfl, rfl, rfl, trivial⟩ rfl ?_
  rintro ⟨i, c, s, junk⟩ ⟨hi, hc, hs⟩
  simp only at hi hc hs ⊢
  repeat' (first
      | refine WS.near rfl (o_lenI hu) rfl ?_ | refine WS.near rfl (o_iaddrI i hu rfl (by omega)) rfl ?_ | refine W.seq ?_ | refine W.region ?_ | refine WS.nil ?_ | refine W.skip ?_ | refine W.block ?_ | refine W.ret ?_ | refine W.exit ?_ | refine W.yes rfl rfl ?_ | refine W.fork rfl (fun _ => ?_) (fun _ => ?_) | refine WS.guardT rfl ?_ | refine WS.guardF rfl rfl rfl ?_ | refine WS.guardK rfl (fun _ => ?_) (fun _ => ?_) | refine WS.near rfl o_mov rfl ?_ | refine WS.near rfl o_pickT rfl ?_ | refine WS.near rfl o_pickF rfl ?_ | refine WS.near rfl o_notT rfl ?_ | refine WS.near rfl o_lss rfl ?_ | refine WS.near rfl o_gtr rfl ?_ | refine WS.near rfl o_eql rfl ?_ | refine WS.near rfl o_neq rfl ?_ | refine WS.near rfl o_lenF rfl ?_ | refine WS.near rfl o_faddr rfl ?_ | refine WS.near rfl o_loadF rfl ?_ | refine WS.near rfl (o_build rfl) rfl ?_ | refine WS.near rfl (o_loadHN rfl rfl) rfl ?_
      | refine WS.near rfl (o_storeH (by assumption) rfl rfl) rfl ?_ | refine WS.near rfl (o_allocH 1 rfl) rfl ?_ | refine WS.near rfl (o_add (by omega) (by omega)) rfl ?_ | refine WS.near rfl (o_iaddrF (n := 0) rfl rfl rfl) rfl ?_)
  · obtain ⟨r, r0, r1, hd⟩ := o_and (a := l.getD i 0) (h0 := hp h (some kidB :: some (topB h (k : Nat)) :: junk))
    refine WS.near rfl hd rfl ?_
    obtain ⟨q, rfl⟩ : ∃ q : Nat, r = (q : Nat) := ⟨r.toNat, by omega⟩
    have e1 : (1 : Int) + (q : Nat) % 3 = ((1 + q % 3 : Nat) : Int) := by omega
    obtain ⟨o, ho⟩ : ∃ o, o = 1 + q % 3 := ⟨_, rfl⟩
    refine WS.near rfl (o_rem (by omega) (by omega)) rfl ?_
    refine WS.near' (u := .int .i64 (o : Nat)) rfl (o_add (by omega) (by omega)) rfl (by rw [e1, ho]) ?_
    have ho1 : 1 ≤ o := by omega
    have ho3 : o ≤ 3 := by omega
    clear e1 hd
    repeat' (first
        | refine W.seq ?_ | refine W.region ?_ | refine WS.nil ?_ | refine W.skip ?_ | refine W.block ?_ | refine W.ret ?_ | refine W.exit ?_ | refine W.yes rfl rfl ?_ | refine W.fork rfl (fun _ => ?_) (fun _ => ?_) | refine WS.guardT rfl ?_ | refine WS.guardF rfl rfl rfl ?_ | refine WS.guardK rfl (fun _ => ?_) (fun _ => ?_) | refine WS.near rfl o_mov rfl ?_ | refine WS.near rfl o_pickT rfl ?_ | refine WS.near rfl o_pickF rfl ?_ | refine WS.near rfl o_notT rfl ?_ | refine WS.near rfl o_lss rfl ?_ | refine WS.near rfl o_gtr rfl ?_ | refine WS.near rfl o_eql rfl ?_ | refine WS.near rfl o_neq rfl ?_ | refine WS.near rfl o_lenF rfl ?_ | refine WS.near rfl o_faddr rfl ?_ | refine WS.near rfl o_loadF rfl ?_ | refine WS.near rfl (o_build rfl) rfl ?_ | refine WS.near rfl (o_loadHN rfl rfl) rfl ?_ | refine WS.near rfl (o_storeH (by assumption) rfl rfl) rfl ?_ | refine WS.near rfl (o_allocH 1 rfl) rfl ?_
        | refine WS.near rfl (o_add (by omega) (by omega)) rfl ?_ | refine WS.near rfl (o_iaddrF (n := 0) rfl rfl rfl) rfl ?_)
    refine WS.near rfl (o_litS (cs := [.str [120], .int .i64 (o : Nat)]) rfl) rfl ?_
    repeat' (first
        | refine W.seq ?_ | refine W.region ?_ | refine WS.nil ?_ | refine W.skip ?_ | refine W.block ?_ | refine W.ret ?_ | refine W.exit ?_ | refine W.yes rfl rfl ?_ | refine W.fork rfl (fun _ => ?_) (fun _ => ?_) | refine WS.guardT rfl ?_ | refine WS.guardF rfl rfl rfl ?_ | refine WS.guardK rfl (fun _ => ?_) (fun _ => ?_) | refine WS.near rfl o_mov rfl ?_ | refine WS.near rfl o_pickT rfl ?_ | refine WS.near rfl o_pickF rfl ?_ | refine WS.near rfl o_notT rfl ?_ | refine WS.near rfl o_lss rfl ?_ | refine WS.near rfl o_gtr rfl ?_ | refine WS.near rfl o_eql rfl ?_ | refine WS.near rfl o_neq rfl ?_ | refine WS.near rfl o_lenF rfl ?_ | refine WS.near rfl o_faddr rfl ?_ | refine WS.near rfl o_loadF rfl ?_ | refine WS.near rfl (o_build rfl) rfl ?_ | refine WS.near rfl (o_loadHN rfl rfl) rfl ?_ | refine WS.near rfl (o_storeH (by assumption) rfl rfl) rfl ?_ | refine WS.near rfl (o_allocH 1 rfl) rfl ?_
        | refine WS.near rfl (o_add (by omega) (by omega)) rfl ?_ | refine WS.near rfl (o_iaddrF (n := 0) rfl rfl rfl) rfl ?_)
    obtain ⟨z, c', d', ea, hd', a1, a2, a3, a4⟩ := rep_ans k c o ho1 ho3
    have hfz : freezes (hp h (badd (some kidB :: some (topB h (k : Nat)) :: junk) [.str [120], .int .i64 (o : Nat)])) 0 fuelF [.agg (topB h (k : Nat)), s, .agg [i64 0, i64 0, i64 0, .nilsl, .msl (h.next + (junk.length + 2)) 2 0 1 none, .nilsl]] = some [repV (k : Nat), s, envV [120] (o : Nat)] := by
      have m1 : ∀ j, Go.Ab.freeze (hp h (badd (some kidB :: some (topB h (k : Nat)) :: junk) [.str [120], .int .i64 (o : Nat)])) 0 (j + 20 + 1) (.msl (h.next + 0) 10 0 1 none) = some (.fsl [leafV [120]] none) := fun j => frz_msl (l := kidB) rfl (by decide) (by decide) rfl rfl
      have m2 : ∀ j, Go.Ab.freeze (hp h (badd (some kidB :: some (topB h (k : Nat)) :: junk) [.str [120], .int .i64 (o : Nat)])) 0 (j + 20 + 1) (.msl (h.next + (junk.length + 2)) 2 0 1 none) = some (.fsl [.agg [.str [120], .int .i64 (o : Nat)]] none) := fun j => frz_msl (bget_badd (bs := some kidB :: some (topB h (k : Nat)) :: junk)) (by decide) (Nat.le_refl _) rfl rfl
      have m3 : ∀ j, Go.Ab.freeze (hp h (badd (some kidB :: some (topB h (k : Nat)) :: junk) [.str [120], .int .i64 (o : Nat)])) 0 (j + 1) s = some s := fun j => by rcases hs with rfl | rfl | ⟨rfl, _⟩ <;> rfl
      have key : ∀ f, freezes (hp h (badd (some kidB :: some (topB h (k : Nat)) :: junk) [.str [120], .int .i64 (o : Nat)])) 0 (f + 60) [.agg (topB h (k : Nat)), s, .agg [i64 0, i64 0, i64 0, .nilsl, .msl (h.next + (junk.length + 2)) 2 0 1 none, .nilsl]] = some [repV (k : Nat), s, envV [120] (o : Nat)] := fun f => by
        generalize hp h (badd (some kidB :: some (topB h (k : Nat)) :: junk) [.str [120], .int .i64 (o : Nat)]) = H at m1 m2 m3
        simp only [frzs_cons, frzs_nil, topB, i64, frz_agg, frz_int, frz_str, frz_nilsl, m1, m2, m3, Option.bind_some, Option.map_some]
        rfl
      exact key 99940
    refine WS.fresh (p := [repV (k : Nat), s, envV [120] (o : Nat)]) (u := repA k c o) rfl rfl rfl rfl hfz (rep_tick (by omega) (by omega) hc ho1 ho3 hs) ?_
    rw [ea]
    refine WS.near rfl o_allocS rfl ?_
    refine WS.near rfl (o_storeH hf bget_badd rfl) rfl ?_
    have g1 := bget_bput (off := 0) (n := 4) (cs := [i64 z, i64 2, .fsl [deedV [120] (o : Nat)] none, stV c' d']) (bget_badd (bs := badd (some kidB :: some (topB h (k : Nat)) :: junk) [.str [120], .int .i64 (o : Nat)]) (c := [.int .i64 0, .int .i64 0, .nilsl, .nilsl]))
    obtain ⟨j2, hj2⟩ := keep2 (b0 := some kidB) (b1 := some (topB h (k : Nat))) (junk := junk) (c := [.str [120], .int .i64 (o : Nat)]) (z := [.int .i64 0, .int .i64 0, .nilsl, .nilsl]) (cs := [i64 z, i64 2, .fsl [deedV [120] (o : Nat)] none, stV c' d'])
    have hj3 : bput (badd (badd (some kidB :: some (topB h (k : Nat)) :: junk) [.str [120], .int .i64 (o : Nat)]) [.int .i64 0, .int .i64 0, .nilsl, .nilsl]) (badd (some kidB :: some (topB h (k : Nat)) :: junk) [.str [120], .int .i64 (o : Nat)]).length 0 4 (V.agg [i64 z, i64 2, .fsl [deedV [120] (o : Nat)] none, stV c' d']).cells = some kidB :: some (topB h (k : Nat)) :: j2 := hj2
    rw [hj2] at g1
    rw [hj3]
    clear hj2 hj3 hfz
    generalize hK : (badd (some kidB :: some (topB h (k : Nat)) :: junk) [.str [120], .int .i64 (o : Nat)]).length = K at g1 ⊢
    repeat' (first
        | refine WS.near rfl (o_loadH (hload_of g1 rfl)) rfl ?_ | refine WS.near rfl (o_iaddrF (n := 0) rfl rfl rfl) rfl ?_ | refine W.seq ?_ | refine W.region ?_ | refine WS.nil ?_ | refine W.skip ?_ | refine W.block ?_ | refine W.ret ?_ | refine W.exit ?_ | refine W.yes rfl rfl ?_ | refine W.fork rfl (fun _ => ?_) (fun _ => ?_) | refine WS.guardT rfl ?_ | refine WS.guardF rfl rfl rfl ?_ | refine WS.guardK rfl (fun _ => ?_) (fun _ => ?_) | refine WS.near rfl o_mov rfl ?_ | refine WS.near rfl o_pickT rfl ?_ | refine WS.near rfl o_pickF rfl ?_ | refine WS.near rfl o_notT rfl ?_ | refine WS.near rfl o_lss rfl ?_ | refine WS.near rfl o_gtr rfl ?_ | refine WS.near rfl o_eql rfl ?_ | refine WS.near rfl o_neq rfl ?_ | refine WS.near rfl o_lenF rfl ?_ | refine WS.near rfl o_faddr rfl ?_ | refine WS.near rfl o_loadF rfl ?_ | refine WS.near rfl (o_build rfl) rfl ?_
        | refine WS.near rfl (o_loadHN rfl rfl) rfl ?_ | refine WS.near rfl (o_storeH (by assumption) rfl rfl) rfl ?_ | refine WS.near rfl (o_allocH 1 rfl) rfl ?_ | refine WS.near rfl (o_add (by omega) (by omega)) rfl ?_ | refine WS.near rfl (o_iaddrF (n := 0) rfl rfl rfl) rfl ?_)
    · exfalso; omega
    · exfalso; omega
    · skip
      have e6 : (0 : Int) = (c' : Nat) := by omega
      have e7 : (i : Int) + 1 = ((i + 1 : Nat) : Int) := by omega
      refine ⟨⟨i + 1, c', stV c' d', j2⟩, ⟨by show i + 1 ≤ l.length; omega, by show c' < k; omega, ?_⟩, by show l.length - (i + 1) < l.length - i; omega, ⟨rfl, rfl, rfl, rfl, congrArg (fun z => some (V.int .i64 z)) e6, congrArg (fun z => some (V.int .i64 z)) e7, trivial⟩, rfl⟩
      rcases (by omega : d' = 0 ∨ d' = 1) with rfl | rfl
      · exact .inl rfl
      · exact .inr (.inl rfl)
    · exfalso; omega
    · exfalso; omega
    · skip
      have e6 : ((c : Int) + 1 : Int) = (c' : Nat) := by omega
      have e7 : (i : Int) + 1 = ((i + 1 : Nat) : Int) := by omega
      refine ⟨⟨i + 1, c', stV c' d', j2⟩, ⟨by show i + 1 ≤ l.length; omega, by show c' < k; omega, ?_⟩, by show l.length - (i + 1) < l.length - i; omega, ⟨rfl, rfl, rfl, rfl, congrArg (fun z => some (V.int .i64 z)) e6, congrArg (fun z => some (V.int .i64 z)) e7, trivial⟩, rfl⟩
      rcases (by omega : d' = 0 ∨ d' = 1) with rfl | rfl
      · exact .inl rfl
      · exact .inr (.inl rfl)
    · exfalso; omega
    · exfalso; omega
    · skip
      have e6 : (0 : Int) = (c' : Nat) := by omega
      have e7 : (i : Int) + 1 = ((i + 1 : Nat) : Int) := by omega
      refine ⟨⟨i + 1, c', stV c' d', j2⟩, ⟨by show i + 1 ≤ l.length; omega, by show c' < k; omega, ?_⟩, by show l.length - (i + 1) < l.length - i; omega, ⟨rfl, rfl, rfl, rfl, congrArg (fun z => some (V.int .i64 z)) e6, congrArg (fun z => some (V.int .i64 z)) e7, trivial⟩, rfl⟩
      rcases (by omega : d' = 0 ∨ d' = 1) with rfl | rfl
      · exact .inl rfl
      · exact .inr (.inl rfl)
    · exfalso; omega
    · exfalso; omega
    · skip
      have e6 : ((c : Nat) : Int) = (c' : Nat) := by omega
      have e7 : (i : Int) + 1 = ((i + 1 : Nat) : Int) := by omega
      refine ⟨⟨i + 1, c', stV c' d', j2⟩, ⟨by show i + 1 ≤ l.length; omega, by show c' < k; omega, ?_⟩, by show l.length - (i + 1) < l.length - i; omega, ⟨rfl, rfl, rfl, rfl, congrArg (fun z => some (V.int .i64 z)) e6, congrArg (fun z => some (V.int .i64 z)) e7, trivial⟩, rfl⟩
      rcases (by omega : d' = 0 ∨ d' = 1) with rfl | rfl
      · exact .inl rfl
      · exact .inr (.inl rfl)
  · exact ⟨_, rfl, fin_bool rfl⟩
theorem law_w (n : Int) (u : V) (l : List Int) (hu : IsInts u l) : CallW D4 4 [.int .i64 n, u] Heap.empty fun v _ => v = .bool true := (law_r n u l hu Heap.empty fine0).mono fun _ _ hc => hc.1
end Go.Proofs.YtpaadclighadaaaGreatDoor.CodesR
