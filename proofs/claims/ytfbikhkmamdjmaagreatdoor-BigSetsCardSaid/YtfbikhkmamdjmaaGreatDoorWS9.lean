/- BigSets: what is set is seen, and told in order. -/
import Derived.Test.YtfbikhkmamdjmaaGreatDoorWS2
import Derived.Test.YtfbikhkmamdjmaaGreatDoorWS3
import Derived.Test.YtfbikhkmamdjmaaGreatDoorWS4
import Derived.Test.YtfbikhkmamdjmaaGreatDoorWS5
import Derived.Test.YtfbikhkmamdjmaaGreatDoorWS6
import Derived.Test.YtfbikhkmamdjmaaGreatDoorWS8
namespace Go.Proofs.YtfbikhkmamdjmaaGreatDoor.CodesS
open Go Go.Ab
set_option maxHeartbeats 4000000
set_option maxRecDepth 100000

theorem tick_all (n : Int) (l : List Nat) (h1 : 1 ≤ l.length) (h2 : l.length ≤ 12) : CallW D3 8 [topV l, .nilsl, envV n] Heap.empty fun v h1 => V.own v = true ∧ Go.Ab.freeze h1.clean 0 fuelF v = some (resV n l) := by
  match l, h1, h2 with
  | [], h, _ => cases h
  | [a], _, _ => exact evalSF2 two_ok (tick1 n a)
  | [a, b], _, _ => exact evalSF2 two_ok (tick2 n a b)
  | [a, b, c], _, _ => exact evalSF2 two_ok (tick3 n a b c)
  | [a, b, c, d], _, _ => exact evalSF2 two_ok (tick4 n a b c d)
  | [a, b, c, d, e], _, _ => exact evalSF2 two_ok (tick5 n a b c d e)
  | [a, b, c, d, e, f], _, _ => exact evalSF2 two_ok (tick6 n a b c d e f)
  | [a, b, c, d, e, f, g], _, _ => exact evalSF2 two_ok (tick7 n a b c d e f g)
  | [a, b, c, d, e, f, g, i], _, _ => exact evalSF2 two_ok (tick8 n a b c d e f g i)
  | [a, b, c, d, e, f, g, i, j], _, _ => exact evalSF2 two_ok (tick9 n a b c d e f g i j)
  | [a, b, c, d, e, f, g, i, j, k], _, _ => exact evalSF2 two_ok (tick10 n a b c d e f g i j k)
  | [a, b, c, d, e, f, g, i, j, k, m], _, _ => exact evalSF2 two_ok (tick11 n a b c d e f g i j k m)
  | [a, b, c, d, e, f, g, i, j, k, m, o], _, _ => exact evalSF2 two_ok (tick12 n a b c d e f g i j k m o)
  | _ :: _ :: _ :: _ :: _ :: _ :: _ :: _ :: _ :: _ :: _ :: _ :: _ :: r, _, h => simp only [List.length_cons] at h; omega
noncomputable def D4 : OCtx := layer D3 (fun _ => false) (fun f => Nat.beq f 8)
theorem alive_pu : PuF D4 7 [] (.bool true) := PuF.orc (D := D4) (g := fun a h => match rows l1 7 a with
  | some u => some (.ret u, h)
  | none => none) rfl fun _ => rfl
theorem radd_pu (a b : Int) : PuF D4 9 [i64 a, i64 b] (i64 (addM a b)) := by
  refine PuF.tidy rfl rfl rfl rfl rfl fun h hf => ?_
  repeat' (first
      | refine WS.near rfl o_addW rfl ?_ | refine WS.near rfl o_subW rfl ?_ | refine W.seq ?_ | refine W.region ?_ | refine WS.nil ?_ | refine W.skip ?_ | refine W.block ?_ | refine W.ret ?_ | refine W.exit ?_ | refine W.yes rfl rfl ?_ | refine W.no rfl rfl ?_ | refine W.fork rfl (fun _ => ?_) (fun _ => ?_) | refine WS.guardT rfl ?_ | refine WS.guardF rfl rfl rfl ?_ | refine WS.guardK rfl (fun _ => ?_) (fun _ => ?_) | refine WS.near rfl o_mov rfl ?_ | refine WS.near rfl o_pickT rfl ?_ | refine WS.near rfl o_pickF rfl ?_ | refine WS.near rfl o_notT rfl ?_ | refine WS.near rfl o_lss rfl ?_ | refine WS.near rfl o_gtr rfl ?_ | refine WS.near rfl o_neq rfl ?_ | refine WS.near rfl o_sneq rfl ?_ | refine WS.near rfl o_lenF rfl ?_ | refine WS.near rfl o_faddr rfl ?_ | refine WS.near rfl o_loadF rfl ?_ | refine WS.near rfl (o_build rfl) rfl ?_
      | refine WS.near rfl (o_storeH (by assumption) rfl rfl) rfl ?_ | refine WS.near rfl (o_allocH 0 rfl) rfl ?_ | refine WS.near rfl (o_add (by omega) (by omega)) rfl ?_ | fail)
  all_goals
    first
    | (exfalso; omega)
    | (refine ⟨_, rfl, fin_int ?_⟩; unfold addM; simp [*]; done)
    | (refine ⟨_, rfl, fin_int ?_⟩; unfold addM; split <;> first | rfl | (exfalso; rename_i hh; obtain ⟨h1, h2⟩ := hh; first | contradiction | omega) | (split <;> first | rfl | (exfalso; rename_i hh; obtain ⟨h1, h2⟩ := hh; first | contradiction | omega) | (exfalso; rename_i hh; exact hh ⟨by assumption, by assumption⟩)) | (exfalso; rename_i hh; exact hh ⟨by assumption, by assumption⟩))
    | fail
theorem getD_mem {α : Type} {l : List α} {n : Nat} {d : α} (h : n < l.length) : l.getD n d ∈ l := by
  simp only [List.getD, List.getElem?_eq_getElem h, Option.getD_some]
  exact List.getElem_mem h
structure BL where
  i : Nat
  v : V
  js : List Nat
  bs : List (Option (List V))
structure TL where
  i : Nat
  bs : List (Option (List V))
theorem law_r (u : V) (l : List Int) (start : Int) (hu : IsInts u l) : PuF D4 3 [u, i64 start] (.bool true) := by
  refine PuF.tidy rfl rfl rfl rfl rfl fun h hf => ?_
  repeat' (first
      | refine WS.puF hf rfl rfl alive_pu ?_ | refine WS.near rfl (o_lenI hu) rfl ?_ | refine W.seq ?_ | refine W.region ?_ | refine WS.nil ?_ | refine W.skip ?_ | refine W.block ?_ | refine W.ret ?_ | refine W.exit ?_ | refine W.yes rfl rfl ?_ | refine W.no rfl rfl ?_ | refine W.fork rfl (fun _ => ?_) (fun _ => ?_) | refine WS.guardT rfl ?_ | refine WS.guardF rfl rfl rfl ?_ | refine WS.guardK rfl (fun _ => ?_) (fun _ => ?_) | refine WS.near rfl o_mov rfl ?_ | refine WS.near rfl o_pickT rfl ?_ | refine WS.near rfl o_pickF rfl ?_ | refine WS.near rfl o_notT rfl ?_ | refine WS.near rfl o_lss rfl ?_ | refine WS.near rfl o_gtr rfl ?_ | refine WS.near rfl o_neq rfl ?_ | refine WS.near rfl o_sneq rfl ?_ | refine WS.near rfl o_lenF rfl ?_ | refine WS.near rfl o_faddr rfl ?_ | refine WS.near rfl o_loadF rfl ?_ | refine WS.near rfl (o_build rfl) rfl ?_
      | refine WS.near rfl (o_storeH (by assumption) rfl rfl) rfl ?_ | refine WS.near rfl (o_allocH 0 rfl) rfl ?_ | refine WS.near rfl (o_add (by omega) (by omega)) rfl ?_ | fail)
  · exact ⟨_, rfl, fin_bool rfl⟩
  · exact ⟨_, rfl, fin_bool rfl⟩
  rename_i g1 g2
  refine W.loop (fun a : BL => [(0, u), (1, i64 start), (4, .mptr (h.next + 0) 0), (5, i64 a.i)]) (fun a => hp h a.bs)
    (fun a => a.i ≤ l.length ∧ a.js.length = a.i ∧ IsSl h a.bs 10 a.v a.i (rowB h a.js) ∧ bget a.bs 0 = some (topB a.v) ∧ (∀ m, m < a.i → bget a.bs (a.js.getD m 0) = some (exprB (and1023 (l.getD m 0)))) ∧ (∀ k b c d e, a.v = .msl (h.next + k) b c d e → k ≠ 0 ∧ k ∉ a.js) ∧ (∀ j ∈ a.js, j ≠ 0 ∧ j < a.bs.length) ∧ 0 < a.bs.length) (fun a => l.length - a.i)
    ⟨0, .nilsl, [], [some (topB .nilsl)]⟩ ⟨Nat.zero_le _, rfl, IsSl.nil, rfl, (fun m hm => by cases hm), (fun _ _ _ _ _ h => by cases h), (fun j hj => by cases hj), Nat.one_pos⟩ (by exact ⟨rfl, rfl, rfl, rfl, trivial⟩) rfl ?_
  rintro ⟨i, v, js, bs⟩ ⟨hi, hjl, hsl, hb0, hbm, hv, hj0, hbs⟩
  simp only at hi hjl hsl hb0 hbm hv hj0 hbs ⊢
  refine W.seq ?_
  refine W.seq ?_
  repeat' (first
      | refine WS.near rfl (o_lenI hu) rfl ?_ | refine W.region ?_ | refine WS.nil ?_ | refine W.skip ?_ | refine W.block ?_ | refine W.ret ?_ | refine W.exit ?_ | refine W.yes rfl rfl ?_ | refine W.no rfl rfl ?_ | refine W.fork rfl (fun _ => ?_) (fun _ => ?_) | refine WS.guardT rfl ?_ | refine WS.guardF rfl rfl rfl ?_ | refine WS.guardK rfl (fun _ => ?_) (fun _ => ?_) | refine WS.near rfl o_mov rfl ?_ | refine WS.near rfl o_pickT rfl ?_ | refine WS.near rfl o_pickF rfl ?_ | refine WS.near rfl o_notT rfl ?_ | refine WS.near rfl o_lss rfl ?_ | refine WS.near rfl o_gtr rfl ?_ | refine WS.near rfl o_neq rfl ?_ | refine WS.near rfl o_sneq rfl ?_ | refine WS.near rfl o_lenF rfl ?_ | refine WS.near rfl o_faddr rfl ?_ | refine WS.near rfl o_loadF rfl ?_ | refine WS.near rfl (o_build rfl) rfl ?_ | refine WS.near rfl (o_storeH (by assumption) rfl rfl) rfl ?_
      | refine WS.near rfl (o_allocH 0 rfl) rfl ?_ | refine WS.near rfl (o_add (by omega) (by omega)) rfl ?_ | fail)
  refine W.seq ?_
  repeat' (first
      | refine W.region ?_ | refine WS.nil ?_ | refine W.skip ?_ | refine W.block ?_ | refine W.ret ?_ | refine W.exit ?_ | refine W.yes rfl rfl ?_ | refine W.no rfl rfl ?_ | refine W.fork rfl (fun _ => ?_) (fun _ => ?_) | refine WS.guardT rfl ?_ | refine WS.guardF rfl rfl rfl ?_ | refine WS.guardK rfl (fun _ => ?_) (fun _ => ?_) | refine WS.near rfl o_mov rfl ?_ | refine WS.near rfl o_pickT rfl ?_ | refine WS.near rfl o_pickF rfl ?_ | refine WS.near rfl o_notT rfl ?_ | refine WS.near rfl o_lss rfl ?_ | refine WS.near rfl o_gtr rfl ?_ | refine WS.near rfl o_neq rfl ?_ | refine WS.near rfl o_sneq rfl ?_ | refine WS.near rfl o_lenF rfl ?_ | refine WS.near rfl o_faddr rfl ?_ | refine WS.near rfl o_loadF rfl ?_ | refine WS.near rfl (o_build rfl) rfl ?_ | refine WS.near rfl (o_storeH (by assumption) rfl rfl) rfl ?_ | refine WS.near rfl (o_allocH 0 rfl) rfl ?_
      | refine WS.near rfl (o_add (by omega) (by omega)) rfl ?_ | fail)
  · have hlt : i < l.length := by omega
    repeat' (first
        | refine WS.near rfl (o_iaddrI i hu rfl (by omega)) rfl ?_ | refine WS.near rfl o_andF rfl ?_ | refine WS.near rfl (o_loadH (hload_of hb0 rfl)) rfl ?_ | refine W.seq ?_ | refine W.region ?_ | refine WS.nil ?_ | refine W.skip ?_ | refine W.block ?_ | refine W.ret ?_ | refine W.exit ?_ | refine W.yes rfl rfl ?_ | refine W.no rfl rfl ?_ | refine W.fork rfl (fun _ => ?_) (fun _ => ?_) | refine WS.guardT rfl ?_ | refine WS.guardF rfl rfl rfl ?_ | refine WS.guardK rfl (fun _ => ?_) (fun _ => ?_) | refine WS.near rfl o_mov rfl ?_ | refine WS.near rfl o_pickT rfl ?_ | refine WS.near rfl o_pickF rfl ?_ | refine WS.near rfl o_notT rfl ?_ | refine WS.near rfl o_lss rfl ?_ | refine WS.near rfl o_gtr rfl ?_ | refine WS.near rfl o_neq rfl ?_ | refine WS.near rfl o_sneq rfl ?_ | refine WS.near rfl o_lenF rfl ?_ | refine WS.near rfl o_faddr rfl ?_ | refine WS.near rfl o_loadF rfl ?_
        | refine WS.near rfl (o_build rfl) rfl ?_ | refine WS.near rfl (o_storeH (by assumption) rfl rfl) rfl ?_ | refine WS.near rfl (o_allocH 0 rfl) rfl ?_ | refine WS.near rfl (o_add (by omega) (by omega)) rfl ?_ | fail)
    refine WS.near rfl (o_litS (cs := exprB (and1023 (l.getD i 0))) rfl) rfl ?_
    repeat' (first
        | refine W.seq ?_ | refine W.region ?_ | refine WS.nil ?_ | refine W.skip ?_ | refine W.block ?_ | refine W.ret ?_ | refine W.exit ?_ | refine W.yes rfl rfl ?_ | refine W.no rfl rfl ?_ | refine W.fork rfl (fun _ => ?_) (fun _ => ?_) | refine WS.guardT rfl ?_ | refine WS.guardF rfl rfl rfl ?_ | refine WS.guardK rfl (fun _ => ?_) (fun _ => ?_) | refine WS.near rfl o_mov rfl ?_ | refine WS.near rfl o_pickT rfl ?_ | refine WS.near rfl o_pickF rfl ?_ | refine WS.near rfl o_notT rfl ?_ | refine WS.near rfl o_lss rfl ?_ | refine WS.near rfl o_gtr rfl ?_ | refine WS.near rfl o_neq rfl ?_ | refine WS.near rfl o_sneq rfl ?_ | refine WS.near rfl o_lenF rfl ?_ | refine WS.near rfl o_faddr rfl ?_ | refine WS.near rfl o_loadF rfl ?_ | refine WS.near rfl (o_build rfl) rfl ?_ | refine WS.near rfl (o_storeH (by assumption) rfl rfl) rfl ?_ | refine WS.near rfl (o_allocH 0 rfl) rfl ?_
        | refine WS.near rfl (o_add (by omega) (by omega)) rfl ?_ | fail)
    refine WS.near rfl (o_litS (cs := kidC h bs.length) rfl) rfl ?_
    obtain ⟨v', bs', hd, hsl', hkeep, hown, hle⟩ := app_all hf (IsSl.badd (c := kidC h bs.length) (IsSl.badd (c := exprB (and1023 (l.getD i 0))) hsl)) bget_badd (c := kidC h bs.length) rfl (by decide) (bytes := 144) (by unfold maxRow; omega)
    refine WS.near rfl hd rfl ?_
    rw [badd_len, badd_len] at hown hle
    have hb0' := hkeep 0 _ (bget_badd_lt (bget_badd_lt hb0)) (fun a b d e h9 => (hv _ _ _ _ _ h9).1 rfl)
    have hold : ∀ m, m < i → bget bs' (js.getD m 0) = some (exprB (and1023 (l.getD m 0))) := fun m hm => hkeep _ _ (bget_badd_lt (bget_badd_lt (hbm m hm))) (fun a b d e h9 => (hv _ _ _ _ _ h9).2 (getD_mem (by omega)))
    have hvlt : ∀ k b c d e, v = .msl (h.next + k) b c d e → k < bs.length := fun k b c d e h9 => by
      obtain ⟨_, ⟨h10, _⟩ | ⟨k2, c2, h10, h11, _⟩⟩ := hsl
      · rw [h9] at h10; cases h10
      · rw [h9] at h10
        simp only [V.msl.injEq] at h10
        have := bget_lt h11
        omega
    have hnew := hkeep bs.length _ (bget_badd_lt bget_badd) (fun a b d e h9 => by have := hvlt _ _ _ _ _ h9; omega)
    obtain ⟨hlen', ⟨_, h0⟩ | ⟨k', c', rfl, hc', hle', htk'⟩⟩ := hsl'
    · omega
    have hk0 : k' ≠ 0 ∧ k' ∉ js ∧ k' ≠ bs.length := by
      rcases hown _ _ _ _ _ rfl with ⟨a1, a2, a3, a4, h10⟩ | h10
      · have := hv _ _ _ _ _ h10
        have h11 := hvlt _ _ _ _ _ h10
        exact ⟨this.1, this.2, by omega⟩
      · exact ⟨by omega, fun hm => by have := (hj0 _ hm).2; omega, by omega⟩
    repeat' (first
        | refine WS.near rfl (o_storeH hf hb0' rfl) rfl ?_ | refine W.seq ?_ | refine W.region ?_ | refine WS.nil ?_ | refine W.skip ?_ | refine W.block ?_ | refine W.ret ?_ | refine W.exit ?_ | refine W.yes rfl rfl ?_ | refine W.no rfl rfl ?_ | refine W.fork rfl (fun _ => ?_) (fun _ => ?_) | refine WS.guardT rfl ?_ | refine WS.guardF rfl rfl rfl ?_ | refine WS.guardK rfl (fun _ => ?_) (fun _ => ?_) | refine WS.near rfl o_mov rfl ?_ | refine WS.near rfl o_pickT rfl ?_ | refine WS.near rfl o_pickF rfl ?_ | refine WS.near rfl o_notT rfl ?_ | refine WS.near rfl o_lss rfl ?_ | refine WS.near rfl o_gtr rfl ?_ | refine WS.near rfl o_neq rfl ?_ | refine WS.near rfl o_sneq rfl ?_ | refine WS.near rfl o_lenF rfl ?_ | refine WS.near rfl o_faddr rfl ?_ | refine WS.near rfl o_loadF rfl ?_ | refine WS.near rfl (o_build rfl) rfl ?_ | refine WS.near rfl (o_storeH (by assumption) rfl rfl) rfl ?_
        | refine WS.near rfl (o_allocH 0 rfl) rfl ?_ | refine WS.near rfl (o_add (by omega) (by omega)) rfl ?_ | fail)
    have e1 : (i : Int) + 1 = ((i + 1 : Nat) : Int) := by omega
    obtain ⟨bs2, hbs2⟩ : ∃ q, q = bput bs' 0 (0 + 8) 1 (V.msl (h.next + k') 10 0 (i + 1) none).cells := ⟨_, rfl⟩
    have get0 : bget bs2 0 = some (topB (.msl (h.next + k') 10 0 (i + 1) none)) := by rw [hbs2, bget_bput hb0']; rfl
    have getn : ∀ j, j ≠ 0 → bget bs2 j = bget bs' j := fun j hj => by rw [hbs2, bget_bput_ne hj]
    have len2 : bs2.length = bs'.length := by rw [hbs2, bput_len]
    refine ⟨⟨i + 1, .msl (h.next + k') 10 0 (i + 1) none, js ++ [bs.length], bs2⟩, ⟨by show i + 1 ≤ l.length; omega, by simp [hjl], ⟨?_, .inr ⟨k', c', rfl, ?_, hle', ?_⟩⟩, get0, fun m hm => ?_, fun k b c d e h9 => ?_, fun j hj => ?_, ?_⟩, by show l.length - (i + 1) < l.length - i; omega, ⟨rfl, rfl, rfl, congrArg (fun z => some (V.int .i64 z)) e1, trivial⟩, by rw [hbs2]⟩
    · rw [rowB_len]; simp [hjl]
    · exact (getn k' hk0.1).trans hc'
    · rw [htk', rowB_snoc]
    · show bget bs2 _ = _
      by_cases hmi : m = i
      · subst hmi
        have e2 : (js ++ [bs.length]).getD m 0 = bs.length := by simp [List.getD, ← hjl]
        rw [e2, getn _ (by omega)]
        exact hnew
      · have e2 : (js ++ [bs.length]).getD m 0 = js.getD m 0 := by
          simp only [List.getD]
          rw [List.getElem?_append_left (by simp only at hm; omega)]
        rw [e2, getn _ (hj0 _ (getD_mem (by simp only at hm; omega))).1]
        exact hold m (by simp only at hm; omega)
    · simp only [V.msl.injEq] at h9
      obtain rfl : k' = k := by omega
      exact ⟨hk0.1, fun hm => by
        rcases List.mem_append.1 hm with hm | hm
        · exact hk0.2.1 hm
        · exact hk0.2.2 (List.mem_singleton.1 hm)⟩
    · show j ≠ 0 ∧ j < bs2.length
      rw [len2]
      rcases List.mem_append.1 hj with hj | hj
      · have := hj0 j hj
        exact ⟨this.1, by omega⟩
      · rw [List.mem_singleton] at hj
        subst hj
        exact ⟨by omega, by omega⟩
    · show 0 < bs2.length
      omega
  · have hil : i = l.length := by omega
    subst hil
    have hq : (l.map and1023).length = l.length := List.length_map ..
    obtain ⟨hlen, ⟨_, h0⟩ | ⟨k', c', rfl, hc', hle', htk'⟩⟩ := hsl
    · omega
    have hel : elems 10 l.length c' = js.map fun j => V.agg (kidC h j) := by
      rw [← elems_take 10 l.length c' hle', htk', ← hjl, rowB_elems]
    have hkids : ∀ f, freezes (hp h (badd bs [.str [97], i64 0, i64 start, i64 0, .str [], .cpx .f64 0 0])) 0 (f + 40 + js.length) (js.map fun j => V.agg (kidC h j)) = some ((l.map and1023).map kidV) := frz_kids js (l.map and1023) (by omega) fun m hm => by
      have e2 : (l.map and1023).getD m 0 = and1023 (l.getD m 0) := by
        have : m < l.length := by omega
        simp [List.getD, List.getElem?_map, List.getElem?_eq_getElem this]
      rw [e2]
      exact bget_badd_lt (hbm m (by omega))
    have m1 : ∀ j, Go.Ab.freeze (hp h (badd bs [.str [97], i64 0, i64 start, i64 0, .str [], .cpx .f64 0 0])) 0 (j + 60) (.msl (h.next + k') 10 0 l.length none) = some (.fsl ((l.map and1023).map kidV) none) := fun j => by
      refine frz_msl (fuel := j + 59) (bget_badd_lt hc') (by decide) hle' ?_ (kids_low _)
      rw [hel]
      have := hkids (j + 19 - js.length)
      rwa [show j + 19 - js.length + 40 + js.length = j + 59 by omega] at this
    have m2 : ∀ j, Go.Ab.freeze (hp h (badd bs [.str [97], i64 0, i64 start, i64 0, .str [], .cpx .f64 0 0])) 0 (j + 40) (.msl (h.next + bs.length) 6 0 1 none) = some (.fsl [.agg [.str [97], i64 0, i64 start, i64 0, .str [], .cpx .f64 0 0]] none) := fun j => by
      refine frz_msl (fuel := j + 39) (es := [.agg [.str [97], i64 0, i64 start, i64 0, .str [], .cpx .f64 0 0]]) bget_badd (by decide) (by show 1 * 6 ≤ 6; decide) ?_ rfl
      show freezes _ 0 (j + 9 + 30) [.agg [.str [97], i64 0, i64 start, i64 0, .str [], .cpx .f64 0 0]] = _
      simp only [frzs_cons, frzs_nil, i64, frz_agg, frz_int, frz_str, frz_cpx, Option.bind_some, Option.map_some]
    have key : ∀ f, freezes (hp h (badd bs [.str [97], i64 0, i64 start, i64 0, .str [], .cpx .f64 0 0])) 0 (f + 100) [.agg (topB (.msl (h.next + k') 10 0 l.length none)), .nilsl, .agg [i64 0, i64 0, i64 0, .msl (h.next + bs.length) 6 0 1 none, .nilsl, .nilsl]] = some [topV (l.map and1023), .nilsl, envV start] := fun f => by
      generalize hp h (badd bs [.str [97], i64 0, i64 start, i64 0, .str [], .cpx .f64 0 0]) = H at m1 m2
      simp only [frzs_cons, frzs_nil, topB, i64, frz_agg, frz_int, frz_str, frz_nilsl, m1, m2, Option.bind_some, Option.map_some]
      rfl
    have ht := tick_all start (l.map and1023) (by omega) (by omega)
    repeat' (first
        | refine WS.near rfl (o_loadHN hb0 rfl) rfl ?_ | refine W.seq ?_ | refine W.region ?_ | refine WS.nil ?_ | refine W.skip ?_ | refine W.block ?_ | refine W.ret ?_ | refine W.exit ?_ | refine W.yes rfl rfl ?_ | refine W.no rfl rfl ?_ | refine W.fork rfl (fun _ => ?_) (fun _ => ?_) | refine WS.guardT rfl ?_ | refine WS.guardF rfl rfl rfl ?_ | refine WS.guardK rfl (fun _ => ?_) (fun _ => ?_) | refine WS.near rfl o_mov rfl ?_ | refine WS.near rfl o_pickT rfl ?_ | refine WS.near rfl o_pickF rfl ?_ | refine WS.near rfl o_notT rfl ?_ | refine WS.near rfl o_lss rfl ?_ | refine WS.near rfl o_gtr rfl ?_ | refine WS.near rfl o_neq rfl ?_ | refine WS.near rfl o_sneq rfl ?_ | refine WS.near rfl o_lenF rfl ?_ | refine WS.near rfl o_faddr rfl ?_ | refine WS.near rfl o_loadF rfl ?_ | refine WS.near rfl (o_build rfl) rfl ?_ | refine WS.near rfl (o_storeH (by assumption) rfl rfl) rfl ?_
        | refine WS.near rfl (o_allocH 0 rfl) rfl ?_ | refine WS.near rfl (o_add (by omega) (by omega)) rfl ?_ | fail)
    refine WS.near rfl (o_litS (cs := [.str [97], i64 0, i64 start, i64 0, .str [], .cpx .f64 0 0]) rfl) rfl ?_
    repeat' (first
        | refine W.seq ?_ | refine W.region ?_ | refine WS.nil ?_ | refine W.skip ?_ | refine W.block ?_ | refine W.ret ?_ | refine W.exit ?_ | refine W.yes rfl rfl ?_ | refine W.no rfl rfl ?_ | refine W.fork rfl (fun _ => ?_) (fun _ => ?_) | refine WS.guardT rfl ?_ | refine WS.guardF rfl rfl rfl ?_ | refine WS.guardK rfl (fun _ => ?_) (fun _ => ?_) | refine WS.near rfl o_mov rfl ?_ | refine WS.near rfl o_pickT rfl ?_ | refine WS.near rfl o_pickF rfl ?_ | refine WS.near rfl o_notT rfl ?_ | refine WS.near rfl o_lss rfl ?_ | refine WS.near rfl o_gtr rfl ?_ | refine WS.near rfl o_neq rfl ?_ | refine WS.near rfl o_sneq rfl ?_ | refine WS.near rfl o_lenF rfl ?_ | refine WS.near rfl o_faddr rfl ?_ | refine WS.near rfl o_loadF rfl ?_ | refine WS.near rfl (o_build rfl) rfl ?_ | refine WS.near rfl (o_storeH (by assumption) rfl rfl) rfl ?_ | refine WS.near rfl (o_allocH 0 rfl) rfl ?_
        | refine WS.near rfl (o_add (by omega) (by omega)) rfl ?_ | fail)
    refine WS.fresh (p := [topV (l.map and1023), .nilsl, envV start]) (u := resV start (l.map and1023)) rfl rfl rfl rfl (key 99900) ht ?_
    unfold resV
    refine WS.near rfl o_allocS rfl ?_
    refine WS.near rfl (o_storeH hf bget_badd rfl) rfl ?_
    obtain ⟨bs3, hbs3⟩ : ∃ q, q = bput (badd (badd bs [.str [97], i64 0, i64 start, i64 0, .str [], .cpx .f64 0 0]) [.int .i64 0, .int .i64 0, .nilsl, .nilsl]) (badd bs [.str [97], i64 0, i64 start, i64 0, .str [], .cpx .f64 0 0]).length 0 4 (V.agg [i64 1, i64 (((l.map and1023).length + 1 : Nat) : Int), .fsl (sets start (l.map and1023)) none, .fsl (i64 0 :: zeros (l.map and1023)) none]).cells := ⟨_, rfl⟩
    have g : bget bs3 (badd bs [.str [97], i64 0, i64 start, i64 0, .str [], .cpx .f64 0 0]).length = some [i64 1, i64 (((l.map and1023).length + 1 : Nat) : Int), .fsl (sets start (l.map and1023)) none, .fsl (i64 0 :: zeros (l.map and1023)) none] := by
      rw [hbs3]
      exact bget_bput (off := 0) (n := 4) (cs := [i64 1, i64 (((l.map and1023).length + 1 : Nat) : Int), .fsl (sets start (l.map and1023)) none, .fsl (i64 0 :: zeros (l.map and1023)) none]) (bget_badd (bs := badd bs [.str [97], i64 0, i64 start, i64 0, .str [], .cpx .f64 0 0]) (c := [.int .i64 0, .int .i64 0, .nilsl, .nilsl]))
    rw [← hbs3]
    clear hbs3 ht key m1 m2 hkids hel hbm hv hj0
    have hsl := sets_len (l.map and1023) start
    generalize (badd bs [.str [97], i64 0, i64 start, i64 0, .str [], .cpx .f64 0 0]).length = K at g ⊢
    repeat' (first
        | refine WS.near rfl (o_loadH (hload_of g rfl)) rfl ?_ | refine WS.near rfl (o_lenI hu) rfl ?_ | refine W.seq ?_ | refine W.region ?_ | refine WS.nil ?_ | refine W.skip ?_ | refine W.block ?_ | refine W.ret ?_ | refine W.exit ?_ | refine W.yes rfl rfl ?_ | refine W.no rfl rfl ?_ | refine W.fork rfl (fun _ => ?_) (fun _ => ?_) | refine WS.guardT rfl ?_ | refine WS.guardF rfl rfl rfl ?_ | refine WS.guardK rfl (fun _ => ?_) (fun _ => ?_) | refine WS.near rfl o_mov rfl ?_ | refine WS.near rfl o_pickT rfl ?_ | refine WS.near rfl o_pickF rfl ?_ | refine WS.near rfl o_notT rfl ?_ | refine WS.near rfl o_lss rfl ?_ | refine WS.near rfl o_gtr rfl ?_ | refine WS.near rfl o_neq rfl ?_ | refine WS.near rfl o_sneq rfl ?_ | refine WS.near rfl o_lenF rfl ?_ | refine WS.near rfl o_faddr rfl ?_ | refine WS.near rfl o_loadF rfl ?_ | refine WS.near rfl (o_build rfl) rfl ?_
        | refine WS.near rfl (o_storeH (by assumption) rfl rfl) rfl ?_ | refine WS.near rfl (o_allocH 0 rfl) rfl ?_ | refine WS.near rfl (o_add (by omega) (by omega)) rfl ?_ | fail)
    all_goals first
      | (exfalso; omega)
      | skip
    refine W.loop (fun a : TL => [(0, u), (7, .mptr (h.next + K) 0), (8, i64 (sumF start (l.map and1023) a.i)), (9, i64 a.i)]) (fun a => hp h a.bs)
      (fun a => a.i ≤ l.length ∧ bget a.bs K = some [i64 1, i64 (((l.map and1023).length + 1 : Nat) : Int), .fsl (sets start (l.map and1023)) none, .fsl (i64 0 :: zeros (l.map and1023)) none]) (fun a => l.length - a.i)
      ⟨0, bs3⟩ ⟨Nat.zero_le _, g⟩ (by exact ⟨rfl, rfl, by cases l <;> rfl, rfl, trivial⟩) rfl ?_
    clear g
    rintro ⟨i, bs4⟩ ⟨hi4, g⟩
    simp only at hi4 g ⊢
    refine W.seq ?_
    refine W.seq ?_
    repeat' (first
        | refine WS.near rfl (o_lenI hu) rfl ?_ | refine W.region ?_ | refine WS.nil ?_ | refine W.skip ?_ | refine W.block ?_ | refine W.ret ?_ | refine W.exit ?_ | refine W.yes rfl rfl ?_ | refine W.no rfl rfl ?_ | refine W.fork rfl (fun _ => ?_) (fun _ => ?_) | refine WS.guardT rfl ?_ | refine WS.guardF rfl rfl rfl ?_ | refine WS.guardK rfl (fun _ => ?_) (fun _ => ?_) | refine WS.near rfl o_mov rfl ?_ | refine WS.near rfl o_pickT rfl ?_ | refine WS.near rfl o_pickF rfl ?_ | refine WS.near rfl o_notT rfl ?_ | refine WS.near rfl o_lss rfl ?_ | refine WS.near rfl o_gtr rfl ?_ | refine WS.near rfl o_neq rfl ?_ | refine WS.near rfl o_sneq rfl ?_ | refine WS.near rfl o_lenF rfl ?_ | refine WS.near rfl o_faddr rfl ?_ | refine WS.near rfl o_loadF rfl ?_ | refine WS.near rfl (o_build rfl) rfl ?_ | refine WS.near rfl (o_storeH (by assumption) rfl rfl) rfl ?_
        | refine WS.near rfl (o_allocH 0 rfl) rfl ?_ | refine WS.near rfl (o_add (by omega) (by omega)) rfl ?_ | fail)
    refine W.seq ?_
    repeat' (first
        | refine W.region ?_ | refine WS.nil ?_ | refine W.skip ?_ | refine W.block ?_ | refine W.ret ?_ | refine W.exit ?_ | refine W.yes rfl rfl ?_ | refine W.no rfl rfl ?_ | refine W.fork rfl (fun _ => ?_) (fun _ => ?_) | refine WS.guardT rfl ?_ | refine WS.guardF rfl rfl rfl ?_ | refine WS.guardK rfl (fun _ => ?_) (fun _ => ?_) | refine WS.near rfl o_mov rfl ?_ | refine WS.near rfl o_pickT rfl ?_ | refine WS.near rfl o_pickF rfl ?_ | refine WS.near rfl o_notT rfl ?_ | refine WS.near rfl o_lss rfl ?_ | refine WS.near rfl o_gtr rfl ?_ | refine WS.near rfl o_neq rfl ?_ | refine WS.near rfl o_sneq rfl ?_ | refine WS.near rfl o_lenF rfl ?_ | refine WS.near rfl o_faddr rfl ?_ | refine WS.near rfl o_loadF rfl ?_ | refine WS.near rfl (o_build rfl) rfl ?_ | refine WS.near rfl (o_storeH (by assumption) rfl rfl) rfl ?_ | refine WS.near rfl (o_allocH 0 rfl) rfl ?_
        | refine WS.near rfl (o_add (by omega) (by omega)) rfl ?_ | fail)
    · have hlt : i < l.length := by omega
      have e2 : (l.map and1023).getD i 0 = and1023 (l.getD i 0) := by
        simp [List.getD, List.getElem?_map, List.getElem?_eq_getElem hlt]
      have hs1 := sumF_succ (l.map and1023) start i (by omega)
      have hget := sets_get (l.map and1023) start i (by omega)
      rw [e2] at hs1
      rw [hs1] at hget
      repeat' (first
          | refine WS.near rfl (o_iaddrI i hu rfl (by omega)) rfl ?_ | refine WS.near rfl o_andF rfl ?_ | refine WS.puF hf rfl rfl (radd_pu _ _) ?_ | refine WS.near rfl (o_loadH (hload_of g rfl)) rfl ?_ | refine WS.near rfl (o_iaddrF (n := i) rfl hget rfl) rfl ?_ | refine WS.near rfl (o_loadA rfl) rfl ?_ | refine WS.near rfl o_allocS rfl ?_ | refine WS.near rfl (o_storeH hf bget_badd rfl) rfl ?_ | refine WS.near rfl (o_loadH (hload_of (bget_bput bget_badd) rfl)) rfl ?_ | refine W.seq ?_ | refine W.region ?_ | refine WS.nil ?_ | refine W.skip ?_ | refine W.block ?_ | refine W.ret ?_ | refine W.exit ?_ | refine W.yes rfl rfl ?_ | refine W.no rfl rfl ?_ | refine W.fork rfl (fun _ => ?_) (fun _ => ?_) | refine WS.guardT rfl ?_ | refine WS.guardF rfl rfl rfl ?_ | refine WS.guardK rfl (fun _ => ?_) (fun _ => ?_) | refine WS.near rfl o_mov rfl ?_ | refine WS.near rfl o_pickT rfl ?_
          | refine WS.near rfl o_pickF rfl ?_ | refine WS.near rfl o_notT rfl ?_ | refine WS.near rfl o_lss rfl ?_ | refine WS.near rfl o_gtr rfl ?_ | refine WS.near rfl o_neq rfl ?_ | refine WS.near rfl o_sneq rfl ?_ | refine WS.near rfl o_lenF rfl ?_ | refine WS.near rfl o_faddr rfl ?_ | refine WS.near rfl o_loadF rfl ?_ | refine WS.near rfl (o_build rfl) rfl ?_ | refine WS.near rfl (o_storeH (by assumption) rfl rfl) rfl ?_ | refine WS.near rfl (o_allocH 0 rfl) rfl ?_ | refine WS.near rfl (o_add (by omega) (by omega)) rfl ?_ | fail)
      all_goals first
        | (exfalso; omega)
        | (exfalso; rename_i hh; exact hh rfl)
        | skip
      have e1 : (i : Int) + 1 = ((i + 1 : Nat) : Int) := by omega
      refine ⟨⟨i + 1, _⟩, ⟨by show i + 1 ≤ l.length; omega, ?_⟩, by show l.length - (i + 1) < l.length - i; omega, ⟨rfl, rfl, congrArg (fun z => some (i64 z)) hs1.symm, congrArg (fun z => some (V.int .i64 z)) e1, trivial⟩, rfl⟩
      show bget (bput (badd bs4 _) bs4.length 0 9 _) K = _
      rw [bget_bput_ne (by have := bget_lt g; omega)]
      exact bget_badd_lt g
    · skip
      repeat' (first
          | refine W.seq ?_ | refine W.region ?_ | refine WS.nil ?_ | refine W.skip ?_ | refine W.block ?_ | refine W.ret ?_ | refine W.exit ?_ | refine W.yes rfl rfl ?_ | refine W.no rfl rfl ?_ | refine W.fork rfl (fun _ => ?_) (fun _ => ?_) | refine WS.guardT rfl ?_ | refine WS.guardF rfl rfl rfl ?_ | refine WS.guardK rfl (fun _ => ?_) (fun _ => ?_) | refine WS.near rfl o_mov rfl ?_ | refine WS.near rfl o_pickT rfl ?_ | refine WS.near rfl o_pickF rfl ?_ | refine WS.near rfl o_notT rfl ?_ | refine WS.near rfl o_lss rfl ?_ | refine WS.near rfl o_gtr rfl ?_ | refine WS.near rfl o_neq rfl ?_ | refine WS.near rfl o_sneq rfl ?_ | refine WS.near rfl o_lenF rfl ?_ | refine WS.near rfl o_faddr rfl ?_ | refine WS.near rfl o_loadF rfl ?_ | refine WS.near rfl (o_build rfl) rfl ?_ | refine WS.near rfl (o_storeH (by assumption) rfl rfl) rfl ?_ | refine WS.near rfl (o_allocH 0 rfl) rfl ?_
          | refine WS.near rfl (o_add (by omega) (by omega)) rfl ?_ | fail)
      exact ⟨_, rfl, fin_bool rfl⟩
theorem law_w (u : V) (l : List Int) (start : Int) (hu : IsInts u l) : CallW D4 3 [u, i64 start] Heap.empty fun v _ => v = .bool true := (law_r u l start hu Heap.empty fine0).mono fun _ _ hc => hc.1
end Go.Proofs.YtfbikhkmamdjmaaGreatDoor.CodesS
