/- A pick: the law, walked. -/
import Derived.Test.YtfbikhkmamdjmaaGreatDoorWP8
namespace Go.Proofs.YtfbikhkmamdjmaaGreatDoor.CodesS
open Go Go.Ab
set_option maxRecDepth 100000
set_option maxHeartbeats 4000000
structure LP where
  i : Nat
  vK : V
  vW : V
  vB : V
  vC : V
  vO : V
  bs : List (Option (List V))
def abc : List Nat := [97, 98, 99, 101, 102, 103, 104, 105]
theorem name_of : ∀ i : Nat, i < 8 → ((abc.take (i + 1)).drop i) = nameP i := by decide
def slotsP (l m : List Int) (i : Nat) (vK vW vB vC vO : V) : List Slot := [⟨vK, 10, i, rowsOf kC i⟩, ⟨vW, 4, i, rowsOf wC i⟩, ⟨vB, 6, i, rowsOf (bC l) i⟩, ⟨vC, 6, i, rowsOf (bC m) i⟩, ⟨vO, 2, i, rowsOf oC i⟩]
theorem ticks_hyp : True := trivial
theorem law_r (hT : ∀ (l : List Int), 1 ≤ l.length → l.length ≤ 8 → ∀ t : Nat, t < l.length → bestAt l l.length = (t : Nat) → CallW DP2 8 [topP l.length, .nilsl, envP l] Heap.empty fun v h1 => V.own v = true ∧ Go.Ab.freeze h1.clean 0 fuelF v = some (res1 l.length t))
    (hN : ∀ (l : List Int), 1 ≤ l.length → l.length ≤ 8 → ∀ t u : Nat, t < l.length → u < l.length → bestAt l l.length = (u : Nat) → CallW DP2 8 [topP l.length, stP l.length t, envP l] Heap.empty fun v h1 => V.own v = true ∧ Go.Ab.freeze h1.clean 0 fuelF v = some (if t = u then res1 l.length t else res2 l.length t u))
    (u w : V) (l m : List Int) (hu : IsInts u l) (hw : IsInts w m) : PuF DQ 5 [u, w] (.bool true) := by
  refine PuF.tidy rfl rfl rfl rfl rfl fun h hf => ?_
  by_cases hin : 1 ≤ l.length ∧ l.length ≤ 8 ∧ l.length ≤ m.length
  · obtain ⟨h1, h8, hlm⟩ := hin
    repeat' (first
        | refine WS.puF hf rfl rfl alive_pu ?_ | refine WS.near rfl (o_lenI hu) rfl ?_ | refine WS.near rfl (o_lenI hw) rfl ?_ | refine W.seq ?_ | refine W.region ?_ | refine WS.nil ?_ | refine W.skip ?_ | refine W.block ?_ | refine W.ret ?_ | refine W.yes rfl rfl ?_ | refine W.fork rfl (fun _ => ?_) (fun _ => ?_) | refine WS.guardT rfl ?_ | refine WS.guardF rfl rfl rfl ?_ | refine WS.guardK rfl (fun _ => ?_) (fun _ => ?_) | refine WS.near rfl o_mov rfl ?_ | refine WS.near rfl o_pickT rfl ?_ | refine WS.near rfl o_pickF rfl ?_ | refine WS.near rfl o_notT rfl ?_ | refine WS.near rfl o_lss rfl ?_ | refine WS.near rfl o_gtr rfl ?_ | refine WS.near rfl (o_build rfl) rfl ?_ | refine WS.near rfl (o_storeH (by assumption) rfl rfl) rfl ?_ | refine WS.near rfl (o_allocH 0 rfl) rfl ?_ | refine WS.near rfl (o_allocH 1 rfl) rfl ?_ | refine WS.near rfl (o_allocH 2 rfl) rfl ?_ | fail)
    all_goals first | (exfalso; omega) | skip
    refine W.loop (fun a : LP => [(0, u), (1, w), (4, .mptr (h.next + 0) 0), (5, .mptr (h.next + 1) 0), (6, .mptr (h.next + 2) 0), (7, i64 a.i)]) (fun a => hp h a.bs)
      (fun a => a.i ≤ l.length ∧ bget a.bs 0 = some (tC a.vK a.vW) ∧ bget a.bs 1 = some (eC a.vB a.vO) ∧ bget a.bs 2 = some (eC a.vC .nilsl) ∧ Slots h a.bs (· < 3) (slotsP l m a.i a.vK a.vW a.vB a.vC a.vO)) (fun a => l.length - a.i)
      ⟨0, .nilsl, .nilsl, .nilsl, .nilsl, .nilsl, [some (tC .nilsl .nilsl), some (eC .nilsl .nilsl), some (eC .nilsl .nilsl)]⟩ ⟨Nat.zero_le _, rfl, rfl, rfl, ?_⟩ ⟨rfl, rfl, rfl, rfl, rfl, rfl, trivial⟩ rfl ?_
    · refine ⟨fun s hs => ?_, ?_, fun s hs j hj => ?_, fun j hj => hj⟩
      · simp only [slotsP, List.mem_cons, List.not_mem_nil, or_false] at hs
        rcases hs with rfl | rfl | rfl | rfl | rfl <;> exact IsSl.nil
      · have hno : ∀ (z n : Nat) (rw' : List V) (j : Nat), ¬ Slot.at' h ⟨.nilsl, z, n, rw'⟩ j := fun z n rw' j hj => by
          obtain ⟨a, b, c, d, e⟩ := hj
          cases e
        simp only [slotsP, List.pairwise_cons, List.mem_cons, List.not_mem_nil, or_false]
        refine ⟨fun t _ j hj => absurd hj (hno _ _ _ _), fun t _ j hj => absurd hj (hno _ _ _ _), fun t _ j hj => absurd hj (hno _ _ _ _), fun t _ j hj => absurd hj (hno _ _ _ _), ?_⟩
        exact ⟨fun t h => h.elim, List.Pairwise.nil⟩
      · simp only [slotsP, List.mem_cons, List.not_mem_nil, or_false] at hs
        obtain ⟨a, b, c, d, e⟩ := hj
        rcases hs with rfl | rfl | rfl | rfl | rfl <;> cases e
    rintro ⟨i, vK, vW, vB, vC, vO, bs⟩ ⟨hi, hb0, hb1, hb2, hS⟩
    simp only at hi hb0 hb1 hb2 hS ⊢
    by_cases hlt : i < l.length
    · have e1 : (i : Int) + 1 = ((i + 1 : Nat) : Int) := by omega
      have hnm := name_of i (by omega)
      refine W.seq ?_
      refine W.seq ?_
      repeat' (first
          | refine WS.near rfl (o_lenI hu) rfl ?_ | refine W.region ?_ | refine WS.nil ?_ | refine W.skip ?_ | refine W.exit ?_ | refine W.fork rfl (fun _ => ?_) (fun _ => ?_) | refine WS.near rfl o_lss rfl ?_ | fail)
      all_goals first | (exfalso; omega) | skip
      repeat' (first
          | refine WS.near' rfl (o_sliceS i (i + 1) rfl e1 (by omega) (by show i + 1 ≤ 8; omega)) rfl (congrArg V.str hnm) ?_ | refine W.seq ?_ | refine W.region ?_ | refine WS.nil ?_ | refine W.block ?_ | refine WS.near rfl o_faddr rfl ?_ | refine WS.near rfl (o_add (by omega) (by omega)) rfl ?_ | fail)
      repeat' (first
          | refine WS.near rfl (o_loadH (hload_of hb0 rfl)) rfl ?_ | refine WS.near rfl (o_build rfl) rfl ?_ | fail)
      refine WS.near rfl (o_litS (cs := kC i) rfl) rfl ?_
      obtain ⟨jK, bsA0, hd0, hSA0, hk0⟩ := Slots.app2 (A := []) (s := ⟨vK, 10, i, rowsOf kC i⟩) (B := [⟨vW, 4, i, rowsOf wC i⟩, ⟨vB, 6, i, rowsOf (bC l) i⟩, ⟨vC, 6, i, rowsOf (bC m) i⟩, ⟨vO, 2, i, rowsOf oC i⟩]) hf hS (c := kC i) (bytes := 144) rfl (by show 0 < 10; decide) (by show (i + 1) * 144 ≤ 140737488355328; omega)
      refine WS.near rfl hd0 rfl ?_
      have g0x0 := hk0 0 _ (show 0 < 3 by decide) hb0
      have g0x1 := hk0 1 _ (show 1 < 3 by decide) hb1
      have g0x2 := hk0 2 _ (show 2 < 3 by decide) hb2
      refine WS.near rfl o_faddr rfl ?_
      refine WS.putV rfl hf g0x0 rfl rfl fun bs0 hq0 => ?_
      have hS0 := hSA0.bput (k := 0) (off := 0 + 8) (n := 1) (cs := V.cells (.msl (h.next + jK) 10 0 (i + 1) none)) (show 0 < 3 by decide)
      rw [← hq0] at hS0
      have h0b0 : bget bs0 0 = some (tC (.msl (h.next + jK) 10 0 (i + 1) none) vW) := by rw [hq0, bget_bput g0x0]; rfl
      have h0b1 : bget bs0 1 = some (eC vB vO) := by rw [hq0, bget_bput_ne (by decide)]; exact g0x1
      have h0b2 : bget bs0 2 = some (eC vC .nilsl) := by rw [hq0, bget_bput_ne (by decide)]; exact g0x2
      repeat' (first
          | refine WS.near rfl (o_loadH (hload_of h0b0 rfl)) rfl ?_ | refine W.seq ?_ | refine W.region ?_ | refine WS.nil ?_ | refine WS.near rfl o_faddr rfl ?_ | refine WS.near rfl (o_build rfl) rfl ?_ | fail)
      refine WS.near rfl (o_litS (cs := wC i) rfl) rfl ?_
      obtain ⟨jW, bsA1, hd1, hSA1, hk1⟩ := Slots.app2 (A := [⟨.msl (h.next + jK) 10 0 (i + 1) none, 10, i + 1, rowsOf kC i ++ kC i⟩]) (s := ⟨vW, 4, i, rowsOf wC i⟩) (B := [⟨vB, 6, i, rowsOf (bC l) i⟩, ⟨vC, 6, i, rowsOf (bC m) i⟩, ⟨vO, 2, i, rowsOf oC i⟩]) hf hS0 (c := wC i) (bytes := 56) rfl (by show 0 < 4; decide) (by show (i + 1) * 56 ≤ 140737488355328; omega)
      refine WS.near rfl hd1 rfl ?_
      have g1x0 := hk1 0 _ (show 0 < 3 by decide) h0b0
      have g1x1 := hk1 1 _ (show 1 < 3 by decide) h0b1
      have g1x2 := hk1 2 _ (show 2 < 3 by decide) h0b2
      refine WS.near rfl o_faddr rfl ?_
      refine WS.putV rfl hf g1x0 rfl rfl fun bs1 hq1 => ?_
      have hS1 := hSA1.bput (k := 0) (off := 0 + 9) (n := 1) (cs := V.cells (.msl (h.next + jW) 4 0 (i + 1) none)) (show 0 < 3 by decide)
      rw [← hq1] at hS1
      have h1b0 : bget bs1 0 = some (tC (.msl (h.next + jK) 10 0 (i + 1) none) (.msl (h.next + jW) 4 0 (i + 1) none)) := by rw [hq1, bget_bput g1x0]; rfl
      have h1b1 : bget bs1 1 = some (eC vB vO) := by rw [hq1, bget_bput_ne (by decide)]; exact g1x1
      have h1b2 : bget bs1 2 = some (eC vC .nilsl) := by rw [hq1, bget_bput_ne (by decide)]; exact g1x2
      repeat' (first
          | refine WS.near rfl (o_loadH (hload_of h1b1 rfl)) rfl ?_ | refine WS.near rfl (o_iaddrI i hu rfl (by omega)) rfl ?_ | refine W.seq ?_ | refine W.region ?_ | refine WS.nil ?_ | refine WS.near rfl o_faddr rfl ?_ | refine WS.near rfl o_loadF rfl ?_ | refine WS.near rfl (o_build rfl) rfl ?_ | fail)
      refine WS.near rfl (o_litS (cs := bC l i) rfl) rfl ?_
      obtain ⟨jB, bsA2, hd2, hSA2, hk2⟩ := Slots.app2 (A := [⟨.msl (h.next + jK) 10 0 (i + 1) none, 10, i + 1, rowsOf kC i ++ kC i⟩, ⟨.msl (h.next + jW) 4 0 (i + 1) none, 4, i + 1, rowsOf wC i ++ wC i⟩]) (s := ⟨vB, 6, i, rowsOf (bC l) i⟩) (B := [⟨vC, 6, i, rowsOf (bC m) i⟩, ⟨vO, 2, i, rowsOf oC i⟩]) hf hS1 (c := bC l i) (bytes := 72) rfl (by show 0 < 6; decide) (by show (i + 1) * 72 ≤ 140737488355328; omega)
      refine WS.near rfl hd2 rfl ?_
      have g2x0 := hk2 0 _ (show 0 < 3 by decide) h1b0
      have g2x1 := hk2 1 _ (show 1 < 3 by decide) h1b1
      have g2x2 := hk2 2 _ (show 2 < 3 by decide) h1b2
      refine WS.near rfl o_faddr rfl ?_
      refine WS.putV rfl hf g2x1 rfl rfl fun bs2 hq2 => ?_
      have hS2 := hSA2.bput (k := 1) (off := 0 + 3) (n := 1) (cs := V.cells (.msl (h.next + jB) 6 0 (i + 1) none)) (show 1 < 3 by decide)
      rw [← hq2] at hS2
      have h2b0 : bget bs2 0 = some (tC (.msl (h.next + jK) 10 0 (i + 1) none) (.msl (h.next + jW) 4 0 (i + 1) none)) := by rw [hq2, bget_bput_ne (by decide)]; exact g2x0
      have h2b1 : bget bs2 1 = some (eC (.msl (h.next + jB) 6 0 (i + 1) none) vO) := by rw [hq2, bget_bput g2x1]; rfl
      have h2b2 : bget bs2 2 = some (eC vC .nilsl) := by rw [hq2, bget_bput_ne (by decide)]; exact g2x2
      repeat' (first
          | refine WS.near rfl (o_loadH (hload_of h2b2 rfl)) rfl ?_ | refine WS.near rfl (o_iaddrI i hw rfl (by omega)) rfl ?_ | refine W.seq ?_ | refine W.region ?_ | refine WS.nil ?_ | refine WS.near rfl o_faddr rfl ?_ | refine WS.near rfl o_loadF rfl ?_ | refine WS.near rfl (o_build rfl) rfl ?_ | fail)
      refine WS.near rfl (o_litS (cs := bC m i) rfl) rfl ?_
      obtain ⟨jC, bsA3, hd3, hSA3, hk3⟩ := Slots.app2 (A := [⟨.msl (h.next + jK) 10 0 (i + 1) none, 10, i + 1, rowsOf kC i ++ kC i⟩, ⟨.msl (h.next + jW) 4 0 (i + 1) none, 4, i + 1, rowsOf wC i ++ wC i⟩, ⟨.msl (h.next + jB) 6 0 (i + 1) none, 6, i + 1, rowsOf (bC l) i ++ bC l i⟩]) (s := ⟨vC, 6, i, rowsOf (bC m) i⟩) (B := [⟨vO, 2, i, rowsOf oC i⟩]) hf hS2 (c := bC m i) (bytes := 72) rfl (by show 0 < 6; decide) (by show (i + 1) * 72 ≤ 140737488355328; omega)
      refine WS.near rfl hd3 rfl ?_
      have g3x0 := hk3 0 _ (show 0 < 3 by decide) h2b0
      have g3x1 := hk3 1 _ (show 1 < 3 by decide) h2b1
      have g3x2 := hk3 2 _ (show 2 < 3 by decide) h2b2
      refine WS.near rfl o_faddr rfl ?_
      refine WS.putV rfl hf g3x2 rfl rfl fun bs3 hq3 => ?_
      have hS3 := hSA3.bput (k := 2) (off := 0 + 3) (n := 1) (cs := V.cells (.msl (h.next + jC) 6 0 (i + 1) none)) (show 2 < 3 by decide)
      rw [← hq3] at hS3
      have h3b0 : bget bs3 0 = some (tC (.msl (h.next + jK) 10 0 (i + 1) none) (.msl (h.next + jW) 4 0 (i + 1) none)) := by rw [hq3, bget_bput_ne (by decide)]; exact g3x0
      have h3b1 : bget bs3 1 = some (eC (.msl (h.next + jB) 6 0 (i + 1) none) vO) := by rw [hq3, bget_bput_ne (by decide)]; exact g3x1
      have h3b2 : bget bs3 2 = some (eC (.msl (h.next + jC) 6 0 (i + 1) none) .nilsl) := by rw [hq3, bget_bput g3x2]; rfl
      repeat' (first
          | refine WS.near rfl (o_loadH (hload_of h3b1 rfl)) rfl ?_ | refine W.region ?_ | refine WS.nil ?_ | refine WS.near rfl o_faddr rfl ?_ | refine WS.near rfl (o_build rfl) rfl ?_ | fail)
      refine WS.near rfl (o_litS (cs := oC i) rfl) rfl ?_
      obtain ⟨jO, bsA4, hd4, hSA4, hk4⟩ := Slots.app2 (A := [⟨.msl (h.next + jK) 10 0 (i + 1) none, 10, i + 1, rowsOf kC i ++ kC i⟩, ⟨.msl (h.next + jW) 4 0 (i + 1) none, 4, i + 1, rowsOf wC i ++ wC i⟩, ⟨.msl (h.next + jB) 6 0 (i + 1) none, 6, i + 1, rowsOf (bC l) i ++ bC l i⟩, ⟨.msl (h.next + jC) 6 0 (i + 1) none, 6, i + 1, rowsOf (bC m) i ++ bC m i⟩]) (s := ⟨vO, 2, i, rowsOf oC i⟩) (B := []) hf hS3 (c := oC i) (bytes := 24) rfl (by show 0 < 2; decide) (by show (i + 1) * 24 ≤ 140737488355328; omega)
      refine WS.near rfl hd4 rfl ?_
      have g4x0 := hk4 0 _ (show 0 < 3 by decide) h3b0
      have g4x1 := hk4 1 _ (show 1 < 3 by decide) h3b1
      have g4x2 := hk4 2 _ (show 2 < 3 by decide) h3b2
      refine WS.near rfl o_faddr rfl ?_
      refine WS.putV rfl hf g4x1 rfl rfl fun bs4 hq4 => ?_
      have hS4 := hSA4.bput (k := 1) (off := 0 + 4) (n := 1) (cs := V.cells (.msl (h.next + jO) 2 0 (i + 1) none)) (show 1 < 3 by decide)
      rw [← hq4] at hS4
      have h4b0 : bget bs4 0 = some (tC (.msl (h.next + jK) 10 0 (i + 1) none) (.msl (h.next + jW) 4 0 (i + 1) none)) := by rw [hq4, bget_bput_ne (by decide)]; exact g4x0
      have h4b1 : bget bs4 1 = some (eC (.msl (h.next + jB) 6 0 (i + 1) none) (.msl (h.next + jO) 2 0 (i + 1) none)) := by rw [hq4, bget_bput g4x1]; rfl
      have h4b2 : bget bs4 2 = some (eC (.msl (h.next + jC) 6 0 (i + 1) none) .nilsl) := by rw [hq4, bget_bput_ne (by decide)]; exact g4x2
      repeat' (first
          | refine W.region ?_ | refine WS.nil ?_ | refine WS.near rfl (o_add (by omega) (by omega)) rfl ?_ | fail)
      refine ⟨⟨i + 1, .msl (h.next + jK) 10 0 (i + 1) none, .msl (h.next + jW) 4 0 (i + 1) none, .msl (h.next + jB) 6 0 (i + 1) none, .msl (h.next + jC) 6 0 (i + 1) none, .msl (h.next + jO) 2 0 (i + 1) none, bs4⟩, ⟨by show i + 1 ≤ l.length; omega, h4b0, h4b1, h4b2, ?_⟩, by show l.length - (i + 1) < l.length - i; omega, ⟨rfl, rfl, rfl, rfl, rfl, congrArg (fun z => some (V.int .i64 z)) e1, trivial⟩, rfl⟩
      simp only [slotsP, rows_succ]
      exact hS4
    · obtain rfl : i = l.length := by omega
      have hu2 : u = .fsl (l.map i64) none := by
        rcases hu with ⟨_, rfl⟩ | ⟨_, rfl⟩ | ⟨h, _⟩
        · simp at h1
        · simp at h1
        · exact h
      have hw2 : w = .fsl (m.map i64) none := by
        rcases hw with ⟨_, rfl⟩ | ⟨_, rfl⟩ | ⟨h, _⟩
        · simp only [List.length_nil] at hlm; omega
        · simp only [List.length_nil] at hlm; omega
        · exact h
      have hml : (m.take l.length).length = l.length := by rw [List.length_take]; omega
      have hba := bestAt_lt l l.length
      have hbb := bestAt_lt (m.take l.length) l.length
      obtain ⟨a, ha⟩ := Int.eq_ofNat_of_zero_le (hba.2.2 h1)
      obtain ⟨b, hb⟩ := Int.eq_ofNat_of_zero_le (hbb.2.2 h1)
      have han : a < l.length := by omega
      have hbn : b < l.length := by omega
      have hp1 := bestR_pu l none h8
      have hp2 := bestR_pu (m.take l.length) none (by omega)
      rw [hml] at hp2
      rw [ha] at hp1
      rw [hb] at hp2
      have hT1 := hT l h1 h8 a han ha
      have hN1 := hN (m.take l.length) (by omega) (by omega) a b (by omega) (by omega) (by rw [hml]; exact hb)
      rw [hml] at hN1
      have sK : IsSl h bs 10 vK l.length (rowsOf kC l.length) := hS.sl ⟨vK, 10, l.length, rowsOf kC l.length⟩ (by simp [slotsP])
      have sO : IsSl h bs 2 vO l.length (rowsOf oC l.length) := hS.sl ⟨vO, 2, l.length, rowsOf oC l.length⟩ (by simp [slotsP])
      obtain ⟨kk, ck, rfl, hkb, _, hck⟩ := sl_some sK (by show 0 < l.length; omega)
      obtain ⟨ko, co, rfl, _, _, _⟩ := sl_some sO (by show 0 < l.length; omega)
      have hkn : ¬ kk < 3 := hS.off ⟨.msl (h.next + kk) 10 0 l.length none, 10, l.length, rowsOf kC l.length⟩ (by simp [slotsP]) kk ⟨_, _, _, _, rfl⟩
      have hcell : (ck.drop ((0 + a) * 10 + 3)).head? = some (.str (nameP a)) := by
        rw [Nat.zero_add]
        exact cell_at (fun _ => rfl) hck han (by decide) rfl
      have hcellb : (ck.drop ((0 + b) * 10 + 3)).head? = some (.str (nameP b)) := by
        rw [Nat.zero_add]
        exact cell_at (fun _ => rfl) hck hbn (by decide) rfl
      subst hu2
      subst hw2
      refine W.seq ?_
      refine W.seq ?_
      repeat' (first
          | refine WS.near rfl (o_lenI hu) rfl ?_ | refine W.region ?_ | refine WS.nil ?_ | refine W.skip ?_ | refine W.exit ?_ | refine W.fork rfl (fun _ => ?_) (fun _ => ?_) | refine WS.near rfl o_lss rfl ?_ | fail)
      all_goals first | (exfalso; omega) | skip
      repeat' (first
          | refine WS.near rfl (o_loadH (hload_of hb1 rfl)) rfl ?_ | refine W.seq ?_ | refine W.region ?_ | refine WS.near rfl o_faddr rfl ?_ | fail)
      refine WS.putV rfl hf hb2 rfl rfl fun bs2 hq2 => ?_
      have hS2 := hS.bput (k := 2) (off := 0 + 4) (n := 1) (cs := V.cells (.msl (h.next + ko) 2 0 l.length none)) (show 2 < 3 by decide)
      rw [← hq2] at hS2
      have c0 : bget bs2 0 = some (tC (.msl (h.next + kk) 10 0 l.length none) vW) := by rw [hq2, bget_bput_ne (by decide)]; exact hb0
      have c1 : bget bs2 1 = some (eC vB (.msl (h.next + ko) 2 0 l.length none)) := by rw [hq2, bget_bput_ne (by decide)]; exact hb1
      have c2 : bget bs2 2 = some (eC vC (.msl (h.next + ko) 2 0 l.length none)) := by rw [hq2, bget_bput hb2]; rfl
      have ck2 : bget bs2 kk = some ck := by rw [hq2, bget_bput_ne (by omega)]; exact hkb
      clear hb0 hb1 hb2 hS hkb hq2
      have frz : ∀ bsX, Slots h bsX (· < 3) (slotsP l m l.length (.msl (h.next + kk) 10 0 l.length none) vW vB vC (.msl (h.next + ko) 2 0 l.length none)) →
          freezes (hp h bsX) 0 fuelF [.agg (tC (.msl (h.next + kk) 10 0 l.length none) vW), .nilsl, .agg (eC vB (.msl (h.next + ko) 2 0 l.length none))] = some [topP l.length, .nilsl, envP l] ∧
          freezes (hp h bsX) 0 fuelF [.agg (tC (.msl (h.next + kk) 10 0 l.length none) vW), stP l.length a, .agg (eC vC (.msl (h.next + ko) 2 0 l.length none))] = some [topP l.length, stP l.length a, envP (m.take l.length)] := fun bsX hX => by
        have xK : IsSl h bsX 10 (.msl (h.next + kk) 10 0 l.length none) l.length (rowsOf kC l.length) := hX.sl ⟨.msl (h.next + kk) 10 0 l.length none, 10, l.length, rowsOf kC l.length⟩ (by simp [slotsP])
        have xW : IsSl h bsX 4 (vW) l.length (rowsOf wC l.length) := hX.sl ⟨vW, 4, l.length, rowsOf wC l.length⟩ (by simp [slotsP])
        have xB : IsSl h bsX 6 (vB) l.length (rowsOf (bC l) l.length) := hX.sl ⟨vB, 6, l.length, rowsOf (bC l) l.length⟩ (by simp [slotsP])
        have xC : IsSl h bsX 6 (vC) l.length (rowsOf (bC m) l.length) := hX.sl ⟨vC, 6, l.length, rowsOf (bC m) l.length⟩ (by simp [slotsP])
        have xO : IsSl h bsX 2 (.msl (h.next + ko) 2 0 l.length none) l.length (rowsOf oC l.length) := hX.sl ⟨.msl (h.next + ko) 2 0 l.length none, 2, l.length, rowsOf oC l.length⟩ (by simp [slotsP])
        have fB : ∀ j, 60 < j → Go.Ab.freeze (hp h bsX) 0 j vB = some (.fsl (bdP l 0) none) := fun j hj => by
          have := frz_b xB (by omega) h8 (Nat.le_refl _) hj
          rw [List.take_length] at this
          exact this
        have fO : ∀ j, 60 < j → Go.Ab.freeze (hp h bsX) 0 j (.msl (h.next + ko) 2 0 l.length none) = some (.fsl (upP outP l.length 0) none) := fun j hj => frz_o xO (by omega) h8 hj
        have ft := frz_top (fun j hj => frz_k xK (by omega) h8 hj) (fun j hj => frz_w xW (by omega) h8 hj)
        refine ⟨frz3 ft (fun j hj => ?_) (frz_env fB fO), ?_⟩
        · obtain ⟨g, rfl⟩ : ∃ g, j = g + 1 := ⟨j - 1, by omega⟩
          rfl
        · have e2 : envP (m.take l.length) = .agg (eC (.fsl (bdP (m.take l.length) 0) none) (.fsl (upP outP l.length 0) none)) := by unfold envP; rw [hml]; rfl
          rw [e2]
          refine frz3 ft (fun j hj => ?_) (frz_env (fun j hj => frz_b xC (by omega) h8 hlm hj) fO)
          obtain ⟨g, rfl⟩ : ∃ g, j = g + 1 := ⟨j - 1, by omega⟩
          rfl
      repeat' (first
          | refine WS.near rfl (o_lenI hu) rfl ?_ | refine WS.puF hf rfl rfl hp1 ?_ | refine WS.puF hf rfl rfl hp2 ?_ | refine WS.near rfl (o_sliceI hlm) rfl ?_ | refine WS.near rfl (o_loadHN c0 rfl) rfl ?_ | refine WS.near rfl (o_loadHN c1 rfl) rfl ?_ | refine W.seq ?_ | refine W.region ?_ | refine WS.nil ?_ | fail)
      refine WS.fresh (p := [topP l.length, .nilsl, envP l]) rfl rfl rfl rfl (frz bs2 hS2).1 hT1 ?_
      refine WS.near rfl o_allocS rfl ?_
      refine WS.putV rfl hf bget_badd rfl rfl fun bs3 hq3 => ?_
      have len3 : bs3.length = bs2.length + 1 := by rw [hq3, bput_len, badd_len]
      have keep3 : ∀ j c, bget bs2 j = some c → bget bs3 j = some c := fun j c e => by rw [hq3, bget_bput_ne (Nat.ne_of_lt (bget_lt e))]; exact bget_badd_lt e
      have r3 : bget bs3 bs2.length = some [i64 3, i64 2, .fsl [actP 1 3 a] none, stP l.length a] := by rw [hq3, bget_bput bget_badd]; rfl
      have hS3 := hS2.keep (bs' := bs3) (fun j c _ e => keep3 j c e) (by omega)
      repeat' (first
          | refine WS.near rfl (o_loadHN (keep3 0 _ c0) rfl) rfl ?_ | refine WS.near rfl (o_loadHN (keep3 2 _ c2) rfl) rfl ?_ | refine WS.near rfl (o_loadH (hload_of r3 rfl)) rfl ?_ | refine W.seq ?_ | refine W.region ?_ | refine WS.nil ?_ | refine WS.near rfl o_faddr rfl ?_ | fail)
      by_cases hab : a = b
      · rw [if_pos hab] at hN1
        refine WS.fresh (p := [topP l.length, stP l.length a, envP (m.take l.length)]) rfl rfl rfl rfl (frz bs3 hS3).2 hN1 ?_
        refine WS.near rfl o_allocS rfl ?_
        refine WS.putV rfl hf bget_badd rfl rfl fun bs4 hq4 => ?_
        have keep4 : ∀ j c, bget bs3 j = some c → bget bs4 j = some c := fun j c e => by rw [hq4, bget_bput_ne (Nat.ne_of_lt (bget_lt e))]; exact bget_badd_lt e
        have r4 : bget bs4 bs3.length = some [i64 3, i64 2, .fsl [actP 1 3 a] none, stP l.length a] := by rw [hq4, bget_bput bget_badd]; rfl
        replace r3 := keep4 _ _ r3
        have d0 := keep4 _ _ (keep3 0 _ c0)
        have dk := keep4 _ _ (keep3 kk _ ck2)
        repeat' (first
            | refine WS.near rfl (o_eqlY rfl) rfl ?_ | refine WS.near rfl (o_neqX rfl) rfl ?_ | refine WS.near rfl (o_eqlY (by omega)) rfl ?_ | refine WS.near rfl o_sneqX rfl ?_ | refine WS.near rfl o_lenSt rfl ?_ | refine WS.near rfl (o_iaddrF (n := 0) rfl rfl rfl) rfl ?_ | refine WS.near rfl (o_iaddrM (n := a) rfl han) rfl ?_ | refine WS.near rfl (o_loadH (hload_of r3 rfl)) rfl ?_ | refine WS.near rfl (o_loadH (hload_of r4 rfl)) rfl ?_ | refine WS.near rfl (o_loadH (hload_of d0 rfl)) rfl ?_ | refine WS.near rfl (o_loadH (hload_of dk hcell)) rfl ?_ | refine WS.near rfl (o_lenI hu) rfl ?_ | refine W.seq ?_ | refine W.region ?_ | refine WS.nil ?_ | refine W.skip ?_ | refine W.ret ?_ | refine W.yes rfl rfl ?_ | refine W.no rfl rfl ?_ | refine WS.guardT rfl ?_ | refine WS.near rfl o_pickT rfl ?_ | refine WS.near rfl o_pickF rfl ?_ | refine WS.near rfl o_seqlR rfl ?_ | refine WS.near rfl o_lenF rfl ?_
            | refine WS.near rfl o_faddr rfl ?_ | refine WS.near rfl o_loadF rfl ?_ | refine WS.near rfl (o_add (by omega) (by omega)) rfl ?_ | refine WS.near rfl (o_iaddrF (n := 0) rfl rfl rfl) rfl ?_ | refine WS.near rfl (o_faddrF (Nat.le_of_ble_eq_true rfl)) rfl ?_ | fail)
        exact ⟨_, rfl, fin_bool rfl⟩
      · rw [if_neg hab] at hN1
        refine WS.fresh (p := [topP l.length, stP l.length a, envP (m.take l.length)]) rfl rfl rfl rfl (frz bs3 hS3).2 hN1 ?_
        refine WS.near rfl o_allocS rfl ?_
        refine WS.putV rfl hf bget_badd rfl rfl fun bs4 hq4 => ?_
        have keep4 : ∀ j c, bget bs3 j = some c → bget bs4 j = some c := fun j c e => by rw [hq4, bget_bput_ne (Nat.ne_of_lt (bget_lt e))]; exact bget_badd_lt e
        have r4 : bget bs4 bs3.length = some [i64 3, i64 2, .fsl [actP 2 0 a, actP 1 3 b] none, stP l.length b] := by rw [hq4, bget_bput bget_badd]; rfl
        replace r3 := keep4 _ _ r3
        have d0 := keep4 _ _ (keep3 0 _ c0)
        have dk := keep4 _ _ (keep3 kk _ ck2)
        repeat' (first
            | refine WS.near rfl (o_eqlY rfl) rfl ?_ | refine WS.near rfl (o_neqX rfl) rfl ?_ | refine WS.near rfl (o_eqlX (by omega)) rfl ?_ | refine WS.near rfl o_sneqX rfl ?_ | refine WS.near rfl o_lenSt rfl ?_ | refine WS.near rfl (o_iaddrF (n := 0) rfl rfl rfl) rfl ?_ | refine WS.near rfl (o_iaddrF (n := 1) rfl rfl rfl) rfl ?_ | refine WS.near rfl (o_iaddrM (n := a) rfl han) rfl ?_ | refine WS.near rfl (o_iaddrM (n := b) rfl hbn) rfl ?_ | refine WS.near rfl (o_loadH (hload_of r3 rfl)) rfl ?_ | refine WS.near rfl (o_loadH (hload_of r4 rfl)) rfl ?_ | refine WS.near rfl (o_loadH (hload_of d0 rfl)) rfl ?_ | refine WS.near rfl (o_loadH (hload_of dk hcell)) rfl ?_ | refine WS.near rfl (o_loadH (hload_of dk hcellb)) rfl ?_ | refine WS.near rfl (o_lenI hu) rfl ?_ | refine W.seq ?_ | refine W.region ?_ | refine WS.nil ?_ | refine W.skip ?_ | refine W.ret ?_ | refine W.no rfl rfl ?_
            | refine WS.guardT rfl ?_ | refine WS.near rfl o_pickT rfl ?_ | refine WS.near rfl o_pickF rfl ?_ | refine WS.near rfl o_seqlR rfl ?_ | refine WS.near rfl o_lenF rfl ?_ | refine WS.near rfl o_faddr rfl ?_ | refine WS.near rfl o_loadF rfl ?_ | refine WS.near rfl (o_add (by omega) (by omega)) rfl ?_ | refine WS.near rfl (o_iaddrF (n := 0) rfl rfl rfl) rfl ?_ | refine WS.near rfl (o_faddrF (Nat.le_of_ble_eq_true rfl)) rfl ?_ | fail)
        exact ⟨_, rfl, fin_bool rfl⟩
  · skip
    repeat' (first
        | refine WS.puF hf rfl rfl alive_pu ?_ | refine WS.near rfl (o_lenI hu) rfl ?_ | refine WS.near rfl (o_lenI hw) rfl ?_ | refine W.seq ?_ | refine W.region ?_ | refine WS.nil ?_ | refine W.skip ?_ | refine W.block ?_ | refine W.ret ?_ | refine W.yes rfl rfl ?_ | refine W.fork rfl (fun _ => ?_) (fun _ => ?_) | refine WS.guardT rfl ?_ | refine WS.guardF rfl rfl rfl ?_ | refine WS.guardK rfl (fun _ => ?_) (fun _ => ?_) | refine WS.near rfl o_mov rfl ?_ | refine WS.near rfl o_pickT rfl ?_ | refine WS.near rfl o_pickF rfl ?_ | refine WS.near rfl o_notT rfl ?_ | refine WS.near rfl o_lss rfl ?_ | refine WS.near rfl o_gtr rfl ?_ | refine WS.near rfl (o_build rfl) rfl ?_ | refine WS.near rfl (o_storeH (by assumption) rfl rfl) rfl ?_ | refine WS.near rfl (o_allocH 0 rfl) rfl ?_ | refine WS.near rfl (o_allocH 1 rfl) rfl ?_ | refine WS.near rfl (o_allocH 2 rfl) rfl ?_ | fail)
    all_goals first | exact ⟨_, rfl, fin_bool rfl⟩ | (exfalso; omega)
end Go.Proofs.YtfbikhkmamdjmaaGreatDoor.CodesS
