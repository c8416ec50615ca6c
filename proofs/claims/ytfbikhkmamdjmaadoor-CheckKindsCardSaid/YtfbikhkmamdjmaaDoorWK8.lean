/- The kinds of expressions: by the document. -/
import Derived.Test.YtfbikhkmamdjmaaDoorWKT1
import Derived.Test.YtfbikhkmamdjmaaDoorWKT2
import Derived.Test.YtfbikhkmamdjmaaDoorWKT3
import Derived.Test.YtfbikhkmamdjmaaDoorWKT4
namespace Go.Proofs.YtfbikhkmamdjmaaDoor.CodesK
open Go Go.Ab
set_option maxHeartbeats 8000000
set_option maxRecDepth 100000

def arr (acc : List Int) : List V := [i64 (acc.getD 0 0), i64 (acc.getD 1 0)]
structure RL where
  i : Nat
  acc : List Int
theorem rkind_pu (u : V) (l : List KY) (hu : IsFz u (l.map KY.v)) (hl : l.length ≤ 30) : ∀ (m : Nat) (x : EX), x.Ok → rightF m x = true → PuF D2 40 [x.v, u] (.tup [i64 (kindF l m x).1, i64 (kindF l m x).2])
  | 0, x, _, h => by simp [rightF] at h
  | m + 1, .mk k n s kids ux, hx, hr => by
    have hkm : (kids.map EX.v).length = kids.length := List.length_map ..
    obtain ⟨hok, hkr⟩ := right_inv hr
    have hfz := hx.fz
    have har := hok.ar
    have hk0 := hok.k0
    have hk1 := hok.k1
    have hkid : ∀ {i : Nat}, i < kids.length → (kids.getD i default).Ok := fun hi => hx.kid hi
    dsimp only [EX.k, EX.n, EX.name, EX.kids, EX.u] at hkr hfz har hk0 hk1
    have har2 := arity_le k
    have hsm : kids.length ≤ 2 := by omega
    have hfk := firstK_lt s l 0
    have e0 : ¬ kids.length = 0 → kindF l (m + 1) (.mk k n s kids ux) = endF k (kgo (kindF l m) kids []) := fun h1 => by rw [kindF, if_neg (show ¬ (EX.mk k n s kids ux).kids.length = 0 from h1)]; rfl
    have e9 : kids.length = 0 → kindF l (m + 1) (.mk k n s kids ux) = plainF (.mk k n s kids ux) l := fun h1 => by rw [kindF, if_pos (show (EX.mk k n s kids ux).kids.length = 0 from h1)]
    refine PuF.tidy rfl rfl rfl rfl rfl fun h hf => ?_
    repeat' (first
        | refine W.seq ?_ | refine W.region ?_ | refine WS.nil ?_ | refine W.skip ?_ | refine W.block ?_ | refine W.ret ?_ | refine W.exit ?_ | refine W.goto ?_ | refine W.yes rfl rfl ?_ | refine W.no rfl rfl ?_ | refine W.fork rfl (fun _ => ?_) (fun _ => ?_) | refine WS.guardT rfl ?_ | refine WS.guardF rfl rfl rfl ?_ | refine WS.guardV rfl rfl ?_ | refine WS.guardK rfl (fun _ => ?_) (fun _ => ?_) | refine WS.near rfl o_mov rfl ?_ | refine WS.near rfl o_pickT rfl ?_ | refine WS.near rfl o_pickF rfl ?_ | refine WS.near rfl o_notT rfl ?_ | refine WS.near rfl o_notF rfl ?_ | refine WS.near rfl o_lss rfl ?_ | refine WS.near rfl o_leq rfl ?_ | refine WS.near rfl o_gtr rfl ?_ | refine WS.near rfl o_geq rfl ?_ | refine WS.near rfl o_eql rfl ?_ | refine WS.near rfl o_neq rfl ?_ | refine WS.near rfl o_sneq0 rfl ?_ | refine WS.near rfl o_not rfl ?_ | refine WS.near rfl o_faddr rfl ?_
        | refine WS.near rfl o_loadF rfl ?_ | refine WS.near rfl (o_extract rfl) rfl ?_ | refine WS.near rfl (o_loadH rfl) rfl ?_ | refine WS.near rfl (o_loadHN rfl rfl) rfl ?_ | refine WS.near rfl (o_storeH (by assumption) rfl rfl) rfl ?_ | refine WS.near rfl (o_boxH 0 rfl) rfl ?_ | refine WS.near rfl (o_allocH 1 rfl) rfl ?_ | refine WS.near rfl (o_add (by omega) (by omega)) rfl ?_ | refine WS.near rfl (o_faddrF (Nat.le_of_ble_eq_true rfl)) rfl ?_ | refine WS.near rfl (o_iaddrA rfl (by omega)) rfl ?_ | fail)
    refine W.loop (fun a : RL => [(1, u), (2, .mptr (h.next + 0) 0), (5, .mptr (h.next + 1) 0), (6, i64 a.i)]) (fun a => hp h [some [i64 k, i64 n, .str s, ux], some (arr a.acc)])
      (fun a => a.i ≤ kids.length ∧ kgo (kindF l m) kids [] = kgo (kindF l m) (kids.drop a.i) a.acc ∧ a.acc.length = a.i) (fun a => kids.length - a.i)
      ⟨0, []⟩ ⟨Nat.zero_le _, rfl, rfl⟩ (by exact ⟨rfl, rfl, rfl, rfl, trivial⟩) rfl ?_
    rintro ⟨i, acc⟩ ⟨hi, hs, hal⟩
    simp only at hi hs hal ⊢
    refine W.seq ?_
    refine W.seq ?_
    repeat' (first
        | refine WS.near rfl (o_lenZ hfz) rfl ?_ | refine W.region ?_ | refine WS.nil ?_ | refine W.skip ?_ | refine W.block ?_ | refine W.ret ?_ | refine W.exit ?_ | refine W.goto ?_ | refine W.yes rfl rfl ?_ | refine W.no rfl rfl ?_ | refine W.fork rfl (fun _ => ?_) (fun _ => ?_) | refine WS.guardT rfl ?_ | refine WS.guardF rfl rfl rfl ?_ | refine WS.guardV rfl rfl ?_ | refine WS.guardK rfl (fun _ => ?_) (fun _ => ?_) | refine WS.near rfl o_mov rfl ?_ | refine WS.near rfl o_pickT rfl ?_ | refine WS.near rfl o_pickF rfl ?_ | refine WS.near rfl o_notT rfl ?_ | refine WS.near rfl o_notF rfl ?_ | refine WS.near rfl o_lss rfl ?_ | refine WS.near rfl o_leq rfl ?_ | refine WS.near rfl o_gtr rfl ?_ | refine WS.near rfl o_geq rfl ?_ | refine WS.near rfl o_eql rfl ?_ | refine WS.near rfl o_neq rfl ?_ | refine WS.near rfl o_sneq0 rfl ?_ | refine WS.near rfl o_not rfl ?_
        | refine WS.near rfl o_faddr rfl ?_ | refine WS.near rfl o_loadF rfl ?_ | refine WS.near rfl (o_extract rfl) rfl ?_ | refine WS.near rfl (o_loadH rfl) rfl ?_ | refine WS.near rfl (o_loadHN rfl rfl) rfl ?_ | refine WS.near rfl (o_storeH (by assumption) rfl rfl) rfl ?_ | refine WS.near rfl (o_boxH 0 rfl) rfl ?_ | refine WS.near rfl (o_allocH 1 rfl) rfl ?_ | refine WS.near rfl (o_add (by omega) (by omega)) rfl ?_ | refine WS.near rfl (o_faddrF (Nat.le_of_ble_eq_true rfl)) rfl ?_ | refine WS.near rfl (o_iaddrA rfl (by omega)) rfl ?_ | fail)
    refine W.seq ?_
    repeat' (first
        | refine W.region ?_ | refine WS.nil ?_ | refine W.skip ?_ | refine W.block ?_ | refine W.ret ?_ | refine W.exit ?_ | refine W.goto ?_ | refine W.yes rfl rfl ?_ | refine W.no rfl rfl ?_ | refine W.fork rfl (fun _ => ?_) (fun _ => ?_) | refine WS.guardT rfl ?_ | refine WS.guardF rfl rfl rfl ?_ | refine WS.guardV rfl rfl ?_ | refine WS.guardK rfl (fun _ => ?_) (fun _ => ?_) | refine WS.near rfl o_mov rfl ?_ | refine WS.near rfl o_pickT rfl ?_ | refine WS.near rfl o_pickF rfl ?_ | refine WS.near rfl o_notT rfl ?_ | refine WS.near rfl o_notF rfl ?_ | refine WS.near rfl o_lss rfl ?_ | refine WS.near rfl o_leq rfl ?_ | refine WS.near rfl o_gtr rfl ?_ | refine WS.near rfl o_geq rfl ?_ | refine WS.near rfl o_eql rfl ?_ | refine WS.near rfl o_neq rfl ?_ | refine WS.near rfl o_sneq0 rfl ?_ | refine WS.near rfl o_not rfl ?_ | refine WS.near rfl o_faddr rfl ?_ | refine WS.near rfl o_loadF rfl ?_
        | refine WS.near rfl (o_extract rfl) rfl ?_ | refine WS.near rfl (o_loadH rfl) rfl ?_ | refine WS.near rfl (o_loadHN rfl rfl) rfl ?_ | refine WS.near rfl (o_storeH (by assumption) rfl rfl) rfl ?_ | refine WS.near rfl (o_boxH 0 rfl) rfl ?_ | refine WS.near rfl (o_allocH 1 rfl) rfl ?_ | refine WS.near rfl (o_add (by omega) (by omega)) rfl ?_ | refine WS.near rfl (o_faddrF (Nat.le_of_ble_eq_true rfl)) rfl ?_ | refine WS.near rfl (o_iaddrA rfl (by omega)) rfl ?_ | fail)
    · have hlt : i < kids.length := by omega
      rw [kgo_at hlt] at hs
      have hy := hkid hlt
      have hyr := hkr i hlt
      repeat' (first
          | refine WS.near rfl (o_iaddrZ i hfz rfl (fz_at (d := default) i hlt) rfl) rfl ?_ | refine WS.near rfl (o_loadA rfl) rfl ?_ | refine W.seq ?_ | refine W.region ?_ | refine WS.nil ?_ | refine W.skip ?_ | refine W.block ?_ | refine W.ret ?_ | refine W.exit ?_ | refine W.goto ?_ | refine W.yes rfl rfl ?_ | refine W.no rfl rfl ?_ | refine W.fork rfl (fun _ => ?_) (fun _ => ?_) | refine WS.guardT rfl ?_ | refine WS.guardF rfl rfl rfl ?_ | refine WS.guardV rfl rfl ?_ | refine WS.guardK rfl (fun _ => ?_) (fun _ => ?_) | refine WS.near rfl o_mov rfl ?_ | refine WS.near rfl o_pickT rfl ?_ | refine WS.near rfl o_pickF rfl ?_ | refine WS.near rfl o_notT rfl ?_ | refine WS.near rfl o_notF rfl ?_ | refine WS.near rfl o_lss rfl ?_ | refine WS.near rfl o_leq rfl ?_ | refine WS.near rfl o_gtr rfl ?_ | refine WS.near rfl o_geq rfl ?_ | refine WS.near rfl o_eql rfl ?_ | refine WS.near rfl o_neq rfl ?_
          | refine WS.near rfl o_sneq0 rfl ?_ | refine WS.near rfl o_not rfl ?_ | refine WS.near rfl o_faddr rfl ?_ | refine WS.near rfl o_loadF rfl ?_ | refine WS.near rfl (o_extract rfl) rfl ?_ | refine WS.near rfl (o_loadH rfl) rfl ?_ | refine WS.near rfl (o_loadHN rfl rfl) rfl ?_ | refine WS.near rfl (o_storeH (by assumption) rfl rfl) rfl ?_ | refine WS.near rfl (o_boxH 0 rfl) rfl ?_ | refine WS.near rfl (o_allocH 1 rfl) rfl ?_ | refine WS.near rfl (o_add (by omega) (by omega)) rfl ?_ | refine WS.near rfl (o_faddrF (Nat.le_of_ble_eq_true rfl)) rfl ?_ | refine WS.near rfl (o_iaddrA rfl (by omega)) rfl ?_ | fail)
      generalize kids.getD i default = y at hs hy hyr ⊢
      have ih := rkind_pu u l hu hl m y hy hyr
      rcases (by omega : i = 0 ∨ i = 1) with rfl | rfl
      · obtain rfl : acc = [] := List.length_eq_zero_iff.1 hal
        repeat' (first
            | refine WS.near rfl (o_loadA rfl) rfl ?_ | refine WS.puF hf rfl rfl ih ?_ | refine W.seq ?_ | refine W.region ?_ | refine WS.nil ?_ | refine W.skip ?_ | refine W.block ?_ | refine W.ret ?_ | refine W.exit ?_ | refine W.goto ?_ | refine W.yes rfl rfl ?_ | refine W.no rfl rfl ?_ | refine W.fork rfl (fun _ => ?_) (fun _ => ?_) | refine WS.guardT rfl ?_ | refine WS.guardF rfl rfl rfl ?_ | refine WS.guardV rfl rfl ?_ | refine WS.guardK rfl (fun _ => ?_) (fun _ => ?_) | refine WS.near rfl o_mov rfl ?_ | refine WS.near rfl o_pickT rfl ?_ | refine WS.near rfl o_pickF rfl ?_ | refine WS.near rfl o_notT rfl ?_ | refine WS.near rfl o_notF rfl ?_ | refine WS.near rfl o_lss rfl ?_ | refine WS.near rfl o_leq rfl ?_ | refine WS.near rfl o_gtr rfl ?_ | refine WS.near rfl o_geq rfl ?_ | refine WS.near rfl o_eql rfl ?_ | refine WS.near rfl o_neq rfl ?_ | refine WS.near rfl o_sneq0 rfl ?_
            | refine WS.near rfl o_not rfl ?_ | refine WS.near rfl o_faddr rfl ?_ | refine WS.near rfl o_loadF rfl ?_ | refine WS.near rfl (o_extract rfl) rfl ?_ | refine WS.near rfl (o_loadH rfl) rfl ?_ | refine WS.near rfl (o_loadHN rfl rfl) rfl ?_ | refine WS.near rfl (o_storeH (by assumption) rfl rfl) rfl ?_ | refine WS.near rfl (o_boxH 0 rfl) rfl ?_ | refine WS.near rfl (o_allocH 1 rfl) rfl ?_ | refine WS.near rfl (o_add (by omega) (by omega)) rfl ?_ | refine WS.near rfl (o_faddrF (Nat.le_of_ble_eq_true rfl)) rfl ?_ | refine WS.near rfl (o_iaddrA rfl (by omega)) rfl ?_ | fail)
        · rename_i hne
          exact ⟨_, rfl, fin_tup2 (by rw [e0 (by omega), hs, if_pos hne]; rfl) (by rw [e0 (by omega), hs, if_pos hne]; rfl)⟩
        · rename_i hne
          rw [if_neg hne] at hs
          exact ⟨⟨1, [(kindF l m y).1]⟩, ⟨by show 1 ≤ kids.length; omega, hs, rfl⟩, by show kids.length - 1 < kids.length - 0; omega, ⟨rfl, rfl, rfl, rfl, trivial⟩, rfl⟩
      · obtain ⟨a, rfl⟩ : ∃ a, acc = [a] := List.length_eq_one_iff.1 hal
        repeat' (first
            | refine WS.near rfl (o_loadA rfl) rfl ?_ | refine WS.puF hf rfl rfl ih ?_ | refine W.seq ?_ | refine W.region ?_ | refine WS.nil ?_ | refine W.skip ?_ | refine W.block ?_ | refine W.ret ?_ | refine W.exit ?_ | refine W.goto ?_ | refine W.yes rfl rfl ?_ | refine W.no rfl rfl ?_ | refine W.fork rfl (fun _ => ?_) (fun _ => ?_) | refine WS.guardT rfl ?_ | refine WS.guardF rfl rfl rfl ?_ | refine WS.guardV rfl rfl ?_ | refine WS.guardK rfl (fun _ => ?_) (fun _ => ?_) | refine WS.near rfl o_mov rfl ?_ | refine WS.near rfl o_pickT rfl ?_ | refine WS.near rfl o_pickF rfl ?_ | refine WS.near rfl o_notT rfl ?_ | refine WS.near rfl o_notF rfl ?_ | refine WS.near rfl o_lss rfl ?_ | refine WS.near rfl o_leq rfl ?_ | refine WS.near rfl o_gtr rfl ?_ | refine WS.near rfl o_geq rfl ?_ | refine WS.near rfl o_eql rfl ?_ | refine WS.near rfl o_neq rfl ?_ | refine WS.near rfl o_sneq0 rfl ?_
            | refine WS.near rfl o_not rfl ?_ | refine WS.near rfl o_faddr rfl ?_ | refine WS.near rfl o_loadF rfl ?_ | refine WS.near rfl (o_extract rfl) rfl ?_ | refine WS.near rfl (o_loadH rfl) rfl ?_ | refine WS.near rfl (o_loadHN rfl rfl) rfl ?_ | refine WS.near rfl (o_storeH (by assumption) rfl rfl) rfl ?_ | refine WS.near rfl (o_boxH 0 rfl) rfl ?_ | refine WS.near rfl (o_allocH 1 rfl) rfl ?_ | refine WS.near rfl (o_add (by omega) (by omega)) rfl ?_ | refine WS.near rfl (o_faddrF (Nat.le_of_ble_eq_true rfl)) rfl ?_ | refine WS.near rfl (o_iaddrA rfl (by omega)) rfl ?_ | fail)
        · rename_i hne
          exact ⟨_, rfl, fin_tup2 (by rw [e0 (by omega), hs, if_pos hne]; rfl) (by rw [e0 (by omega), hs, if_pos hne]; rfl)⟩
        · rename_i hne
          rw [if_neg hne] at hs
          exact ⟨⟨2, [a, (kindF l m y).1]⟩, ⟨by show 2 ≤ kids.length; omega, hs, rfl⟩, by show kids.length - 2 < kids.length - 1; omega, ⟨rfl, rfl, rfl, rfl, trivial⟩, rfl⟩
    · have hge : kids.drop i = [] := List.drop_eq_nil_of_le (by omega)
      rw [hge] at hs
      rw [arity_eq] at har
      have hlast : acc.length = kids.length := by omega
      have ee : ∀ h1 : ¬ kids.length = 0, kindF l (m + 1) (.mk k n s kids ux) = if (jn k (acc.getD 0 0) (acc.getD 1 0)).2 = true then ((jn k (acc.getD 0 0) (acc.getD 1 0)).1, 0) else (0, 7) := fun h1 => by rw [e0 h1, hs]; rfl
      by_cases h6 : k < 6
      · have h1 : kids.length = 0 := by
          rw [if_neg (by omega), if_neg (by omega)] at har
          omega
        have e1 := e9 h1
        obtain rfl : acc = [] := List.length_eq_zero_iff.1 (by omega)
        clear hkr ee
        rcases (by omega : k = 0 ∨ k = 1 ∨ k = 2 ∨ k = 3 ∨ k = 4 ∨ k = 5) with rfl | rfl | rfl | rfl | rfl | rfl
        · skip
          repeat' (first
              | refine WS.near rfl o_eqlT rfl ?_ | refine WS.near rfl (o_eqlF (by decide)) rfl ?_ | refine WS.near rfl (o_iaddrA (n := 0) rfl (by omega)) rfl ?_ | refine WS.near rfl (o_iaddrA (n := 1) rfl (by omega)) rfl ?_ | refine W.seq ?_ | refine W.region ?_ | refine WS.nil ?_ | refine W.skip ?_ | refine W.block ?_ | refine W.ret ?_ | refine W.exit ?_ | refine W.goto ?_ | refine W.yes rfl rfl ?_ | refine W.no rfl rfl ?_ | refine W.fork rfl (fun _ => ?_) (fun _ => ?_) | refine WS.guardT rfl ?_ | refine WS.guardF rfl rfl rfl ?_ | refine WS.guardV rfl rfl ?_ | refine WS.guardK rfl (fun _ => ?_) (fun _ => ?_) | refine WS.near rfl o_mov rfl ?_ | refine WS.near rfl o_pickT rfl ?_ | refine WS.near rfl o_pickF rfl ?_ | refine WS.near rfl o_notT rfl ?_ | refine WS.near rfl o_notF rfl ?_ | refine WS.near rfl o_lss rfl ?_ | refine WS.near rfl o_leq rfl ?_ | refine WS.near rfl o_gtr rfl ?_
              | refine WS.near rfl o_geq rfl ?_ | refine WS.near rfl o_eql rfl ?_ | refine WS.near rfl o_neq rfl ?_ | refine WS.near rfl o_sneq0 rfl ?_ | refine WS.near rfl o_not rfl ?_ | refine WS.near rfl o_faddr rfl ?_ | refine WS.near rfl o_loadF rfl ?_ | refine WS.near rfl (o_extract rfl) rfl ?_ | refine WS.near rfl (o_loadH rfl) rfl ?_ | refine WS.near rfl (o_loadHN rfl rfl) rfl ?_ | refine WS.near rfl (o_storeH (by assumption) rfl rfl) rfl ?_ | refine WS.near rfl (o_boxH 0 rfl) rfl ?_ | refine WS.near rfl (o_allocH 1 rfl) rfl ?_ | refine WS.near rfl (o_add (by omega) (by omega)) rfl ?_ | refine WS.near rfl (o_faddrF (Nat.le_of_ble_eq_true rfl)) rfl ?_ | refine WS.near rfl (o_iaddrA rfl (by omega)) rfl ?_ | fail)
          exact ⟨_, rfl, fin_tup2 (by rw [e1]; rfl) (by rw [e1]; rfl)⟩
        · skip
          repeat' (first
              | refine WS.near rfl o_eqlT rfl ?_ | refine WS.near rfl (o_eqlF (by decide)) rfl ?_ | refine WS.near rfl (o_iaddrA (n := 0) rfl (by omega)) rfl ?_ | refine WS.near rfl (o_iaddrA (n := 1) rfl (by omega)) rfl ?_ | refine W.seq ?_ | refine W.region ?_ | refine WS.nil ?_ | refine W.skip ?_ | refine W.block ?_ | refine W.ret ?_ | refine W.exit ?_ | refine W.goto ?_ | refine W.yes rfl rfl ?_ | refine W.no rfl rfl ?_ | refine W.fork rfl (fun _ => ?_) (fun _ => ?_) | refine WS.guardT rfl ?_ | refine WS.guardF rfl rfl rfl ?_ | refine WS.guardV rfl rfl ?_ | refine WS.guardK rfl (fun _ => ?_) (fun _ => ?_) | refine WS.near rfl o_mov rfl ?_ | refine WS.near rfl o_pickT rfl ?_ | refine WS.near rfl o_pickF rfl ?_ | refine WS.near rfl o_notT rfl ?_ | refine WS.near rfl o_notF rfl ?_ | refine WS.near rfl o_lss rfl ?_ | refine WS.near rfl o_leq rfl ?_ | refine WS.near rfl o_gtr rfl ?_
              | refine WS.near rfl o_geq rfl ?_ | refine WS.near rfl o_eql rfl ?_ | refine WS.near rfl o_neq rfl ?_ | refine WS.near rfl o_sneq0 rfl ?_ | refine WS.near rfl o_not rfl ?_ | refine WS.near rfl o_faddr rfl ?_ | refine WS.near rfl o_loadF rfl ?_ | refine WS.near rfl (o_extract rfl) rfl ?_ | refine WS.near rfl (o_loadH rfl) rfl ?_ | refine WS.near rfl (o_loadHN rfl rfl) rfl ?_ | refine WS.near rfl (o_storeH (by assumption) rfl rfl) rfl ?_ | refine WS.near rfl (o_boxH 0 rfl) rfl ?_ | refine WS.near rfl (o_allocH 1 rfl) rfl ?_ | refine WS.near rfl (o_add (by omega) (by omega)) rfl ?_ | refine WS.near rfl (o_faddrF (Nat.le_of_ble_eq_true rfl)) rfl ?_ | refine WS.near rfl (o_iaddrA rfl (by omega)) rfl ?_ | fail)
          exact ⟨_, rfl, fin_tup2 (by rw [e1]; rfl) (by rw [e1]; rfl)⟩
        · have e2 : plainF (.mk 2 n s kids ux) l = if firstK s 0 l < 0 then (0, 5) else ((l.getD (firstK s 0 l).toNat default).kind, 0) := by
            unfold plainF
            rw [if_neg (by show ¬ (2 : Int) = 1; decide), if_neg (by show ¬ (2 : Int) = 4; decide), if_neg (by show ¬ (2 : Int) = 3; decide), if_pos (by show (2 : Int) = 2; rfl)]
            rfl
          rw [e2] at e1
          repeat' (first
              | refine WS.near rfl o_eqlT rfl ?_ | refine WS.near rfl (o_eqlF (by decide)) rfl ?_ | refine WS.near rfl (o_iaddrA (n := 0) rfl (by omega)) rfl ?_ | refine WS.near rfl (o_iaddrA (n := 1) rfl (by omega)) rfl ?_ | refine WS.puF hf rfl rfl (findKey2 u l hu hl s) ?_ | refine W.seq ?_ | refine W.region ?_ | refine WS.nil ?_ | refine W.skip ?_ | refine W.block ?_ | refine W.ret ?_ | refine W.exit ?_ | refine W.goto ?_ | refine W.yes rfl rfl ?_ | refine W.no rfl rfl ?_ | refine W.fork rfl (fun _ => ?_) (fun _ => ?_) | refine WS.guardT rfl ?_ | refine WS.guardF rfl rfl rfl ?_ | refine WS.guardV rfl rfl ?_ | refine WS.guardK rfl (fun _ => ?_) (fun _ => ?_) | refine WS.near rfl o_mov rfl ?_ | refine WS.near rfl o_pickT rfl ?_ | refine WS.near rfl o_pickF rfl ?_ | refine WS.near rfl o_notT rfl ?_ | refine WS.near rfl o_notF rfl ?_ | refine WS.near rfl o_lss rfl ?_ | refine WS.near rfl o_leq rfl ?_
              | refine WS.near rfl o_gtr rfl ?_ | refine WS.near rfl o_geq rfl ?_ | refine WS.near rfl o_eql rfl ?_ | refine WS.near rfl o_neq rfl ?_ | refine WS.near rfl o_sneq0 rfl ?_ | refine WS.near rfl o_not rfl ?_ | refine WS.near rfl o_faddr rfl ?_ | refine WS.near rfl o_loadF rfl ?_ | refine WS.near rfl (o_extract rfl) rfl ?_ | refine WS.near rfl (o_loadH rfl) rfl ?_ | refine WS.near rfl (o_loadHN rfl rfl) rfl ?_ | refine WS.near rfl (o_storeH (by assumption) rfl rfl) rfl ?_ | refine WS.near rfl (o_boxH 0 rfl) rfl ?_ | refine WS.near rfl (o_allocH 1 rfl) rfl ?_ | refine WS.near rfl (o_add (by omega) (by omega)) rfl ?_ | refine WS.near rfl (o_faddrF (Nat.le_of_ble_eq_true rfl)) rfl ?_ | refine WS.near rfl (o_iaddrA rfl (by omega)) rfl ?_ | fail)
          · rename_i hneg
            rw [if_pos hneg] at e1
            exact ⟨_, rfl, fin_tup2 (by rw [e1]) (by rw [e1])⟩
          · rename_i hneg
            rw [if_neg hneg] at e1
            refine WS.near rfl (o_iaddrZ (firstK s 0 l).toNat hu (by omega) (fz_at (d := default) _ (by omega)) rfl) rfl ?_
            repeat' (first
                | refine WS.near rfl o_eqlT rfl ?_ | refine WS.near rfl (o_eqlF (by decide)) rfl ?_ | refine WS.near rfl (o_iaddrA (n := 0) rfl (by omega)) rfl ?_ | refine WS.near rfl (o_iaddrA (n := 1) rfl (by omega)) rfl ?_ | refine W.seq ?_ | refine W.region ?_ | refine WS.nil ?_ | refine W.skip ?_ | refine W.block ?_ | refine W.ret ?_ | refine W.exit ?_ | refine W.goto ?_ | refine W.yes rfl rfl ?_ | refine W.no rfl rfl ?_ | refine W.fork rfl (fun _ => ?_) (fun _ => ?_) | refine WS.guardT rfl ?_ | refine WS.guardF rfl rfl rfl ?_ | refine WS.guardV rfl rfl ?_ | refine WS.guardK rfl (fun _ => ?_) (fun _ => ?_) | refine WS.near rfl o_mov rfl ?_ | refine WS.near rfl o_pickT rfl ?_ | refine WS.near rfl o_pickF rfl ?_ | refine WS.near rfl o_notT rfl ?_ | refine WS.near rfl o_notF rfl ?_ | refine WS.near rfl o_lss rfl ?_ | refine WS.near rfl o_leq rfl ?_ | refine WS.near rfl o_gtr rfl ?_
                | refine WS.near rfl o_geq rfl ?_ | refine WS.near rfl o_eql rfl ?_ | refine WS.near rfl o_neq rfl ?_ | refine WS.near rfl o_sneq0 rfl ?_ | refine WS.near rfl o_not rfl ?_ | refine WS.near rfl o_faddr rfl ?_ | refine WS.near rfl o_loadF rfl ?_ | refine WS.near rfl (o_extract rfl) rfl ?_ | refine WS.near rfl (o_loadH rfl) rfl ?_ | refine WS.near rfl (o_loadHN rfl rfl) rfl ?_ | refine WS.near rfl (o_storeH (by assumption) rfl rfl) rfl ?_ | refine WS.near rfl (o_boxH 0 rfl) rfl ?_ | refine WS.near rfl (o_allocH 1 rfl) rfl ?_ | refine WS.near rfl (o_add (by omega) (by omega)) rfl ?_ | refine WS.near rfl (o_faddrF (Nat.le_of_ble_eq_true rfl)) rfl ?_ | refine WS.near rfl (o_iaddrA rfl (by omega)) rfl ?_ | fail)
            exact ⟨_, rfl, fin_tup2 (by rw [e1]) (by rw [e1])⟩
        · skip
          repeat' (first
              | refine WS.near rfl o_eqlT rfl ?_ | refine WS.near rfl (o_eqlF (by decide)) rfl ?_ | refine WS.near rfl (o_iaddrA (n := 0) rfl (by omega)) rfl ?_ | refine WS.near rfl (o_iaddrA (n := 1) rfl (by omega)) rfl ?_ | refine W.seq ?_ | refine W.region ?_ | refine WS.nil ?_ | refine W.skip ?_ | refine W.block ?_ | refine W.ret ?_ | refine W.exit ?_ | refine W.goto ?_ | refine W.yes rfl rfl ?_ | refine W.no rfl rfl ?_ | refine W.fork rfl (fun _ => ?_) (fun _ => ?_) | refine WS.guardT rfl ?_ | refine WS.guardF rfl rfl rfl ?_ | refine WS.guardV rfl rfl ?_ | refine WS.guardK rfl (fun _ => ?_) (fun _ => ?_) | refine WS.near rfl o_mov rfl ?_ | refine WS.near rfl o_pickT rfl ?_ | refine WS.near rfl o_pickF rfl ?_ | refine WS.near rfl o_notT rfl ?_ | refine WS.near rfl o_notF rfl ?_ | refine WS.near rfl o_lss rfl ?_ | refine WS.near rfl o_leq rfl ?_ | refine WS.near rfl o_gtr rfl ?_
              | refine WS.near rfl o_geq rfl ?_ | refine WS.near rfl o_eql rfl ?_ | refine WS.near rfl o_neq rfl ?_ | refine WS.near rfl o_sneq0 rfl ?_ | refine WS.near rfl o_not rfl ?_ | refine WS.near rfl o_faddr rfl ?_ | refine WS.near rfl o_loadF rfl ?_ | refine WS.near rfl (o_extract rfl) rfl ?_ | refine WS.near rfl (o_loadH rfl) rfl ?_ | refine WS.near rfl (o_loadHN rfl rfl) rfl ?_ | refine WS.near rfl (o_storeH (by assumption) rfl rfl) rfl ?_ | refine WS.near rfl (o_boxH 0 rfl) rfl ?_ | refine WS.near rfl (o_allocH 1 rfl) rfl ?_ | refine WS.near rfl (o_add (by omega) (by omega)) rfl ?_ | refine WS.near rfl (o_faddrF (Nat.le_of_ble_eq_true rfl)) rfl ?_ | refine WS.near rfl (o_iaddrA rfl (by omega)) rfl ?_ | fail)
          exact ⟨_, rfl, fin_tup2 (by rw [e1]; rfl) (by rw [e1]; rfl)⟩
        · skip
          repeat' (first
              | refine WS.near rfl o_eqlT rfl ?_ | refine WS.near rfl (o_eqlF (by decide)) rfl ?_ | refine WS.near rfl (o_iaddrA (n := 0) rfl (by omega)) rfl ?_ | refine WS.near rfl (o_iaddrA (n := 1) rfl (by omega)) rfl ?_ | refine W.seq ?_ | refine W.region ?_ | refine WS.nil ?_ | refine W.skip ?_ | refine W.block ?_ | refine W.ret ?_ | refine W.exit ?_ | refine W.goto ?_ | refine W.yes rfl rfl ?_ | refine W.no rfl rfl ?_ | refine W.fork rfl (fun _ => ?_) (fun _ => ?_) | refine WS.guardT rfl ?_ | refine WS.guardF rfl rfl rfl ?_ | refine WS.guardV rfl rfl ?_ | refine WS.guardK rfl (fun _ => ?_) (fun _ => ?_) | refine WS.near rfl o_mov rfl ?_ | refine WS.near rfl o_pickT rfl ?_ | refine WS.near rfl o_pickF rfl ?_ | refine WS.near rfl o_notT rfl ?_ | refine WS.near rfl o_notF rfl ?_ | refine WS.near rfl o_lss rfl ?_ | refine WS.near rfl o_leq rfl ?_ | refine WS.near rfl o_gtr rfl ?_
              | refine WS.near rfl o_geq rfl ?_ | refine WS.near rfl o_eql rfl ?_ | refine WS.near rfl o_neq rfl ?_ | refine WS.near rfl o_sneq0 rfl ?_ | refine WS.near rfl o_not rfl ?_ | refine WS.near rfl o_faddr rfl ?_ | refine WS.near rfl o_loadF rfl ?_ | refine WS.near rfl (o_extract rfl) rfl ?_ | refine WS.near rfl (o_loadH rfl) rfl ?_ | refine WS.near rfl (o_loadHN rfl rfl) rfl ?_ | refine WS.near rfl (o_storeH (by assumption) rfl rfl) rfl ?_ | refine WS.near rfl (o_boxH 0 rfl) rfl ?_ | refine WS.near rfl (o_allocH 1 rfl) rfl ?_ | refine WS.near rfl (o_add (by omega) (by omega)) rfl ?_ | refine WS.near rfl (o_faddrF (Nat.le_of_ble_eq_true rfl)) rfl ?_ | refine WS.near rfl (o_iaddrA rfl (by omega)) rfl ?_ | fail)
          exact ⟨_, rfl, fin_tup2 (by rw [e1]; rfl) (by rw [e1]; rfl)⟩
        · skip
          repeat' (first
              | refine WS.near rfl o_eqlT rfl ?_ | refine WS.near rfl (o_eqlF (by decide)) rfl ?_ | refine WS.near rfl (o_iaddrA (n := 0) rfl (by omega)) rfl ?_ | refine WS.near rfl (o_iaddrA (n := 1) rfl (by omega)) rfl ?_ | refine W.seq ?_ | refine W.region ?_ | refine WS.nil ?_ | refine W.skip ?_ | refine W.block ?_ | refine W.ret ?_ | refine W.exit ?_ | refine W.goto ?_ | refine W.yes rfl rfl ?_ | refine W.no rfl rfl ?_ | refine W.fork rfl (fun _ => ?_) (fun _ => ?_) | refine WS.guardT rfl ?_ | refine WS.guardF rfl rfl rfl ?_ | refine WS.guardV rfl rfl ?_ | refine WS.guardK rfl (fun _ => ?_) (fun _ => ?_) | refine WS.near rfl o_mov rfl ?_ | refine WS.near rfl o_pickT rfl ?_ | refine WS.near rfl o_pickF rfl ?_ | refine WS.near rfl o_notT rfl ?_ | refine WS.near rfl o_notF rfl ?_ | refine WS.near rfl o_lss rfl ?_ | refine WS.near rfl o_leq rfl ?_ | refine WS.near rfl o_gtr rfl ?_
              | refine WS.near rfl o_geq rfl ?_ | refine WS.near rfl o_eql rfl ?_ | refine WS.near rfl o_neq rfl ?_ | refine WS.near rfl o_sneq0 rfl ?_ | refine WS.near rfl o_not rfl ?_ | refine WS.near rfl o_faddr rfl ?_ | refine WS.near rfl o_loadF rfl ?_ | refine WS.near rfl (o_extract rfl) rfl ?_ | refine WS.near rfl (o_loadH rfl) rfl ?_ | refine WS.near rfl (o_loadHN rfl rfl) rfl ?_ | refine WS.near rfl (o_storeH (by assumption) rfl rfl) rfl ?_ | refine WS.near rfl (o_boxH 0 rfl) rfl ?_ | refine WS.near rfl (o_allocH 1 rfl) rfl ?_ | refine WS.near rfl (o_add (by omega) (by omega)) rfl ?_ | refine WS.near rfl (o_faddrF (Nat.le_of_ble_eq_true rfl)) rfl ?_ | refine WS.near rfl (o_iaddrA rfl (by omega)) rfl ?_ | fail)
          exact ⟨_, rfl, fin_tup2 (by rw [e1]; rfl) (by rw [e1]; rfl)⟩
      · have h1 : ¬ kids.length = 0 := by
          by_cases h7 : (6 ≤ k ∧ k ≤ 13) ∨ k = 15 ∨ k = 19
          · rw [if_pos h7] at har; omega
          · rw [if_neg h7, if_pos (by omega)] at har; omega
        have e1 := ee h1
        rw [show (if (jn k (acc.getD 0 0) (acc.getD 1 0)).2 = true then ((jn k (acc.getD 0 0) (acc.getD 1 0)).1, (0 : Int)) else (0, 7)) = endK k (acc.getD 0 0) (acc.getD 1 0) from rfl] at e1
        have ht : Tail k := by
          rcases (by omega : k = 6 ∨ k = 7 ∨ k = 8 ∨ k = 9 ∨ k = 10 ∨ k = 11 ∨ k = 12 ∨ k = 13 ∨ k = 14 ∨ k = 15 ∨ k = 16 ∨ k = 17 ∨ k = 18 ∨ k = 19) with rfl | rfl | rfl | rfl | rfl | rfl | rfl | rfl | rfl | rfl | rfl | rfl | rfl | rfl
          · exact tail_6
          · exact tail_7
          · exact tail_8
          · exact tail_9
          · exact tail_10
          · exact tail_11
          · exact tail_12
          · exact tail_13
          · exact tail_14
          · exact tail_15
          · exact tail_16
          · exact tail_17
          · exact tail_18
          · exact tail_19
        have hw := ht u n s ux (acc.getD 0 0) (acc.getD 1 0) h hf
        rw [← e1] at hw
        exact hw.sup ⟨rfl, rfl, rfl, trivial⟩
theorem RKind_pu (u : V) (l : List KY) (hu : IsFz u (l.map KY.v)) (hl : l.length ≤ 30) (x : EX) (hx : x.Ok) (hb : bigF 46 x = false) : PuF D2 13 [x.v, u] (match rightF 40 x with
    | true => .tup [i64 (kindF l 40 x).1, i64 (kindF l 40 x).2]
    | false => .tup [i64 0, i64 1]) := by
  cases hr : rightF 40 x with
  | true =>
    have h1 := rright2 x hx hb
    rw [hr] at h1
    refine PuF.tidy rfl rfl rfl rfl rfl fun h hf => ?_
    repeat' (first
        | refine WS.near rfl (o_loadHN rfl rfl) rfl ?_ | refine WS.puF hf rfl rfl h1 ?_ | refine WS.puF hf rfl rfl (rkind_pu u l hu hl 40 x hx hr) ?_ | refine W.seq ?_ | refine W.region ?_ | refine WS.nil ?_ | refine W.skip ?_ | refine W.block ?_ | refine W.ret ?_ | refine W.exit ?_ | refine W.goto ?_ | refine W.yes rfl rfl ?_ | refine W.no rfl rfl ?_ | refine W.fork rfl (fun _ => ?_) (fun _ => ?_) | refine WS.guardT rfl ?_ | refine WS.guardF rfl rfl rfl ?_ | refine WS.guardV rfl rfl ?_ | refine WS.guardK rfl (fun _ => ?_) (fun _ => ?_) | refine WS.near rfl o_mov rfl ?_ | refine WS.near rfl o_pickT rfl ?_ | refine WS.near rfl o_pickF rfl ?_ | refine WS.near rfl o_notT rfl ?_ | refine WS.near rfl o_notF rfl ?_ | refine WS.near rfl o_lss rfl ?_ | refine WS.near rfl o_leq rfl ?_ | refine WS.near rfl o_gtr rfl ?_ | refine WS.near rfl o_geq rfl ?_ | refine WS.near rfl o_eql rfl ?_
        | refine WS.near rfl o_neq rfl ?_ | refine WS.near rfl o_sneq0 rfl ?_ | refine WS.near rfl o_not rfl ?_ | refine WS.near rfl o_faddr rfl ?_ | refine WS.near rfl o_loadF rfl ?_ | refine WS.near rfl (o_extract rfl) rfl ?_ | refine WS.near rfl (o_loadH rfl) rfl ?_ | refine WS.near rfl (o_loadHN rfl rfl) rfl ?_ | refine WS.near rfl (o_storeH (by assumption) rfl rfl) rfl ?_ | refine WS.near rfl (o_boxH 0 rfl) rfl ?_ | refine WS.near rfl (o_allocH 1 rfl) rfl ?_ | refine WS.near rfl (o_add (by omega) (by omega)) rfl ?_ | refine WS.near rfl (o_faddrF (Nat.le_of_ble_eq_true rfl)) rfl ?_ | refine WS.near rfl (o_iaddrA rfl (by omega)) rfl ?_ | fail)
    exact ⟨_, rfl, fin_tup2 rfl rfl⟩
  | false =>
    have h1 := rright2 x hx hb
    rw [hr] at h1
    refine PuF.tidy rfl rfl rfl rfl rfl fun h hf => ?_
    repeat' (first
        | refine WS.near rfl (o_loadHN rfl rfl) rfl ?_ | refine WS.puF hf rfl rfl h1 ?_ | refine W.seq ?_ | refine W.region ?_ | refine WS.nil ?_ | refine W.skip ?_ | refine W.block ?_ | refine W.ret ?_ | refine W.exit ?_ | refine W.goto ?_ | refine W.yes rfl rfl ?_ | refine W.no rfl rfl ?_ | refine W.fork rfl (fun _ => ?_) (fun _ => ?_) | refine WS.guardT rfl ?_ | refine WS.guardF rfl rfl rfl ?_ | refine WS.guardV rfl rfl ?_ | refine WS.guardK rfl (fun _ => ?_) (fun _ => ?_) | refine WS.near rfl o_mov rfl ?_ | refine WS.near rfl o_pickT rfl ?_ | refine WS.near rfl o_pickF rfl ?_ | refine WS.near rfl o_notT rfl ?_ | refine WS.near rfl o_notF rfl ?_ | refine WS.near rfl o_lss rfl ?_ | refine WS.near rfl o_leq rfl ?_ | refine WS.near rfl o_gtr rfl ?_ | refine WS.near rfl o_geq rfl ?_ | refine WS.near rfl o_eql rfl ?_ | refine WS.near rfl o_neq rfl ?_ | refine WS.near rfl o_sneq0 rfl ?_
        | refine WS.near rfl o_not rfl ?_ | refine WS.near rfl o_faddr rfl ?_ | refine WS.near rfl o_loadF rfl ?_ | refine WS.near rfl (o_extract rfl) rfl ?_ | refine WS.near rfl (o_loadH rfl) rfl ?_ | refine WS.near rfl (o_loadHN rfl rfl) rfl ?_ | refine WS.near rfl (o_storeH (by assumption) rfl rfl) rfl ?_ | refine WS.near rfl (o_boxH 0 rfl) rfl ?_ | refine WS.near rfl (o_allocH 1 rfl) rfl ?_ | refine WS.near rfl (o_add (by omega) (by omega)) rfl ?_ | refine WS.near rfl (o_faddrF (Nat.le_of_ble_eq_true rfl)) rfl ?_ | refine WS.near rfl (o_iaddrA rfl (by omega)) rfl ?_ | fail)
    exact ⟨_, rfl, fin_tup2 rfl rfl⟩
end Go.Proofs.YtfbikhkmamdjmaaDoor.CodesK
