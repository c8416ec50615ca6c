/- The program's reader: an expression made of one other, of two. -/
import Derived.Test.YtfbikhkmamdjmaaDoorWX2
namespace Go.Proofs.YtfbikhkmamdjmaaDoor.CodesX
open Go Go.Ab
set_option maxHeartbeats 1600000
set_option maxRecDepth 20000
theorem o_maxN {h : Heap} {a b : Nat} : Does (.mm true [.v (.int .i64 (a : Nat)), .v (.int .i64 ((b : Nat) + 1))]) h (.int .i64 (mxN a (b + 1) : Nat)) h := by
  refine ⟨?_⟩; rw [op1v]
  unfold mxN
  by_cases hab : a ≤ b + 1
  · have h1 : Nat.ble a (b + 1) = true := Nat.ble_eq_true_of_le hab
    rw [h1]
    by_cases he : a = b + 1
    · subst he
      simp [op1, ev, mmAll, mm2]
    · have : (a : Int) < (b : Int) + 1 := by omega
      simp [op1, ev, mmAll, mm2, this]
  · have h1 : Nat.ble a (b + 1) = false := by
      cases hb : Nat.ble a (b + 1) with
      | false => rfl
      | true => exact absurd (Nat.le_of_ble_eq_true hb) hab
    rw [h1]
    have : ¬ (a : Int) < (b : Int) + 1 := by omega
    simp [op1, ev, mmAll, mm2, this]
theorem madeR_eq (k : Nat) (kids : List Rd) (l : List Tk) : madeR k kids l = if hd : deepR kids 1 ≤ 40 then .ok ⟨mkE k 0 [] (kids.map Rd.x), deepR kids 1, slV_still _, hd⟩ l else .bad 4 l := heldM_eq ..
theorem frz_read {H : Heap} {n : Nat} {a b e : Int} {c : List Nat} {d d' : V} (hd : ∀ k, 100 < k → Go.Ab.freeze H n k d = some d') : Go.Ab.freeze H n fuelF (.agg [i64 a, i64 b, .str c, d, i64 e]) = some (.agg [i64 a, i64 b, .str c, d', i64 e]) := by
  have key : ∀ f, Go.Ab.freeze H n (f + 200) (.agg [i64 a, i64 b, .str c, d, i64 e]) = some (.agg [i64 a, i64 b, .str c, d', i64 e]) := fun f => by
    have h1 := hd (f + 195) (by omega)
    show (((freezes H n (f + 199) [i64 a, i64 b, .str c, d, i64 e])).map V.agg) = _
    simp only [i64, frzs_cons, frz_int, frz_str, h1, frzs_nil, Option.bind_some, Option.map_some]
  exact key 999999999999800
section
variable {ts l : List Tk} {r : Nat}
theorem made1_px (k : Nat) (y : Rd) (id : Nat) :
    PXC D1 TP 158 [.mptr r 0, i64 (k : Nat), .msl id 5 0 1 none] r (Lv ts) (po ts l) ((madeR k [y] l).ans Rd.v ts) (fun h => h.cellsOf id = some (y.cells)) := by
  have hfl := fail_px (ts := ts) (r := r) 4 (a := po ts l) po_le
  rw [madeR_eq]
  obtain ⟨⟨yk, yn, ys, yl, yu⟩, yd, yhu, yhd⟩ := y
  refine PXC.tidy (fun h hp => hp) rfl rfl rfl rfl rfl fun h hf hr hpi hsame => ?_
  have hid : ∀ bs, (hp (rput h r (Lv ts) (po ts l)) bs).cellsOf id = some [i64 yk, i64 yn, .str ys, yu, i64 (yd : Nat)] := fun bs => by
    rw [hsame, hp_cellsL (cells_lt hpi)]; exact hpi
  by_cases hd : mxN 1 (yd + 1) ≤ 40
  · rw [dif_pos (by exact hd)]
    show W _ _ _ _ _ (doneX _ (ansF TP r (Lv ts) h (.val (.agg [i64 (k : Nat), i64 0, .str [], slV [.agg [i64 yk, i64 yn, .str ys, yu]], i64 (mxN 1 (yd + 1) : Nat)]) (po ts l))))
    repeat' (first
        | refine W.seq ?_ | refine W.regionX ?_ | refine WX.nil ?_ | refine W.block ?_ | refine WX.near rfl o_mov rfl ?_ | refine WX.near rfl o_lenM rfl ?_ | refine WX.near rfl (o_build rfl) rfl ?_ | refine WX.near rfl (o_storeHR hf rfl rfl) rfl ?_ | refine WX.near rfl (o_allocR 0 rfl) rfl ?_ | refine WX.near rfl (o_allocR 1 rfl) rfl ?_ | fail)
    refine W.loop (fun i : Nat => [(0, .mptr r 0), (3, .mptr (h.next + 0) 0), (4, .mptr (h.next + 1) 0), (8, .msl id 5 0 1 none), (9, i64 (1 : Nat)), (10, i64 (i : Nat))]) (fun i => hp (rput h r (Lv ts) (po ts l)) (match i with
        | 0 => [some [i64 0, i64 0, .str [], .nilsl, i64 0], some [i64 (k : Nat), i64 0, .str [], .nilsl, i64 1]]
        | _ => [some [i64 0, i64 0, .str [], .nilsl, i64 0], some [i64 (k : Nat), i64 0, .str [], (.msl (h.next + 4) 4 0 1 none), i64 (mxN 1 (yd + 1) : Nat)], some [i64 yk, i64 yn, .str ys, yu, i64 (yd : Nat)], some [i64 yk, i64 yn, .str ys, yu], some [i64 yk, i64 yn, .str ys, yu]]))
      (fun i => i ≤ 1) (fun i => 1 - i) 0 (Nat.zero_le _) ⟨rfl, rfl, rfl, rfl, rfl, rfl, trivial⟩ rfl ?_
    intro i hi
    rcases i with _ | i
    · skip
      repeat' (first
          | refine WX.near rfl (o_iaddrM (n := 0) rfl (by decide)) rfl ?_ | refine WX.near rfl (o_loadN (hid _) (Nat.le_of_ble_eq_true rfl)) rfl ?_ | refine WX.near rfl (o_appNR 4 rfl rfl rfl rfl) rfl ?_ | refine WX.near rfl o_maxN rfl ?_ | refine W.seq ?_ | refine W.regionX ?_ | refine WX.nil ?_ | refine W.skip ?_ | refine W.block ?_ | refine W.yes rfl rfl ?_ | refine WX.near rfl o_lss rfl ?_ | refine WX.near rfl o_faddr rfl ?_ | refine WX.near rfl (o_add (by omega) (by omega)) rfl ?_ | refine WX.near rfl (o_loadHR rfl) rfl ?_ | refine WX.near rfl (o_loadHNR rfl rfl) rfl ?_ | refine WX.near rfl (o_storeHR hf rfl rfl) rfl ?_ | refine WX.near rfl (o_allocR 2 rfl) rfl ?_ | refine WX.near rfl (o_litHR 3 rfl rfl) rfl ?_ | fail)
      exact ⟨1, by decide, by decide, ⟨rfl, rfl, rfl, rfl, rfl, rfl, trivial⟩, rfl⟩
    obtain rfl : i = 0 := by omega
    repeat' (first
        | refine W.seq ?_ | refine W.regionX ?_ | refine WX.nil ?_ | refine W.skip ?_ | refine W.ret ?_ | refine W.exit ?_ | refine W.no rfl rfl ?_ | refine W.noP rfl (by omega) ?_ | refine WX.near rfl o_lss rfl ?_ | refine WX.near rfl o_gtr rfl ?_ | refine WX.near rfl o_faddr rfl ?_ | refine WX.near rfl (o_loadHR rfl) rfl ?_ | refine WX.near rfl (o_loadHNR rfl rfl) rfl ?_ | refine WX.near rfl (o_storeHR hf rfl rfl) rfl ?_ | fail)
    refine ⟨_, resK_cellR rfl rfl rfl rfl, _, _, rfl, rfl, frz_read fun j hj => ?_⟩
    refine freeze_made (h0 := rput h r (Lv ts) (po ts l)) EX.cells (l := [.mk yk yn ys yl yu]) ⟨rfl, .inr ⟨4, _, rfl, rfl, Nat.le_of_ble_eq_true rfl, rfl⟩⟩ (by decide) (fun _ => rfl) (by show 1 + 4 + 3 < j; omega) (fun x hx u hu => ?_) (fun h => by cases h)
    simp only [List.mem_cons, List.not_mem_nil, or_false] at hx
    rcases hx with rfl <;>
      (simp only [EX.cells, EX.k, EX.n, EX.name, EX.u, List.mem_cons, List.not_mem_nil, or_false] at hu
       rcases hu with rfl | rfl | rfl | rfl <;> first | rfl | assumption)
  · rw [dif_neg (by exact hd)]
    show W _ _ _ _ _ (doneX _ (ansF TP r (Lv ts) h (.bad (4 : Nat) (po ts l))))
    repeat' (first
        | refine W.seq ?_ | refine W.regionX ?_ | refine WX.nil ?_ | refine W.block ?_ | refine WX.near rfl o_mov rfl ?_ | refine WX.near rfl o_lenM rfl ?_ | refine WX.near rfl (o_build rfl) rfl ?_ | refine WX.near rfl (o_storeHR hf rfl rfl) rfl ?_ | refine WX.near rfl (o_allocR 0 rfl) rfl ?_ | refine WX.near rfl (o_allocR 1 rfl) rfl ?_ | fail)
    refine W.loop (fun i : Nat => [(0, .mptr r 0), (3, .mptr (h.next + 0) 0), (4, .mptr (h.next + 1) 0), (8, .msl id 5 0 1 none), (9, i64 (1 : Nat)), (10, i64 (i : Nat))]) (fun i => hp (rput h r (Lv ts) (po ts l)) (match i with
        | 0 => [some [i64 0, i64 0, .str [], .nilsl, i64 0], some [i64 (k : Nat), i64 0, .str [], .nilsl, i64 1]]
        | _ => [some [i64 0, i64 0, .str [], .nilsl, i64 0], some [i64 (k : Nat), i64 0, .str [], (.msl (h.next + 4) 4 0 1 none), i64 (mxN 1 (yd + 1) : Nat)], some [i64 yk, i64 yn, .str ys, yu, i64 (yd : Nat)], some [i64 yk, i64 yn, .str ys, yu], some [i64 yk, i64 yn, .str ys, yu]]))
      (fun i => i ≤ 1) (fun i => 1 - i) 0 (Nat.zero_le _) ⟨rfl, rfl, rfl, rfl, rfl, rfl, trivial⟩ rfl ?_
    intro i hi
    rcases i with _ | i
    · skip
      repeat' (first
          | refine WX.near rfl (o_iaddrM (n := 0) rfl (by decide)) rfl ?_ | refine WX.near rfl (o_loadN (hid _) (Nat.le_of_ble_eq_true rfl)) rfl ?_ | refine WX.near rfl (o_appNR 4 rfl rfl rfl rfl) rfl ?_ | refine WX.near rfl o_maxN rfl ?_ | refine W.seq ?_ | refine W.regionX ?_ | refine WX.nil ?_ | refine W.skip ?_ | refine W.block ?_ | refine W.yes rfl rfl ?_ | refine WX.near rfl o_lss rfl ?_ | refine WX.near rfl o_faddr rfl ?_ | refine WX.near rfl (o_add (by omega) (by omega)) rfl ?_ | refine WX.near rfl (o_loadHR rfl) rfl ?_ | refine WX.near rfl (o_loadHNR rfl rfl) rfl ?_ | refine WX.near rfl (o_storeHR hf rfl rfl) rfl ?_ | refine WX.near rfl (o_allocR 2 rfl) rfl ?_ | refine WX.near rfl (o_litHR 3 rfl rfl) rfl ?_ | fail)
      exact ⟨1, by decide, by decide, ⟨rfl, rfl, rfl, rfl, rfl, rfl, trivial⟩, rfl⟩
    obtain rfl : i = 0 := by omega
    repeat' (first
        | refine WX.bad hf hr rfl hfl (fun b => ?_) | refine W.seq ?_ | refine W.regionX ?_ | refine WX.nil ?_ | refine W.exit ?_ | refine W.no rfl rfl ?_ | refine W.yesP rfl (by omega) ?_ | refine WX.near rfl o_lss rfl ?_ | refine WX.near rfl o_gtr rfl ?_ | refine WX.near rfl o_faddr rfl ?_ | refine WX.near rfl (o_loadHR rfl) rfl ?_ | fail)
    exact ⟨rfl, _, _, rfl⟩
theorem made2_px (k : Nat) (x y : Rd) (id : Nat) :
    PXC D1 TP 158 [.mptr r 0, i64 (k : Nat), .msl id 5 0 2 none] r (Lv ts) (po ts l) ((madeR k [x, y] l).ans Rd.v ts) (fun h => h.cellsOf id = some (x.cells ++ y.cells)) := by
  have hfl := fail_px (ts := ts) (r := r) 4 (a := po ts l) po_le
  rw [madeR_eq]
  obtain ⟨⟨xk, xn, xs, xl, xu⟩, xd, xhu, xhd⟩ := x
  obtain ⟨⟨yk, yn, ys, yl, yu⟩, yd, yhu, yhd⟩ := y
  refine PXC.tidy (fun h hp => hp) rfl rfl rfl rfl rfl fun h hf hr hpi hsame => ?_
  have hid : ∀ bs, (hp (rput h r (Lv ts) (po ts l)) bs).cellsOf id = some [i64 xk, i64 xn, .str xs, xu, i64 (xd : Nat), i64 yk, i64 yn, .str ys, yu, i64 (yd : Nat)] := fun bs => by
    rw [hsame, hp_cellsL (cells_lt hpi)]; exact hpi
  by_cases hd : mxN (mxN 1 (xd + 1)) (yd + 1) ≤ 40
  · rw [dif_pos (by exact hd)]
    show W _ _ _ _ _ (doneX _ (ansF TP r (Lv ts) h (.val (.agg [i64 (k : Nat), i64 0, .str [], slV [.agg [i64 xk, i64 xn, .str xs, xu], .agg [i64 yk, i64 yn, .str ys, yu]], i64 (mxN (mxN 1 (xd + 1)) (yd + 1) : Nat)]) (po ts l))))
    repeat' (first
        | refine W.seq ?_ | refine W.regionX ?_ | refine WX.nil ?_ | refine W.block ?_ | refine WX.near rfl o_mov rfl ?_ | refine WX.near rfl o_lenM rfl ?_ | refine WX.near rfl (o_build rfl) rfl ?_ | refine WX.near rfl (o_storeHR hf rfl rfl) rfl ?_ | refine WX.near rfl (o_allocR 0 rfl) rfl ?_ | refine WX.near rfl (o_allocR 1 rfl) rfl ?_ | fail)
    refine W.loop (fun i : Nat => [(0, .mptr r 0), (3, .mptr (h.next + 0) 0), (4, .mptr (h.next + 1) 0), (8, .msl id 5 0 2 none), (9, i64 (2 : Nat)), (10, i64 (i : Nat))]) (fun i => hp (rput h r (Lv ts) (po ts l)) (match i with
        | 0 => [some [i64 0, i64 0, .str [], .nilsl, i64 0], some [i64 (k : Nat), i64 0, .str [], .nilsl, i64 1]]
        | 1 => [some [i64 0, i64 0, .str [], .nilsl, i64 0], some [i64 (k : Nat), i64 0, .str [], (.msl (h.next + 4) 4 0 1 none), i64 (mxN 1 (xd + 1) : Nat)], some [i64 xk, i64 xn, .str xs, xu, i64 (xd : Nat)], some [i64 xk, i64 xn, .str xs, xu], some [i64 xk, i64 xn, .str xs, xu]]
        | _ => [some [i64 0, i64 0, .str [], .nilsl, i64 0], some [i64 (k : Nat), i64 0, .str [], (.msl (h.next + 7) 4 0 2 none), i64 (mxN (mxN 1 (xd + 1)) (yd + 1) : Nat)], some [i64 xk, i64 xn, .str xs, xu, i64 (xd : Nat)], some [i64 xk, i64 xn, .str xs, xu], none, some [i64 yk, i64 yn, .str ys, yu, i64 (yd : Nat)], some [i64 yk, i64 yn, .str ys, yu], some [i64 xk, i64 xn, .str xs, xu, i64 yk, i64 yn, .str ys, yu]]))
      (fun i => i ≤ 2) (fun i => 2 - i) 0 (Nat.zero_le _) ⟨rfl, rfl, rfl, rfl, rfl, rfl, trivial⟩ rfl ?_
    intro i hi
    rcases i with _ | i
    · skip
      repeat' (first
          | refine WX.near rfl (o_iaddrM (n := 0) rfl (by decide)) rfl ?_ | refine WX.near rfl (o_loadN (hid _) (Nat.le_of_ble_eq_true rfl)) rfl ?_ | refine WX.near rfl (o_appNR 4 rfl rfl rfl rfl) rfl ?_ | refine WX.near rfl o_maxN rfl ?_ | refine W.seq ?_ | refine W.regionX ?_ | refine WX.nil ?_ | refine W.skip ?_ | refine W.block ?_ | refine W.yes rfl rfl ?_ | refine WX.near rfl o_lss rfl ?_ | refine WX.near rfl o_faddr rfl ?_ | refine WX.near rfl (o_add (by omega) (by omega)) rfl ?_ | refine WX.near rfl (o_loadHR rfl) rfl ?_ | refine WX.near rfl (o_loadHNR rfl rfl) rfl ?_ | refine WX.near rfl (o_storeHR hf rfl rfl) rfl ?_ | refine WX.near rfl (o_allocR 2 rfl) rfl ?_ | refine WX.near rfl (o_litHR 3 rfl rfl) rfl ?_ | fail)
      exact ⟨1, by decide, by decide, ⟨rfl, rfl, rfl, rfl, rfl, rfl, trivial⟩, rfl⟩
    rcases i with _ | i
    · skip
      repeat' (first
          | refine WX.near rfl (o_iaddrM (n := 1) rfl (by decide)) rfl ?_ | refine WX.near rfl (o_loadN (hid _) (Nat.le_of_ble_eq_true rfl)) rfl ?_ | refine WX.near rfl (o_appFR hf 7 rfl rfl rfl rfl rfl rfl rfl) rfl ?_ | refine WX.near rfl o_maxN rfl ?_ | refine W.seq ?_ | refine W.regionX ?_ | refine WX.nil ?_ | refine W.skip ?_ | refine W.block ?_ | refine W.yes rfl rfl ?_ | refine WX.near rfl o_lss rfl ?_ | refine WX.near rfl o_faddr rfl ?_ | refine WX.near rfl (o_add (by omega) (by omega)) rfl ?_ | refine WX.near rfl (o_loadHR rfl) rfl ?_ | refine WX.near rfl (o_loadHNR rfl rfl) rfl ?_ | refine WX.near rfl (o_storeHR hf rfl rfl) rfl ?_ | refine WX.near rfl (o_allocR 5 rfl) rfl ?_ | refine WX.near rfl (o_litHR 6 rfl rfl) rfl ?_ | fail)
      exact ⟨2, by decide, by decide, ⟨rfl, rfl, rfl, rfl, rfl, rfl, trivial⟩, rfl⟩
    obtain rfl : i = 0 := by omega
    repeat' (first
        | refine W.seq ?_ | refine W.regionX ?_ | refine WX.nil ?_ | refine W.skip ?_ | refine W.ret ?_ | refine W.exit ?_ | refine W.no rfl rfl ?_ | refine W.noP rfl (by omega) ?_ | refine WX.near rfl o_lss rfl ?_ | refine WX.near rfl o_gtr rfl ?_ | refine WX.near rfl o_faddr rfl ?_ | refine WX.near rfl (o_loadHR rfl) rfl ?_ | refine WX.near rfl (o_loadHNR rfl rfl) rfl ?_ | refine WX.near rfl (o_storeHR hf rfl rfl) rfl ?_ | fail)
    refine ⟨_, resK_cellR rfl rfl rfl rfl, _, _, rfl, rfl, frz_read fun j hj => ?_⟩
    refine freeze_made (h0 := rput h r (Lv ts) (po ts l)) EX.cells (l := [.mk xk xn xs xl xu, .mk yk yn ys yl yu]) ⟨rfl, .inr ⟨7, _, rfl, rfl, Nat.le_of_ble_eq_true rfl, rfl⟩⟩ (by decide) (fun _ => rfl) (by show 2 + 4 + 3 < j; omega) (fun x hx u hu => ?_) (fun h => by cases h)
    simp only [List.mem_cons, List.not_mem_nil, or_false] at hx
    rcases hx with rfl | rfl <;>
      (simp only [EX.cells, EX.k, EX.n, EX.name, EX.u, List.mem_cons, List.not_mem_nil, or_false] at hu
       rcases hu with rfl | rfl | rfl | rfl <;> first | rfl | assumption)
  · rw [dif_neg (by exact hd)]
    show W _ _ _ _ _ (doneX _ (ansF TP r (Lv ts) h (.bad (4 : Nat) (po ts l))))
    repeat' (first
        | refine W.seq ?_ | refine W.regionX ?_ | refine WX.nil ?_ | refine W.block ?_ | refine WX.near rfl o_mov rfl ?_ | refine WX.near rfl o_lenM rfl ?_ | refine WX.near rfl (o_build rfl) rfl ?_ | refine WX.near rfl (o_storeHR hf rfl rfl) rfl ?_ | refine WX.near rfl (o_allocR 0 rfl) rfl ?_ | refine WX.near rfl (o_allocR 1 rfl) rfl ?_ | fail)
    refine W.loop (fun i : Nat => [(0, .mptr r 0), (3, .mptr (h.next + 0) 0), (4, .mptr (h.next + 1) 0), (8, .msl id 5 0 2 none), (9, i64 (2 : Nat)), (10, i64 (i : Nat))]) (fun i => hp (rput h r (Lv ts) (po ts l)) (match i with
        | 0 => [some [i64 0, i64 0, .str [], .nilsl, i64 0], some [i64 (k : Nat), i64 0, .str [], .nilsl, i64 1]]
        | 1 => [some [i64 0, i64 0, .str [], .nilsl, i64 0], some [i64 (k : Nat), i64 0, .str [], (.msl (h.next + 4) 4 0 1 none), i64 (mxN 1 (xd + 1) : Nat)], some [i64 xk, i64 xn, .str xs, xu, i64 (xd : Nat)], some [i64 xk, i64 xn, .str xs, xu], some [i64 xk, i64 xn, .str xs, xu]]
        | _ => [some [i64 0, i64 0, .str [], .nilsl, i64 0], some [i64 (k : Nat), i64 0, .str [], (.msl (h.next + 7) 4 0 2 none), i64 (mxN (mxN 1 (xd + 1)) (yd + 1) : Nat)], some [i64 xk, i64 xn, .str xs, xu, i64 (xd : Nat)], some [i64 xk, i64 xn, .str xs, xu], none, some [i64 yk, i64 yn, .str ys, yu, i64 (yd : Nat)], some [i64 yk, i64 yn, .str ys, yu], some [i64 xk, i64 xn, .str xs, xu, i64 yk, i64 yn, .str ys, yu]]))
      (fun i => i ≤ 2) (fun i => 2 - i) 0 (Nat.zero_le _) ⟨rfl, rfl, rfl, rfl, rfl, rfl, trivial⟩ rfl ?_
    intro i hi
    rcases i with _ | i
    · skip
      repeat' (first
          | refine WX.near rfl (o_iaddrM (n := 0) rfl (by decide)) rfl ?_ | refine WX.near rfl (o_loadN (hid _) (Nat.le_of_ble_eq_true rfl)) rfl ?_ | refine WX.near rfl (o_appNR 4 rfl rfl rfl rfl) rfl ?_ | refine WX.near rfl o_maxN rfl ?_ | refine W.seq ?_ | refine W.regionX ?_ | refine WX.nil ?_ | refine W.skip ?_ | refine W.block ?_ | refine W.yes rfl rfl ?_ | refine WX.near rfl o_lss rfl ?_ | refine WX.near rfl o_faddr rfl ?_ | refine WX.near rfl (o_add (by omega) (by omega)) rfl ?_ | refine WX.near rfl (o_loadHR rfl) rfl ?_ | refine WX.near rfl (o_loadHNR rfl rfl) rfl ?_ | refine WX.near rfl (o_storeHR hf rfl rfl) rfl ?_ | refine WX.near rfl (o_allocR 2 rfl) rfl ?_ | refine WX.near rfl (o_litHR 3 rfl rfl) rfl ?_ | fail)
      exact ⟨1, by decide, by decide, ⟨rfl, rfl, rfl, rfl, rfl, rfl, trivial⟩, rfl⟩
    rcases i with _ | i
    · skip
      repeat' (first
          | refine WX.near rfl (o_iaddrM (n := 1) rfl (by decide)) rfl ?_ | refine WX.near rfl (o_loadN (hid _) (Nat.le_of_ble_eq_true rfl)) rfl ?_ | refine WX.near rfl (o_appFR hf 7 rfl rfl rfl rfl rfl rfl rfl) rfl ?_ | refine WX.near rfl o_maxN rfl ?_ | refine W.seq ?_ | refine W.regionX ?_ | refine WX.nil ?_ | refine W.skip ?_ | refine W.block ?_ | refine W.yes rfl rfl ?_ | refine WX.near rfl o_lss rfl ?_ | refine WX.near rfl o_faddr rfl ?_ | refine WX.near rfl (o_add (by omega) (by omega)) rfl ?_ | refine WX.near rfl (o_loadHR rfl) rfl ?_ | refine WX.near rfl (o_loadHNR rfl rfl) rfl ?_ | refine WX.near rfl (o_storeHR hf rfl rfl) rfl ?_ | refine WX.near rfl (o_allocR 5 rfl) rfl ?_ | refine WX.near rfl (o_litHR 6 rfl rfl) rfl ?_ | fail)
      exact ⟨2, by decide, by decide, ⟨rfl, rfl, rfl, rfl, rfl, rfl, trivial⟩, rfl⟩
    obtain rfl : i = 0 := by omega
    repeat' (first
        | refine WX.bad hf hr rfl hfl (fun b => ?_) | refine W.seq ?_ | refine W.regionX ?_ | refine WX.nil ?_ | refine W.exit ?_ | refine W.no rfl rfl ?_ | refine W.yesP rfl (by omega) ?_ | refine WX.near rfl o_lss rfl ?_ | refine WX.near rfl o_gtr rfl ?_ | refine WX.near rfl o_faddr rfl ?_ | refine WX.near rfl (o_loadHR rfl) rfl ?_ | fail)
    exact ⟨rfl, _, _, rfl⟩
end
end Go.Proofs.YtfbikhkmamdjmaaDoor.CodesX
