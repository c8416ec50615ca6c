/- Copies of expressions, flat nodes without their parts, depths: walked. -/
import Derived.Test.YtfbikhkmamdjmaaDoorWV1
namespace Go.Proofs.YtfbikhkmamdjmaaDoor.CodesK
open Go Go.Ab
set_option maxHeartbeats 1600000
set_option maxRecDepth 100000

theorem IsSl.tmp {h0 : Heap} {bs : List (Option (List V))} {sz n off m : Nat} {v : V} {row z cs : List V} (h : IsSl h0 bs sz v n row) : IsSl h0 (bput (badd bs z) bs.length off m cs) sz v n row :=
  h.keep fun k l e => by
    have := bget_lt e
    rw [bget_bput_ne (by omega)]
    exact bget_badd_lt e
theorem o_min {h : Heap} {a b : Int} {k : IntKind} : Does (.mm false [.v (.int k a), .v (.int k b)]) h (.int k (min a b)) h := by
  refine ⟨?_⟩; rw [op1v]
  have : (if b < a then b else a) = min a b := by split <;> omega
  simp only [op1, List.map_cons, List.map_nil, ev, mmAll, mm2, if_true, Bool.false_eq_true, if_false, this]
  rfl
theorem within_pu (a lo hi : Int) : PuF D1 145 [i64 a, i64 lo, i64 hi] (i64 (max lo (min a hi))) := by
  refine PuF.tidy rfl rfl rfl rfl rfl fun h hf => ?_
  repeat' (first
      | refine WS.near rfl o_max rfl ?_ | refine WS.near rfl o_min rfl ?_ | refine W.seq ?_ | refine W.region ?_ | refine WS.nil ?_ | refine W.ret ?_ | refine WS.near rfl o_mov rfl ?_ | fail)
  exact ⟨_, rfl, fin_int rfl⟩
theorem slV_cells (l : List V) : (slV l).cells = [slV l] := by cases l <;> rfl
theorem o_storeO {h0 : Heap} {bs : List (Option (List V))} {off k : Nat} {l : List V} {x : V} (hf : h0.Fine) (e : bget bs k = some l) (hx : x.cells = [x]) (hl : Nat.ble (off + 1) (lenL l) = true) :
    Does (.store 1 (.v (.mptr (h0.next + k) off)) (.v x)) (hp h0 bs) .undef (hp h0 (bput bs k off 1 [x])) := by
  have := o_storeH (n := 1) (x := x) (off := off) hf e (by rw [hx, hl]; rfl)
  rwa [hx] at this
theorem agg_still {h : Heap} {n k : Nat} {cs : List V} (hs : ∀ v ∈ cs, V.still v = true) (hk : cs.length < k) : Go.Ab.freeze h n (k + 1) (.agg cs) = some (.agg cs) := by
  rw [frz_agg, freezes_still cs k hk hs]; rfl
def kidsOk (k : Int) (n : Int) : Prop := if k = 0 ∨ k = 1 ∨ k = 2 ∨ k = 3 ∨ k = 4 ∨ k = 11 then 1 ≤ n ∧ n ≤ 16 else if k = 5 ∨ k = 6 then n = 1 else n = 0
instance (k n : Int) : Decidable (kidsOk k n) := by unfold kidsOk; infer_instance
theorem kids_pu (k n : Int) : PuF D1 126 [i64 k, i64 n] (.bool (decide (kidsOk k n))) := by
  refine PuF.tidy rfl rfl rfl rfl rfl fun h hf => ?_
  repeat' (first
      | refine W.seq ?_ | refine W.region ?_ | refine WS.nil ?_ | refine W.skip ?_ | refine W.block ?_ | refine W.ret ?_ | refine W.yes rfl rfl ?_ | refine W.fork rfl (fun _ => ?_) (fun _ => ?_) | refine WS.guardT rfl ?_ | refine WS.guardF rfl rfl rfl ?_ | refine WS.guardK rfl (fun _ => ?_) (fun _ => ?_) | refine WS.near rfl o_mov rfl ?_ | refine WS.near rfl o_pickT rfl ?_ | refine WS.near rfl o_pickF rfl ?_ | refine WS.near rfl o_leq rfl ?_ | refine WS.near rfl o_geq rfl ?_ | refine WS.near rfl o_eql rfl ?_ | fail)
  all_goals
    refine ⟨_, rfl, fin_bool ?_⟩
    first
      | exact btrue (by unfold kidsOk; first | (rw [if_pos (by omega)]; omega) | (rw [if_neg (by omega), if_pos (by omega)]; omega) | (rw [if_neg (by omega), if_neg (by omega)]; omega))
      | exact bfalse (by unfold kidsOk; first | (rw [if_pos (by omega)]; omega) | (rw [if_neg (by omega), if_pos (by omega)]; omega) | (rw [if_neg (by omega), if_neg (by omega)]; omega))
      | exact bsame (by unfold kidsOk; first | (rw [if_pos (by omega)]; omega) | (rw [if_neg (by omega), if_pos (by omega)]) | (rw [if_neg (by omega), if_neg (by omega)]))
def noneOk (x : EX) : Prop := x.k = 0 ∧ x.n = 0 ∧ x.name = [] ∧ x.kids = []
theorem none_iff {x : EX} : noneOk x ↔ x.k = 0 ∧ x.n = 0 ∧ x.name.length = 0 ∧ x.kids.length = 0 := by
  unfold noneOk
  rw [List.length_eq_zero_iff, List.length_eq_zero_iff]
open Classical in
theorem none_pu (x : EX) (hx : x.Ok) : PuF D1 177 [x.v] (.bool (decide (noneOk x))) := by
  have hkm : (x.kids.map EX.v).length = x.kids.length := List.length_map ..
  have hi := none_iff (x := x)
  refine PuF.tidy rfl rfl rfl rfl rfl fun h hf => ?_
  repeat' (first
      | refine WS.near rfl (o_lenZ hx.fz) rfl ?_ | refine W.seq ?_ | refine W.region ?_ | refine WS.nil ?_ | refine W.ret ?_ | refine WS.guardT rfl ?_ | refine WS.guardF rfl rfl rfl ?_ | refine WS.guardK rfl (fun _ => ?_) (fun _ => ?_) | refine WS.near rfl o_mov rfl ?_ | refine WS.near rfl o_pickT rfl ?_ | refine WS.near rfl o_pickF rfl ?_ | refine WS.near rfl o_eql rfl ?_ | refine WS.near rfl o_seql0 rfl ?_ | refine WS.near rfl o_faddr rfl ?_ | refine WS.near rfl (o_loadH rfl) rfl ?_ | refine WS.near rfl (o_boxH 0 rfl) rfl ?_ | fail)
  all_goals
    refine ⟨_, rfl, fin_bool ?_⟩
    first
      | exact btrue (hi.2 (by omega))
      | exact bfalse (fun h => by have := hi.1 h; omega)
      | exact bsame (Iff.trans (by constructor <;> (intro h; omega)) hi.symm)

structure LS where
  i : Nat
  v : V
  bs : List (Option (List V))
theorem take_snoc {α β : Type} [Inhabited α] (f : α → List β) {l : List α} {i : Nat} (h : i < l.length) : (l.take (i + 1)).flatMap f = (l.take i).flatMap f ++ f (l.getD i default) := by
  rw [List.take_add_one, List.getElem?_eq_getElem h, List.flatMap_append]
  simp [List.getD, List.getElem?_eq_getElem h]
theorem cp_getD {l : List EX} {i : Nat} (h : i < l.length) : (l.map EX.cp).getD i default = (l.getD i default).cp := by
  simp [List.getD, List.getElem?_map, List.getElem?_eq_getElem h]
theorem EX.cells_still {x : EX} (hu : V.still x.u = true) : ∀ u ∈ x.cells, V.still u = true := fun u h => by
  simp only [EX.cells, List.mem_cons, List.not_mem_nil, or_false] at h
  rcases h with rfl | rfl | rfl | rfl <;> first | rfl | exact hu
theorem cp_still {l : List EX} : ∀ x ∈ l.map EX.cp, ∀ u ∈ x.cells, V.still u = true := fun x hx => by
  obtain ⟨y, _, rfl⟩ := List.mem_map.1 hx
  refine EX.cells_still ?_
  rw [EX.cp_u]
  exact slV_still _
theorem copies_of (l : List EX) (u : V) (hu : IsFz u (l.map EX.v)) (hl : l.length * 56 ≤ 140737488355328) (ih : ∀ y ∈ l, PuF D1 175 [y.v] y.cp.v) : PuF D1 176 [u] (slV ((l.map EX.cp).map EX.v)) := by
  have hkm : (l.map EX.v).length = l.length := List.length_map ..
  have hcl : (l.map EX.cp).length = l.length := List.length_map ..
  refine PuF.tidy rfl rfl rfl rfl rfl fun h hf => ?_
  repeat' (first
      | refine WS.near rfl (o_lenZ hu) rfl ?_ | refine W.seq ?_ | refine W.region ?_ | refine WS.nil ?_ | refine W.block ?_ | refine WS.near rfl o_mov rfl ?_ | fail)
  refine W.loop (fun a : LS => [(2, a.v), (4, u), (5, i64 l.length), (6, i64 a.i)]) (fun a => hp h a.bs)
    (fun a => a.i ≤ l.length ∧ IsSl h a.bs 4 a.v a.i (((l.map EX.cp).take a.i).flatMap EX.cells) ∧ (a.i = 0 → a.v = .nilsl)) (fun a => l.length - a.i)
    ⟨0, .nilsl, []⟩ ⟨Nat.zero_le _, IsSl.nil, fun _ => rfl⟩ (by exact ⟨rfl, rfl, congrArg (fun z : Nat => some (i64 (z : Int))) hkm, rfl, trivial⟩) rfl ?_
  rintro ⟨i, v, bs⟩ ⟨hi, hsl, hv0⟩
  simp only at hi hsl hv0 ⊢
  repeat' (first
      | refine W.seq ?_ | refine W.region ?_ | refine WS.nil ?_ | refine W.skip ?_ | refine W.block ?_ | refine W.ret ?_ | refine W.exit ?_ | refine W.fork rfl (fun _ => ?_) (fun _ => ?_) | refine WS.near rfl o_mov rfl ?_ | refine WS.near rfl o_lss rfl ?_ | fail)
  · have hlt : i < l.length := by omega
    refine WS.near rfl (o_iaddrZ i hu rfl (fz_at (d := default) i hlt) rfl) rfl ?_
    have hy := ih _ (getD_mem (d := default) hlt)
    have hs' : ((l.map EX.cp).take (i + 1)).flatMap EX.cells = ((l.map EX.cp).take i).flatMap EX.cells ++ ((l.getD i default).cp).cells := by
      rw [take_snoc EX.cells (by omega), cp_getD hlt]
    generalize l.getD i default = y at hy hs' ⊢
    repeat' (first
        | refine WS.near rfl (o_loadA rfl) rfl ?_ | refine WS.near rfl o_allocS rfl ?_ | refine WS.near rfl (o_storeH hf bget_badd rfl) rfl ?_ | refine WS.near rfl (o_loadHN (bget_bput bget_badd) rfl) rfl ?_ | refine WS.puF hf rfl rfl hy ?_ | refine WS.near rfl (o_litS (cs := y.cp.cells) rfl) rfl ?_ | refine W.region ?_ | refine WS.nil ?_ | fail)
    obtain ⟨v', bs', hd, hsl', hle⟩ := app_one hf (IsSl.badd (c := y.cp.cells) (IsSl.tmp (z := [.int .i64 0, .int .i64 0, .str [], .nilsl]) (off := 0) (m := 4) (cs := y.cells) hsl)) bget_badd (c := y.cp.cells) rfl (by decide) (bytes := 56) (by show (i + 1) * 56 ≤ 140737488355328; omega)
    refine WS.near rfl hd rfl ?_
    repeat' (first
        | refine W.region ?_ | refine WS.nil ?_ | refine WS.near rfl (o_add (by omega) (by omega)) rfl ?_ | fail)
    have e1 : (i : Int) + 1 = ((i + 1 : Nat) : Int) := by omega
    refine ⟨⟨i + 1, v', bs'⟩, ⟨by show i + 1 ≤ l.length; omega, ?_, fun h => by simp at h⟩, by show l.length - (i + 1) < l.length - i; omega, ⟨rfl, rfl, rfl, congrArg (fun z => some (V.int .i64 z)) e1, trivial⟩, rfl⟩
    show IsSl h bs' 4 v' (i + 1) (((l.map EX.cp).take (i + 1)).flatMap EX.cells)
    rw [hs']
    exact hsl'
  · have hil : i = l.length := by omega
    subst hil
    repeat' (first
        | refine W.ret ?_ | fail)
    rw [← hcl, List.take_length] at hsl
    exact ⟨_, rfl, ⟨_, rfl, freeze_made EX.cells hsl (by decide) (fun x => rfl) (by rw [hcl]; show l.length + 4 + 3 < 1000000000000000; omega) cp_still (fun h0 => hv0 (by rw [h0] at hcl; simpa using hcl.symm))⟩⟩
theorem copy_pu : ∀ (n : Nat) (x : EX), x.sz ≤ n → x.Ok → x.Sm → PuF D1 175 [x.v] x.cp.v
  | 0, x, h, _, _ => by have := x.sz_pos; omega
  | n + 1, x, h, hx, hm => by
    have hc := copies_of x.kids x.u hx.fz hm.len fun y hy => copy_pu n y (by have := EX.sz_kid hy; omega) (by cases hx with | mk _ _ _ h => exact h y hy) (hm.kids y hy)
    refine PuF.tidy rfl rfl rfl rfl rfl fun h hf => ?_
    repeat' (first
        | refine WS.puF hf rfl rfl hc ?_ | refine WS.near rfl (o_storeO hf rfl (slV_cells _) rfl) rfl ?_ | refine W.seq ?_ | refine W.region ?_ | refine WS.nil ?_ | refine W.ret ?_ | refine WS.near rfl o_faddr rfl ?_ | refine WS.near rfl (o_loadH rfl) rfl ?_ | refine WS.near rfl (o_loadHN rfl rfl) rfl ?_ | refine WS.near rfl (o_storeH (by assumption) rfl rfl) rfl ?_ | refine WS.near rfl (o_boxH 0 rfl) rfl ?_ | refine WS.near rfl (o_allocH 1 rfl) rfl ?_ | fail)
    have e1 : x.cp.v = .agg [i64 x.k, i64 x.n, .str x.name, slV ((x.kids.map EX.cp).map EX.v)] := by
      show V.agg [i64 x.cp.k, i64 x.cp.n, .str x.cp.name, x.cp.u] = _
      rw [x.cp_k, x.cp_n, x.cp_name, x.cp_u]
    rw [e1]
    refine ⟨_, resK_cell (k := 1) rfl rfl rfl rfl, ⟨_, rfl, ?_⟩⟩
    exact agg_still (k := 999999999999999) (cs := [i64 x.k, i64 x.n, .str x.name, slV ((x.kids.map EX.cp).map EX.v)]) (fun u hu => by
      simp only [List.mem_cons, List.not_mem_nil, or_false] at hu
      rcases hu with rfl | rfl | rfl | rfl <;> first | rfl | exact slV_still _) (by show 4 < 999999999999999; omega)
def FL.node (r : FL) : ND := .mk r.k r.a r.b r.s r.x.cp [] .nilsl (r.ws.map EX.cp) (slV ((r.ws.map EX.cp).map EX.v))
theorem FL.node_v (r : FL) : r.node.v = .agg [i64 r.k, i64 r.a, i64 r.b, .str r.s, i64 r.x.k, i64 r.x.n, .str r.x.name, slV ((r.x.kids.map EX.cp).map EX.v), .nilsl, slV ((r.ws.map EX.cp).map EX.v)] := by
  show V.agg [i64 r.k, i64 r.a, i64 r.b, .str r.s, i64 r.x.cp.k, i64 r.x.cp.n, .str r.x.cp.name, r.x.cp.u, .nilsl, _] = _
  rw [r.x.cp_k, r.x.cp_n, r.x.cp_name, r.x.cp_u]
  rfl
theorem flatNode_pu (r : FL) (hr : r.Ok) : PuF D1 124 [r.v] r.node.v := by
  have h1 := copy_pu _ r.x (Nat.le_refl _) hr.x hr.xm
  have h2 := copies_of r.ws r.w hr.w hr.wl fun y hy => copy_pu _ y (Nat.le_refl _) (hr.ws y hy) (hr.wm y hy)
  have e1 : r.x.cp.v = .agg [i64 r.x.k, i64 r.x.n, .str r.x.name, slV ((r.x.kids.map EX.cp).map EX.v)] := by
    show V.agg [i64 r.x.cp.k, i64 r.x.cp.n, .str r.x.cp.name, r.x.cp.u] = _
    rw [r.x.cp_k, r.x.cp_n, r.x.cp_name, r.x.cp_u]
  rw [e1] at h1
  rw [r.node_v]
  refine PuF.tidy rfl rfl rfl rfl rfl fun h hf => ?_
  repeat' (first
      | refine WS.puG hf rfl rfl h1 ⟨.inr ⟨rfl, _, _, _, rfl, o_loadH rfl, rfl⟩, .inr ⟨rfl, _, _, _, rfl, o_loadH rfl, rfl⟩, .inr ⟨rfl, _, _, _, rfl, o_loadH rfl, rfl⟩, .inr ⟨rfl, _, _, _, rfl, o_loadH rfl, rfl⟩, .inr ⟨rfl, _, _, _, rfl, o_loadH rfl, rfl⟩, trivial⟩ ?_ | refine WS.puG hf rfl rfl h2 ⟨.inr ⟨rfl, _, _, _, rfl, o_loadH rfl, rfl⟩, .inr ⟨rfl, _, _, _, rfl, o_loadH rfl, rfl⟩, .inr ⟨rfl, _, _, _, rfl, o_loadH rfl, rfl⟩, .inr ⟨rfl, _, _, _, rfl, o_loadH rfl, rfl⟩, trivial⟩ ?_ | refine W.seq ?_ | refine W.region ?_ | refine WS.nil ?_ | refine WS.near rfl o_faddr rfl ?_ | refine WS.near rfl (o_loadH rfl) rfl ?_ | refine WS.near rfl (o_loadHN rfl rfl) rfl ?_ | refine WS.near rfl (o_boxH 0 rfl) rfl ?_ | refine WS.near rfl (o_allocH 1 rfl) rfl ?_ | fail)
  refine WS.near rfl (o_build (cs := [i64 r.k, i64 r.a, i64 r.b, .str r.s, i64 r.x.k, i64 r.x.n, .str r.x.name, slV ((r.x.kids.map EX.cp).map EX.v), .nilsl, slV ((r.ws.map EX.cp).map EX.v)]) (by simp only [List.map_cons, List.map_nil, fill, vev, slV_cells]; rfl)) rfl ?_
  repeat' (first
      | refine WS.nil ?_ | refine W.ret ?_ | refine WS.near rfl (o_storeH (by assumption) rfl rfl) rfl ?_ | fail)
  refine ⟨_, resK_cell (k := 1) rfl rfl rfl rfl, ⟨_, rfl, ?_⟩⟩
  exact agg_still (k := 999999999999999) (cs := [i64 r.k, i64 r.a, i64 r.b, .str r.s, i64 r.x.k, i64 r.x.n, .str r.x.name, slV ((r.x.kids.map EX.cp).map EX.v), .nilsl, slV ((r.ws.map EX.cp).map EX.v)]) (fun u hu => by
      simp only [List.mem_cons, List.not_mem_nil, or_false] at hu
      rcases hu with rfl | rfl | rfl | rfl | rfl | rfl | rfl | rfl | rfl | rfl <;> first | rfl | exact slV_still _) (by show 10 < 999999999999999; omega)
theorem deeps_snoc : ∀ (l : List ND) (x : ND), ND.deeps (l ++ [x]) = max (ND.deeps l) x.deep
  | [], x => by simp [ND.deeps]
  | y :: r, x => by simp only [List.cons_append, ND.deeps, deeps_snoc r x]; omega
structure DS where
  i : Nat
  bs : List (Option (List V))
theorem depth_pu : ∀ (m : Nat) (n : ND), n.deep ≤ m → n.Ok → n.deep < 2 ^ 40 → PuF D1 82 [n.v] (i64 n.deep)
  | 0, n, h, _, _ => by have := n.deep_eq; omega
  | m + 1, n, hm, hn, hb => by
    have hkm : (n.kids.map ND.v).length = n.kids.length := List.length_map ..
    have hlen := hn.len
    have hde := n.deep_eq
    refine PuF.tidy rfl rfl rfl rfl rfl fun h hf => ?_
    repeat' (first
        | refine WS.near rfl (o_lenZ hn.ku) rfl ?_ | refine W.seq ?_ | refine W.region ?_ | refine WS.nil ?_ | refine W.block ?_ | refine WS.near rfl o_mov rfl ?_ | refine WS.near rfl o_faddr rfl ?_ | refine WS.near rfl (o_loadH rfl) rfl ?_ | refine WS.near rfl (o_boxH 0 rfl) rfl ?_ | fail)
    refine W.loop (fun a : DS => [(3, i64 (ND.deeps (n.kids.take a.i) : Nat)), (6, n.u), (7, i64 n.kids.length), (8, i64 a.i)]) (fun a => hp h a.bs)
      (fun a => a.i ≤ n.kids.length) (fun a => n.kids.length - a.i)
      ⟨0, _⟩ (Nat.zero_le _) (by exact ⟨rfl, rfl, congrArg (fun z : Nat => some (i64 (z : Int))) hkm, rfl, trivial⟩) rfl ?_
    rintro ⟨i, bs⟩ hi
    simp only at hi ⊢
    repeat' (first
        | refine W.seq ?_ | refine W.region ?_ | refine WS.nil ?_ | refine W.skip ?_ | refine W.block ?_ | refine W.exit ?_ | refine W.fork rfl (fun _ => ?_) (fun _ => ?_) | refine WS.near rfl o_lss rfl ?_ | fail)
    · have hlt : i < n.kids.length := by omega
      refine WS.near rfl (o_iaddrZ i hn.ku rfl (fz_at (d := default) i hlt) rfl) rfl ?_
      have hmem : n.kids.getD i default ∈ n.kids := getD_mem hlt
      have hd2 := ND.deeps_mem hmem
      have ih := depth_pu m (n.kids.getD i default) (by omega) (hn.kid hlt) (by omega)
      have hs : ND.deeps (n.kids.take (i + 1)) = max (ND.deeps (n.kids.take i)) (n.kids.getD i default).deep := by
        rw [List.take_add_one, List.getElem?_eq_getElem hlt]
        simp only [Option.toList_some, deeps_snoc]
        simp [List.getD, List.getElem?_eq_getElem hlt]
      generalize n.kids.getD i default = y at ih hs ⊢
      repeat' (first
          | refine WS.near rfl (o_loadA rfl) rfl ?_ | refine WS.near rfl o_allocS rfl ?_ | refine WS.near rfl (o_storeH hf bget_badd rfl) rfl ?_ | refine WS.near rfl (o_loadHN (bget_bput bget_badd) rfl) rfl ?_ | refine WS.puF hf rfl rfl ih ?_ | refine WS.near rfl o_max rfl ?_ | refine W.region ?_ | refine WS.nil ?_ | refine WS.near rfl (o_add (by omega) (by omega)) rfl ?_ | fail)
      have e1 : (i : Int) + 1 = ((i + 1 : Nat) : Int) := by omega
      have e2 : max ((ND.deeps (n.kids.take i) : Nat) : Int) ((y.deep : Nat) : Int) = ((ND.deeps (n.kids.take (i + 1)) : Nat) : Int) := by rw [hs]; omega
      exact ⟨⟨i + 1, _⟩, by show i + 1 ≤ n.kids.length; omega, by show n.kids.length - (i + 1) < n.kids.length - i; omega, ⟨congrArg (fun z => some (V.int .i64 z)) e2, rfl, rfl, congrArg (fun z => some (V.int .i64 z)) e1, trivial⟩, rfl⟩
    · have hil : i = n.kids.length := by omega
      subst hil
      rw [List.take_length]
      repeat' (first
          | refine WS.nil ?_ | refine W.ret ?_ | refine WS.near rfl (o_add (by omega) (by omega)) rfl ?_ | fail)
      exact ⟨_, rfl, fin_int (by omega)⟩
end Go.Proofs.YtfbikhkmamdjmaaDoor.CodesK
