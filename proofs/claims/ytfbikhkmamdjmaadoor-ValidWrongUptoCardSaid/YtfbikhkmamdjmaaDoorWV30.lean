/- Laws about trees: what is known one layer up. -/
import Derived.Test.YtfbikhkmamdjmaaDoorWV19
import Derived.Test.YtfbikhkmamdjmaaDoorWV8
namespace Go.Proofs.YtfbikhkmamdjmaaDoor.CodesK
open Go Go.Ab
set_option maxHeartbeats 3200000
set_option maxRecDepth 100000

def pl2 (f : Nat) : Bool := Nat.beq f 15 || (Nat.beq f 16 || (Nat.beq f 17 || (Nat.beq f 19 || (Nat.beq f 20 || Nat.beq f 21))))
noncomputable def D2 : OCtx := layer D1 pl2 (fun _ => false)
theorem frz_fz {u : V} {rows : List V} (hu : IsFz u rows) {h : Heap} {n k : Nat} : Go.Ab.freeze h n (k + 1) u = some u := by
  rcases hu with ⟨rfl, _⟩ | ⟨rfl, _⟩ | ⟨c, rfl⟩ <;> rfl
theorem fine0 : Heap.empty.Fine := ⟨rfl, fun f m => by cases m⟩
theorem noMap0 : NoMap Heap.empty := fun b hb => by cases hb
theorem alive2 : PuF D2 15 [] (.bool true) := PuF.up rfl (fun _ => rfl) rfl alive_pu
theorem right_e (u : V) (l : List FL) (hu : IsFz u (l.map FL.v)) (hok : ∀ r ∈ l, r.Ok) (hl : l.length < 2 ^ 60) : CallW D1 16 [u] Heap.empty fun v _ => v = .bool (runF l) :=
  (right_pc u l hu hok hl Heap.empty fine0 noMap0).mono fun _ _ hc => hc.1
theorem refRight_e (u : V) (l : List FL) (hu : IsFz u (l.map FL.v)) (hok : ∀ r ∈ l, r.Ok) (hl : l.length < 2 ^ 24) : CallW D1 17 [u] Heap.empty fun v _ => v = .bool (runF l) :=
  (refRight_pu u l hu hok hl Heap.empty fine0).mono fun _ _ hc => hc.1
theorem fl_still {r : FL} (h : r.Ok) : ∀ u ∈ r.cells, V.still u = true := fun u hu => by
  simp only [FL.cells, List.mem_cons, List.not_mem_nil, or_false] at hu
  rcases hu with rfl | rfl | rfl | rfl | rfl | rfl | rfl | rfl | rfl | rfl | rfl <;> first | rfl | exact fz_still h.x.fz | exact fz_still h.w
theorem flats_cells : ∀ l : List FL, (l.map FL.v).flatMap V.cells = l.flatMap FL.cells
  | [] => rfl
  | r :: l => by simp only [List.map_cons, List.flatMap_cons, flats_cells l]; rfl
theorem fcl_len : ∀ l : List FL, (l.flatMap FL.cells).length = l.length * 11
  | [] => rfl
  | r :: l => by simp only [List.flatMap_cons, List.length_append, fcl_len l, List.length_cons]; show 11 + _ = _; omega
theorem o_same {b : Bool} {h : Heap} : Does (.binB false (.v (.bool b)) (.v (.bool b))) h (.bool true) h := by
  cases b <;> exact ⟨rfl⟩

/-! what grows -/
structure Grow (h0 : Heap) (bs bs' : List (Option (List V))) (v v' : V) : Prop where
  keep : ∀ i l, bget bs i = some l → (∀ a b d e, v ≠ .msl (h0.next + i) a b d e) → bget bs' i = some l
  own : ∀ i a b d e, v' = .msl (h0.next + i) a b d e → (∃ a' b' d' e', v = .msl (h0.next + i) a' b' d' e') ∨ bs.length ≤ i
  le : bs.length ≤ bs'.length
theorem Grow.trans {h0 : Heap} {b1 b2 b3 : List (Option (List V))} {v1 v2 v3 : V} (g : Grow h0 b1 b2 v1 v2) (g' : Grow h0 b2 b3 v2 v3) : Grow h0 b1 b3 v1 v3 := by
  refine ⟨fun i l e hv => g'.keep i l (g.keep i l e hv) fun a b d e2 hh => ?_, fun i a b d e hh => ?_, Nat.le_trans g.le g'.le⟩
  · rcases g.own i a b d e2 hh with ⟨a', b', d', e', h1⟩ | h1
    · exact hv _ _ _ _ h1
    · have := bget_lt e; omega
  · rcases g'.own i a b d e hh with ⟨a', b', d', e', h1⟩ | h1
    · exact g.own i _ _ _ _ h1
    · exact .inr (Nat.le_trans g.le h1)
theorem fls_snoc : ∀ (l : List ND) (x : ND) (at' : Nat) (par : Int), ND.fls at' par (l ++ [x]) = ND.fls at' par l ++ x.fl (at' + ND.cnts l) par
  | [], x, at', par => by simp [ND.fls, ND.cnts]
  | y :: r, x, at', par => by
    simp only [List.cons_append, ND.fls, ND.cnts, fls_snoc r x, List.append_assoc]
    rw [show at' + y.cnt + ND.cnts r = at' + (y.cnt + ND.cnts r) by omega]
theorem cnts_snoc : ∀ (l : List ND) (x : ND), ND.cnts (l ++ [x]) = ND.cnts l + x.cnt
  | [], x => by simp [ND.cnts]
  | y :: r, x => by simp only [List.cons_append, ND.cnts, cnts_snoc r x]; omega
theorem cnts_take (l : List ND) (i : Nat) : ND.cnts (l.take i) ≤ ND.cnts l := by
  induction l generalizing i with
  | nil => simp [ND.cnts]
  | cons x r ih =>
    cases i with
    | zero => exact Nat.zero_le _
    | succ i => have := ih i; simp only [List.take_succ_cons, ND.cnts]; omega
theorem take_snocN {l : List ND} {i : Nat} (h : i < l.length) : l.take (i + 1) = l.take i ++ [l.getD i default] := by
  rw [List.take_add_one, List.getElem?_eq_getElem h]
  simp [List.getD, List.getElem?_eq_getElem h]
/-- a node's row, whose end is not known yet -/
def row0 (n : ND) (par : Int) : List V := [i64 n.k, i64 n.a, i64 n.b, i64 0, i64 par, .str n.s, i64 n.x.k, i64 n.x.n, .str n.x.name, n.x.u, n.w]
theorem o_boxS {h0 : Heap} {bs : List (Option (List V))} {x : V} : Does (.box (.v x)) (hp h0 bs) (.mptr (h0.next + bs.length) 0) (hp h0 (badd bs x.cells)) := ⟨by rw [← hp_new]; rfl⟩
structure FS where
  i : Nat
  v : V
  bs : List (Option (List V))

theorem flat_w : ∀ (f : Nat) (n : ND), n.cnt ≤ f → n.Ok → ∀ (h : Heap), h.Fine → ∀ (bs : List (Option (List V))) (v : V) (k : Nat) (row : List V) (par : Int), IsSl h bs 11 v k row → k + n.cnt < 2 ^ 30 →
    CallW D2 43 [v, n.v, i64 par] (hp h bs) fun u h' => ∃ bs', h' = hp h bs' ∧ IsSl h bs' 11 u (k + n.cnt) (row ++ (n.fl k par).flatMap FL.cells) ∧ Grow h bs bs' v u
  | 0, n, hc, _, _, _, _, _, _, _, _, _, _ => by have := n.cnt_pos; omega
  | f + 1, n, hc, hn, h, hf, bs, v, k, row, par, hsl, hk => by
    have hkm : (n.kids.map ND.v).length = n.kids.length := List.length_map ..
    have hlk : ∀ h0 : Heap, Does (.len 1 (.v n.u)) h0 (.int .i64 (n.kids.length : Nat)) h0 := fun h0 => by have := o_lenZ (h0 := h0) hn.ku; rwa [hkm] at this
    have hlen : ∀ (v : V) (bs : List (Option (List V))) (k : Nat) (row : List V), IsSl h bs 11 v k row → ∀ H : Heap, Does (.len 1 (.v v)) H (.int .i64 (k : Nat)) H := fun v bs k row hs H => by
      obtain ⟨_, ⟨rfl, rfl⟩ | ⟨j, c, rfl, _⟩⟩ := hs
      · exact o_lenN
      · exact o_lenM
    have hce := n.cnt_eq
    have hkl := hn.len
    refine CallW.open rfl rfl rfl rfl rfl ?_
    have hwc := fz_cells hn.wu
    have hxc := fz_cells hn.ex.fz
    repeat' (first
        | refine WS.near rfl o_boxS rfl ?_ | refine WS.near rfl (hlen _ _ _ _ hsl _) rfl ?_ | refine WS.near rfl (o_loadH (hload_of bget_badd rfl)) rfl ?_ | refine WS.near rfl (o_loadHN bget_badd rfl) rfl ?_ | refine WS.near rfl (o_build (cs := row0 n par) (by simp only [List.map_cons, List.map_nil, fill, vev, hwc]; rfl)) rfl ?_ | refine WS.near rfl (o_litS (cs := row0 n par) rfl) rfl ?_ | refine W.seq ?_ | refine W.region ?_ | refine WS.nil ?_ | refine WS.near rfl o_mov rfl ?_ | refine WS.near rfl o_faddr rfl ?_ | fail)
    obtain ⟨v1, bs1, hd1, hsl1, hkeep1, hown1, hle1⟩ := app_all hf (IsSl.badd (c := row0 n par) (IsSl.badd (c := n.cells) hsl)) bget_badd (c := row0 n par) rfl (by decide) (bytes := 136) (by show (k + 1) * 136 ≤ 140737488355328; omega)
    refine WS.near rfl hd1 rfl ?_
    rw [badd_len, badd_len] at hown1 hle1
    have hvb : ∀ a b d e, v ≠ .msl (h.next + bs.length) a b d e := fun a b d e hh => by
      obtain ⟨_, ⟨h1, _⟩ | ⟨j, c, h1, h2, _⟩⟩ := hsl
      · rw [h1] at hh; cases hh
      · rw [h1] at hh
        simp only [V.msl.injEq] at hh
        have := bget_lt h2
        omega
    have hb1 : bget bs1 bs.length = some n.cells := hkeep1 _ _ (bget_badd_lt bget_badd) hvb
    have hg1 : Grow h bs bs1 v v1 := ⟨fun i l e hh => hkeep1 i l (bget_badd_lt (bget_badd_lt e)) hh, fun i a b d e hh => (hown1 i a b d e hh).imp id (fun hq => by omega), by omega⟩
    have hv1 : ∀ a b d e, v1 ≠ .msl (h.next + bs.length) a b d e := fun a b d e hh => by
      rcases hown1 _ _ _ _ _ hh with ⟨a', b', d', e', h1⟩ | h1
      · exact hvb _ _ _ _ h1
      · omega
    repeat' (first
        | refine W.seq ?_ | refine W.region ?_ | refine WS.nil ?_ | refine W.block ?_ | refine WS.near rfl o_mov rfl ?_ | fail)
    refine W.loop (fun a : FS => [(0, a.v), (2, i64 par), (3, .mptr (h.next + bs.length) 0), (5, i64 k), (6, i64 a.i)]) (fun a => hp h a.bs)
      (fun a => a.i ≤ n.kids.length ∧ IsSl h a.bs 11 a.v (k + 1 + ND.cnts (n.kids.take a.i)) (row ++ row0 n par ++ (ND.fls (k + 1) (k : Nat) (n.kids.take a.i)).flatMap FL.cells) ∧ Grow h bs a.bs v a.v ∧ bget a.bs bs.length = some n.cells ∧ ∀ a' b d e, a.v ≠ .msl (h.next + bs.length) a' b d e) (fun a => n.kids.length - a.i)
      ⟨0, v1, bs1⟩ ⟨Nat.zero_le _, by simpa [ND.fls, ND.cnts] using hsl1, hg1, hb1, hv1⟩ (by exact ⟨rfl, rfl, rfl, rfl, rfl, trivial⟩) rfl ?_
    rintro ⟨i, w, bs2⟩ ⟨hi, hs2, hg2, hb2, hv2⟩
    simp only at hi hs2 hg2 hb2 hv2 ⊢
    refine W.seq ?_
    refine W.seq ?_
    repeat' (first
        | refine WS.near rfl (o_loadH (hload_of hb2 rfl)) rfl ?_ | refine WS.near rfl (hlk _) rfl ?_ | refine W.region ?_ | refine WS.nil ?_ | refine W.skip ?_ | refine W.exit ?_ | refine W.fork rfl (fun _ => ?_) (fun _ => ?_) | refine WS.near rfl o_lss rfl ?_ | refine WS.near rfl o_faddr rfl ?_ | fail)
    refine W.seq ?_
    repeat' (first
        | refine W.region ?_ | refine W.block ?_ | refine WS.near rfl o_faddr rfl ?_ | fail)
    · have hlt : i < n.kids.length := by omega
      have hmem : n.kids.getD i default ∈ n.kids := getD_mem hlt
      have hct := cnts_take n.kids (i + 1)
      have htk := take_snocN hlt
      rw [htk, cnts_snoc] at hct
      have ih := flat_w f (n.kids.getD i default) (by have := ND.cnt_kid hmem; omega) (hn.kid hlt) h hf bs2 w (k + 1 + ND.cnts (n.kids.take i)) _ (k : Nat) hs2 (by omega)
      repeat' (first
          | refine WS.near rfl (o_loadH (hload_of hb2 rfl)) rfl ?_ | refine WS.near rfl (o_iaddrZ i hn.ku rfl (fz_at (d := default) i hlt) rfl) rfl ?_ | refine WS.near rfl (o_loadA rfl) rfl ?_ | fail)
      refine WS.call rfl rfl ih fun u h' hc => ?_
      obtain ⟨bs3, rfl, hs3, hg3⟩ := hc
      repeat' (first
          | refine W.region ?_ | refine WS.nil ?_ | refine WS.near rfl (o_add (by omega) (by omega)) rfl ?_ | fail)
      have e1 : (i : Int) + 1 = ((i + 1 : Nat) : Int) := by omega
      have hb3 := hg3.keep _ _ hb2 hv2
      refine ⟨⟨i + 1, u, bs3⟩, ⟨by show i + 1 ≤ n.kids.length; omega, ?_, hg2.trans hg3, hb3, fun a b d e hh => ?_⟩, by show n.kids.length - (i + 1) < n.kids.length - i; omega, ⟨rfl, rfl, rfl, rfl, congrArg (fun z => some (V.int .i64 z)) e1, trivial⟩, rfl⟩
      · show IsSl h bs3 11 u (k + 1 + ND.cnts (n.kids.take (i + 1))) (row ++ row0 n par ++ (ND.fls (k + 1) (k : Nat) (n.kids.take (i + 1))).flatMap FL.cells)
        rw [htk, cnts_snoc, fls_snoc, List.flatMap_append, ← List.append_assoc, ← Nat.add_assoc]
        exact hs3
      · rcases hg3.own _ _ _ _ _ hh with ⟨a', b', d', e', h1⟩ | h1
        · exact hv2 _ _ _ _ h1
        · have := bget_lt hb2; omega
    · have hil : i = n.kids.length := by omega
      subst hil
      rw [List.take_length] at hs2
      have hkn : k + 1 + ND.cnts n.kids = k + n.cnt := by omega
      rw [hkn] at hs2
      obtain ⟨hrl, ⟨_, h0⟩ | ⟨j, c, rfl, hj, hcl, hct⟩⟩ := hs2
      · omega
      repeat' (first
          | refine WS.near rfl (o_iaddrM (n := k) rfl (by omega)) rfl ?_ | refine WS.near rfl (o_storeR (n := 1) hf hj rfl (by omega)) rfl ?_ | refine W.seq ?_ | refine W.region ?_ | refine WS.nil ?_ | refine W.ret ?_ | refine WS.near rfl o_mov rfl ?_ | refine WS.near rfl o_lenM rfl ?_ | refine WS.near rfl o_faddr rfl ?_ | fail)
      refine ⟨_, rfl, _, rfl, ⟨?_, .inr ⟨j, _, rfl, bget_bput hj, ?_, ?_⟩⟩, ?_⟩
      · rw [List.length_append, fcl_len, n.fl_len, hsl.1, Nat.add_mul]
      · exact Nat.le_trans hcl (Nat.le_of_eq (splice_len (l := c) (off := (0 + k) * 11 + 3) (n := 1) (cs := (V.int IntKind.i64 ((k + n.cnt : Nat) : Int)).cells) rfl (by omega)).symm)
      · have hrow := hsl.1
        have hK := fcl_len (ND.fls (k + 1) (k : Nat) n.kids)
        rw [ND.fls_len] at hK
        have hc2 : c = row ++ (row0 n par ++ ((ND.fls (k + 1) (k : Nat) n.kids).flatMap FL.cells ++ c.drop ((k + n.cnt) * 11))) := by
          conv => lhs; rw [← List.take_append_drop ((k + n.cnt) * 11) c, hct]
          simp only [List.append_assoc]
        generalize c.drop ((k + n.cnt) * 11) = tl at hc2
        rw [n.fl_eq, List.flatMap_cons]
        generalize (ND.fls (k + 1) (k : Nat) n.kids).flatMap FL.cells = K at hK hc2
        rw [hc2]
        unfold splice
        rw [show (0 + k) * 11 + 3 = row.length + 3 by omega, List.take_length_add_append, show row.length + 3 + 1 = row.length + 4 by omega, List.drop_length_add_append, show (k + n.cnt) * 11 = row.length + (11 + K.length) by omega, List.append_assoc, List.append_assoc, List.take_length_add_append]
        congr 1
        show ((n.row k par).cells ++ (K ++ tl)).take (11 + K.length) = (n.row k par).cells ++ K
        rw [← List.append_assoc]
        exact List.take_left' (by rw [List.length_append]; rfl)
      · refine ⟨fun i l e hv => ?_, fun i a b d e hh => ?_, by rw [bput_len]; exact hg2.le⟩
        · have := bget_lt e
          have hij : i ≠ j := fun hh => by
            subst hh
            rcases hg2.own _ _ _ _ _ rfl with ⟨a', b', d', e', h1⟩ | h1
            · exact hv _ _ _ _ h1
            · omega
          rw [bget_bput_ne hij]
          exact hg2.keep i l e hv
        · exact hg2.own i a b d e hh
end Go.Proofs.YtfbikhkmamdjmaaDoor.CodesK
