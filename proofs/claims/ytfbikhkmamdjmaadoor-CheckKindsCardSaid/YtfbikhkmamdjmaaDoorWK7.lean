/- The kinds of expressions: by the program. -/
import Derived.Test.YtfbikhkmamdjmaaDoorWK6
namespace Go.Proofs.YtfbikhkmamdjmaaDoor.CodesK
open Go Go.Ab
set_option maxHeartbeats 4000000
set_option maxRecDepth 100000

def kgo (g : EX → Int × Int) : List EX → List Int → Int ⊕ List Int
  | [], acc => .inr acc
  | y :: r, acc => if (g y).2 ≠ 0 then .inl (g y).2 else kgo g r (acc ++ [(g y).1])
theorem kgo_at {g : EX → Int × Int} {l : List EX} {i : Nat} (hi : i < l.length) (acc : List Int) : kgo g (l.drop i) acc = if (g (l.getD i default)).2 ≠ 0 then .inl (g (l.getD i default)).2 else kgo g (l.drop (i + 1)) (acc ++ [(g (l.getD i default)).1]) := by
  rw [List.drop_eq_getElem_cons hi]
  simp [kgo, List.getD, List.getElem?_eq_getElem hi]
def endF (k : Int) : Int ⊕ List Int → Int × Int
  | .inl e => (0, e)
  | .inr of => if (jn k (of.getD 0 0) (of.getD 1 0)).2 = true then ((jn k (of.getD 0 0) (of.getD 1 0)).1, 0) else (0, 7)
def kindF (l : List KY) : Nat → EX → Int × Int
  | 0, _ => (0, 0)
  | m + 1, x => if x.kids.length = 0 then plainF x l else endF x.k (kgo (kindF l m) x.kids [])
def InK (z : Int) : Prop := 0 ≤ z ∧ z ≤ 4
theorem zero_in : InK 0 := ⟨Int.le_refl _, by decide⟩
theorem jn_in {k a b : Int} (ha : InK a) : InK (jn k a b).1 := by
  unfold jn InK at *
  repeat' split
  all_goals (simp only; omega)
theorem plain_in {x : EX} {l : List KY} (hl : ∀ k ∈ l, InK k.kind) : InK (plainF x l).1 := by
  unfold plainF
  repeat' split
  all_goals try (unfold InK; simp only; omega)
  rename_i h
  have h1 := firstK_lt x.name l 0
  exact hl _ (getD_mem (by omega))
theorem kgo_in {g : EX → Int × Int} : ∀ {l : List EX} {acc of : List Int}, (∀ y ∈ l, InK (g y).1) → (∀ z ∈ acc, InK z) → kgo g l acc = .inr of → ∀ z ∈ of, InK z
  | [], acc, of, _, h2, h3 => by cases h3; exact h2
  | y :: r, acc, of, h1, h2, h3 => by
    unfold kgo at h3
    split at h3
    · cases h3
    · exact kgo_in (fun q hq => h1 q (List.mem_cons_of_mem _ hq)) (fun z hz => by
        rcases List.mem_append.1 hz with hz | hz
        · exact h2 z hz
        · rw [List.mem_singleton] at hz; subst hz; exact h1 y List.mem_cons_self) h3
theorem end_in {k : Int} {r : Int ⊕ List Int} (h : ∀ of, r = .inr of → ∀ z ∈ of, InK z) : InK (endF k r).1 := by
  cases r with
  | inl e => exact zero_in
  | inr of =>
    have h1 := h of rfl
    have h2 : InK (of.getD 0 0) := by
      cases of with
      | nil => exact zero_in
      | cons a r => exact h1 a (by simp)
    show InK (if (jn k (of.getD 0 0) (of.getD 1 0)).2 = true then ((jn k (of.getD 0 0) (of.getD 1 0)).1, (0 : Int)) else (0, 7)).1
    split
    · exact jn_in h2
    · exact zero_in
theorem kind_in {l : List KY} (hl : ∀ k ∈ l, InK k.kind) : ∀ (m : Nat) (x : EX), InK (kindF l m x).1
  | 0, x => zero_in
  | m + 1, x => by
    unfold kindF
    split
    · exact plain_in hl
    · exact end_in fun of h => kgo_in (fun y _ => kind_in hl m y) (fun z hz => by cases hz) h
open Classical in
theorem right_inv {m : Nat} {x : EX} (h : rightF (m + 1) x = true) : okN x ∧ ∀ i, i < x.kids.length → rightF m (x.kids.getD i default) = true := by
  rw [rightF_succ, Bool.and_eq_true, decide_eq_true_eq, List.all_eq_true] at h
  exact ⟨h.1, fun i hi => h.2 _ (getD_mem hi)⟩
structure KL where
  i : Nat
  v : V
  bs : List (Option (List V))
  acc : List Int
theorem kind_pu (u : V) (l : List KY) (hu : IsFz u (l.map KY.v)) (hl : l.length ≤ 30) (hk : ∀ k ∈ l, InK k.kind) : ∀ (m : Nat) (x : EX), x.Ok → rightF m x = true → PuF D2 38 [x.v, u] (.tup [i64 (kindF l m x).1, i64 (kindF l m x).2])
  | 0, x, _, h => by simp [rightF] at h
  | m + 1, x, hx, hr => by
    have hkm : (x.kids.map EX.v).length = x.kids.length := List.length_map ..
    obtain ⟨hok, hkr⟩ := right_inv hr
    have har := hok.ar
    have har2 := arity_le x.k
    have hsm : x.kids.length ≤ 2 := by omega
    refine PuF.tidy rfl rfl rfl rfl rfl fun h hf => ?_
    repeat' (first
        | refine WS.near rfl (o_lenZ hx.fz) rfl ?_ | refine WS.puF hf rfl rfl (plain2 x hx u l hu hl) ?_ | refine W.seq ?_ | refine W.region ?_ | refine WS.nil ?_ | refine W.skip ?_ | refine W.block ?_ | refine W.ret ?_ | refine W.exit ?_ | refine W.yes rfl rfl ?_ | refine W.no rfl rfl ?_ | refine W.fork rfl (fun _ => ?_) (fun _ => ?_) | refine WS.near rfl o_mov rfl ?_ | refine WS.near rfl o_notT rfl ?_ | refine WS.near rfl o_notF rfl ?_ | refine WS.near rfl o_lss rfl ?_ | refine WS.near rfl o_eql rfl ?_ | refine WS.near rfl o_neq rfl ?_ | refine WS.near rfl o_faddr rfl ?_ | refine WS.near rfl (o_extract rfl) rfl ?_ | refine WS.near rfl (o_loadH rfl) rfl ?_ | refine WS.near rfl (o_loadHN rfl rfl) rfl ?_ | refine WS.near rfl (o_boxH 0 rfl) rfl ?_ | refine WS.near rfl (o_add (by omega) (by omega)) rfl ?_ | fail)
    · rename_i h0
      have h1 : x.kids.length = 0 := by omega
      exact ⟨_, rfl, fin_tup2 (by rw [kindF, if_pos h1]) (by rw [kindF, if_pos h1])⟩
    rename_i h0
    have h1 : ¬ x.kids.length = 0 := by omega
    have e0 : kindF l (m + 1) x = endF x.k (kgo (kindF l m) x.kids []) := by rw [kindF, if_neg h1]
    refine W.loop (fun a : KL => [(1, u), (2, .mptr (h.next + 0) 0), (5, a.v), (20, x.u), (21, i64 x.kids.length), (22, i64 a.i)]) (fun a => hp h a.bs)
      (fun a => a.i ≤ x.kids.length ∧ kgo (kindF l m) x.kids [] = kgo (kindF l m) (x.kids.drop a.i) a.acc ∧ IsSl h a.bs 1 a.v a.i (a.acc.map i64) ∧ bget a.bs 0 = some x.cells ∧ (∀ b c d e, a.v ≠ .msl (h.next + 0) b c d e) ∧ 0 < a.bs.length ∧ ∀ z ∈ a.acc, InK z) (fun a => x.kids.length - a.i)
      ⟨0, .nilsl, [some x.cells], []⟩ ⟨Nat.zero_le _, rfl, IsSl.nil, rfl, fun _ _ _ _ h => (by cases h), Nat.one_pos, fun z hz => by cases hz⟩ (by exact ⟨rfl, rfl, rfl, rfl, congrArg (fun z : Nat => some (i64 (z : Int))) hkm, rfl, trivial⟩) rfl ?_
    rintro ⟨i, v, bs, acc⟩ ⟨hi, hs, hsl, hb0, hv0, hbs, hac⟩
    simp only at hi hs hsl hb0 hv0 hbs hac ⊢
    repeat' (first
        | refine W.seq ?_ | refine W.region ?_ | refine WS.nil ?_ | refine W.skip ?_ | refine W.block ?_ | refine W.ret ?_ | refine W.exit ?_ | refine W.yes rfl rfl ?_ | refine W.no rfl rfl ?_ | refine W.fork rfl (fun _ => ?_) (fun _ => ?_) | refine WS.near rfl o_mov rfl ?_ | refine WS.near rfl o_notT rfl ?_ | refine WS.near rfl o_notF rfl ?_ | refine WS.near rfl o_lss rfl ?_ | refine WS.near rfl o_eql rfl ?_ | refine WS.near rfl o_neq rfl ?_ | refine WS.near rfl o_faddr rfl ?_ | refine WS.near rfl (o_extract rfl) rfl ?_ | refine WS.near rfl (o_loadH rfl) rfl ?_ | refine WS.near rfl (o_loadHN rfl rfl) rfl ?_ | refine WS.near rfl (o_boxH 0 rfl) rfl ?_ | refine WS.near rfl (o_add (by omega) (by omega)) rfl ?_ | fail)
    · have hlt : i < x.kids.length := by omega
      rw [kgo_at hlt] at hs
      have hy := hx.kid hlt
      have hyr := hkr i hlt
      refine WS.near rfl (o_iaddrZ i hx.fz rfl (fz_at (d := default) i hlt) rfl) rfl ?_
      generalize x.kids.getD i default = y at hs hy hyr ⊢
      have ih := kind_pu u l hu hl hk m y hy hyr
      have hyk := kind_in hk m y
      have e1 : (i : Int) + 1 = ((i + 1 : Nat) : Int) := by omega
      repeat' (first
          | refine WS.near rfl (o_loadA rfl) rfl ?_ | refine WS.near rfl o_allocS rfl ?_ | refine WS.near rfl (o_storeH hf bget_badd rfl) rfl ?_ | refine WS.near rfl (o_loadHN (bget_bput bget_badd) rfl) rfl ?_ | refine WS.puF hf rfl rfl ih ?_ | refine W.seq ?_ | refine W.region ?_ | refine WS.nil ?_ | refine W.skip ?_ | refine W.block ?_ | refine W.ret ?_ | refine W.exit ?_ | refine W.yes rfl rfl ?_ | refine W.no rfl rfl ?_ | refine W.fork rfl (fun _ => ?_) (fun _ => ?_) | refine WS.near rfl o_mov rfl ?_ | refine WS.near rfl o_notT rfl ?_ | refine WS.near rfl o_notF rfl ?_ | refine WS.near rfl o_lss rfl ?_ | refine WS.near rfl o_eql rfl ?_ | refine WS.near rfl o_neq rfl ?_ | refine WS.near rfl o_faddr rfl ?_ | refine WS.near rfl (o_extract rfl) rfl ?_ | refine WS.near rfl (o_loadH rfl) rfl ?_ | refine WS.near rfl (o_loadHN rfl rfl) rfl ?_ | refine WS.near rfl (o_boxH 0 rfl) rfl ?_
          | refine WS.near rfl (o_add (by omega) (by omega)) rfl ?_ | fail)
      · rename_i hne
        exact ⟨_, rfl, fin_tup2 (by rw [e0, hs, if_pos hne]; rfl) (by rw [e0, hs, if_pos hne]; rfl)⟩
      · rename_i hne
        rw [if_neg hne] at hs
        obtain ⟨bs1, hbs1⟩ : ∃ q, q = bput (badd bs [V.int .i64 0, V.int .i64 0, V.str [], V.nilsl]) bs.length 0 4 (V.agg y.v.cells).cells := ⟨_, rfl⟩
        have hk1 : ∀ j c, bget bs j = some c → bget bs1 j = some c := by
          intro j c e
          rw [hbs1, bget_bput_ne (by have := bget_lt e; omega)]
          exact bget_badd_lt e
        have hl1 : bs1.length = bs.length + 1 := by rw [hbs1, bput_len, badd_len]
        rw [← hbs1]
        clear hbs1
        refine WS.near rfl (o_litS rfl) rfl ?_
        obtain ⟨v', bs', hd, hsl', hkeep, hown, hle⟩ := app_all hf (IsSl.badd (c := [i64 (kindF l m y).1]) (hsl.keep hk1)) bget_badd (c := [i64 (kindF l m y).1]) rfl Nat.one_pos (bytes := 8) (by unfold maxRow; omega)
        refine WS.near rfl hd rfl ?_
        rw [badd_len] at hown hle
        have hb0' := hkeep 0 _ (bget_badd_lt (hk1 0 _ hb0)) (fun a b d e => hv0 a b d e)
        repeat' (first
            | refine W.seq ?_ | refine W.region ?_ | refine WS.nil ?_ | refine W.skip ?_ | refine W.block ?_ | refine W.ret ?_ | refine W.exit ?_ | refine W.yes rfl rfl ?_ | refine W.no rfl rfl ?_ | refine W.fork rfl (fun _ => ?_) (fun _ => ?_) | refine WS.near rfl o_mov rfl ?_ | refine WS.near rfl o_notT rfl ?_ | refine WS.near rfl o_notF rfl ?_ | refine WS.near rfl o_lss rfl ?_ | refine WS.near rfl o_eql rfl ?_ | refine WS.near rfl o_neq rfl ?_ | refine WS.near rfl o_faddr rfl ?_ | refine WS.near rfl (o_extract rfl) rfl ?_ | refine WS.near rfl (o_loadH rfl) rfl ?_ | refine WS.near rfl (o_loadHN rfl rfl) rfl ?_ | refine WS.near rfl (o_boxH 0 rfl) rfl ?_ | refine WS.near rfl (o_add (by omega) (by omega)) rfl ?_ | fail)
        refine ⟨⟨i + 1, v', bs', acc ++ [(kindF l m y).1]⟩, ⟨by show i + 1 ≤ x.kids.length; omega, hs, by rw [List.map_append]; exact hsl', hb0', fun b c d e h9 => ?_, by show 0 < bs'.length; omega, fun z hz => ?_⟩, by show x.kids.length - (i + 1) < x.kids.length - i; omega, ⟨rfl, rfl, rfl, rfl, rfl, congrArg (fun z => some (V.int .i64 z)) e1, trivial⟩, rfl⟩
        · rcases hown 0 _ _ _ _ h9 with ⟨a1, a2, a3, a4, h10⟩ | h10
          · exact hv0 _ _ _ _ h10
          · omega
        · rcases List.mem_append.1 hz with hz | hz
          · exact hac z hz
          · rw [List.mem_singleton] at hz; subst hz; exact hyk
    · have hge : x.kids.drop i = [] := List.drop_eq_nil_of_le (by omega)
      rw [hge] at hs
      have hlen : acc.length = i := by have := hsl.1; simpa using this
      have hv : ∀ k, Go.Ab.freeze (hp h bs) 0 (k + 9 + 1) v = some (.fsl (acc.map i64) none) := fun k => frz_ints hsl (by omega) (by omega)
      have key : ∀ f, freezes (hp h bs) 0 (f + 20) [i64 x.k, v] = some [i64 x.k, .fsl (acc.map i64) none] := fun f => by
        simp only [frzs_cons, frzs_nil, i64, frz_int, hv, Option.bind_some, Option.map_some]
      have hjw := joined_w x.k acc (by omega) (by omega) hac
      unfold jnV at hjw
      have e3 : kindF l (m + 1) x = if (jn x.k (acc.getD 0 0) (acc.getD 1 0)).2 = true then ((jn x.k (acc.getD 0 0) (acc.getD 1 0)).1, 0) else (0, 7) := by rw [e0, hs]; rfl
      cases hj : (jn x.k (acc.getD 0 0) (acc.getD 1 0)).2 with
      | true =>
        rw [hj] at hjw
        rw [if_pos hj] at e3
        repeat' (first
            | refine WS.near rfl (o_loadH (hload_of hb0 rfl)) rfl ?_ | refine WS.plain (p := [i64 x.k, .fsl (acc.map i64) none]) rfl rfl rfl (key 99980) rfl hjw ?_ | refine W.seq ?_ | refine W.region ?_ | refine WS.nil ?_ | refine W.skip ?_ | refine W.block ?_ | refine W.ret ?_ | refine W.exit ?_ | refine W.yes rfl rfl ?_ | refine W.no rfl rfl ?_ | refine W.fork rfl (fun _ => ?_) (fun _ => ?_) | refine WS.near rfl o_mov rfl ?_ | refine WS.near rfl o_notT rfl ?_ | refine WS.near rfl o_notF rfl ?_ | refine WS.near rfl o_lss rfl ?_ | refine WS.near rfl o_eql rfl ?_ | refine WS.near rfl o_neq rfl ?_ | refine WS.near rfl o_faddr rfl ?_ | refine WS.near rfl (o_extract rfl) rfl ?_ | refine WS.near rfl (o_loadH rfl) rfl ?_ | refine WS.near rfl (o_loadHN rfl rfl) rfl ?_ | refine WS.near rfl (o_boxH 0 rfl) rfl ?_ | refine WS.near rfl (o_add (by omega) (by omega)) rfl ?_ | fail)
        exact ⟨_, rfl, fin_tup2 (by rw [e3]) (by rw [e3])⟩
      | false =>
        rw [hj] at hjw
        rw [if_neg (by rw [hj]; decide)] at e3
        repeat' (first
            | refine WS.near rfl (o_loadH (hload_of hb0 rfl)) rfl ?_ | refine WS.plain (p := [i64 x.k, .fsl (acc.map i64) none]) rfl rfl rfl (key 99980) rfl hjw ?_ | refine W.seq ?_ | refine W.region ?_ | refine WS.nil ?_ | refine W.skip ?_ | refine W.block ?_ | refine W.ret ?_ | refine W.exit ?_ | refine W.yes rfl rfl ?_ | refine W.no rfl rfl ?_ | refine W.fork rfl (fun _ => ?_) (fun _ => ?_) | refine WS.near rfl o_mov rfl ?_ | refine WS.near rfl o_notT rfl ?_ | refine WS.near rfl o_notF rfl ?_ | refine WS.near rfl o_lss rfl ?_ | refine WS.near rfl o_eql rfl ?_ | refine WS.near rfl o_neq rfl ?_ | refine WS.near rfl o_faddr rfl ?_ | refine WS.near rfl (o_extract rfl) rfl ?_ | refine WS.near rfl (o_loadH rfl) rfl ?_ | refine WS.near rfl (o_loadHN rfl rfl) rfl ?_ | refine WS.near rfl (o_boxH 0 rfl) rfl ?_ | refine WS.near rfl (o_add (by omega) (by omega)) rfl ?_ | fail)
        exact ⟨_, rfl, fin_tup2 (by rw [e3]) (by rw [e3])⟩
theorem Kind_pu (u : V) (l : List KY) (hu : IsFz u (l.map KY.v)) (hl : l.length ≤ 30) (hk : ∀ k ∈ l, InK k.kind) (x : EX) (hx : x.Ok) : PuF D2 12 [x.v, u] (match rightF 40 x with
    | true => .tup [i64 (kindF l 40 x).1, i64 (kindF l 40 x).2]
    | false => .tup [i64 0, i64 1]) := by
  cases hr : rightF 40 x with
  | true =>
    have h1 := right2 x hx
    rw [hr] at h1
    refine PuF.tidy rfl rfl rfl rfl rfl fun h hf => ?_
    repeat' (first
        | refine WS.near rfl (o_loadHN rfl rfl) rfl ?_ | refine WS.puF hf rfl rfl h1 ?_ | refine WS.puF hf rfl rfl (kind_pu u l hu hl hk 40 x hx hr) ?_ | refine W.seq ?_ | refine W.region ?_ | refine WS.nil ?_ | refine W.skip ?_ | refine W.block ?_ | refine W.ret ?_ | refine W.exit ?_ | refine W.yes rfl rfl ?_ | refine W.no rfl rfl ?_ | refine W.fork rfl (fun _ => ?_) (fun _ => ?_) | refine WS.near rfl o_mov rfl ?_ | refine WS.near rfl o_notT rfl ?_ | refine WS.near rfl o_notF rfl ?_ | refine WS.near rfl o_lss rfl ?_ | refine WS.near rfl o_eql rfl ?_ | refine WS.near rfl o_neq rfl ?_ | refine WS.near rfl o_faddr rfl ?_ | refine WS.near rfl (o_extract rfl) rfl ?_ | refine WS.near rfl (o_loadH rfl) rfl ?_ | refine WS.near rfl (o_loadHN rfl rfl) rfl ?_ | refine WS.near rfl (o_boxH 0 rfl) rfl ?_ | refine WS.near rfl (o_add (by omega) (by omega)) rfl ?_ | fail)
    exact ⟨_, rfl, fin_tup2 rfl rfl⟩
  | false =>
    have h1 := right2 x hx
    rw [hr] at h1
    refine PuF.tidy rfl rfl rfl rfl rfl fun h hf => ?_
    repeat' (first
        | refine WS.near rfl (o_loadHN rfl rfl) rfl ?_ | refine WS.puF hf rfl rfl h1 ?_ | refine W.seq ?_ | refine W.region ?_ | refine WS.nil ?_ | refine W.skip ?_ | refine W.block ?_ | refine W.ret ?_ | refine W.exit ?_ | refine W.yes rfl rfl ?_ | refine W.no rfl rfl ?_ | refine W.fork rfl (fun _ => ?_) (fun _ => ?_) | refine WS.near rfl o_mov rfl ?_ | refine WS.near rfl o_notT rfl ?_ | refine WS.near rfl o_notF rfl ?_ | refine WS.near rfl o_lss rfl ?_ | refine WS.near rfl o_eql rfl ?_ | refine WS.near rfl o_neq rfl ?_ | refine WS.near rfl o_faddr rfl ?_ | refine WS.near rfl (o_extract rfl) rfl ?_ | refine WS.near rfl (o_loadH rfl) rfl ?_ | refine WS.near rfl (o_loadHN rfl rfl) rfl ?_ | refine WS.near rfl (o_boxH 0 rfl) rfl ?_ | refine WS.near rfl (o_add (by omega) (by omega)) rfl ?_ | fail)
    exact ⟨_, rfl, fin_tup2 rfl rfl⟩
end Go.Proofs.YtfbikhkmamdjmaaDoor.CodesK
