/- GoapSteps: whatever the domain, the state and the act. -/
import Derived.Test.YtpaadclighadaaaDoorWGA9
namespace Go.Proofs.YtpaadclighadaaaDoor.CodesG
open Go Go.Ab Go.Goap
set_option maxHeartbeats 800000
set_option maxRecDepth 100000

/-- a call under a guard, behind which is looked again under a guard -/
theorem WS.callG {D : OCtx} {cap : Nat} {m : Kn} {h : Heap} {K : Kn → Heap → Prop} {t t' c : Nat} {b b' : Bool} {f : Nat} {xs xs' : List Opd} {d : Option Nat} {l : List Step} {o o' : AOp} {u v' : V} {h2 : Heap} (hg : m.get t = some (.bool b)) (e : gL (kop m) xs = some xs') (hx : dOk cap d = true)
    (he : CallW D f (xs'.map vev) h fun v h' => v = u ∧ h' = h) (hg' : (kput m d u).get t' = some (.bool b')) (ho : mapO (kop (kput m d u)) o = some o') (hd : Does o' h v' h2) (hc : (kput m d u).get c = some v') (w : WS D cap l (kput m d u) h K) :
    WS D cap (⟨d, .call f xs, some (t, b), [(c, some (t', b'), o)]⟩ :: l) m h K := fun fr hf => by
  have he' : CallW D f (xs.map (evT fr)) h fun v h' => v = u ∧ h' = h := by rw [hf.args e]; exact he
  obtain ⟨v, h', ⟨n1, e1⟩, rfl, rfl⟩ := he'
  have hput := hf.put hx v
  obtain ⟨st', ⟨n2, hn⟩, hk⟩ := w _ hput
  refine ⟨st', ⟨max n1 n2, ?_⟩, hk⟩
  show guardT (some (t, b)) ⟨fr, [], h'⟩ (mapK (evT fr) xs (fun a => outT d ⟨fr, [], h'⟩ (chkT [(c, some (t', b'), o)] (stepsT D (execT D (max n1 n2)) l)) (callT D (execT D (max n1 n2)) f a h'))) _ = _
  have hbb : (b == b) = true := by cases b <;> rfl
  simp only [guardT, (hf.kn t _ hg).2, hbb]
  rw [mapK_eq, callT_le (execT_le D (Nat.le_max_left n1 n2)) e1]
  show force v (fun v => chkT [(c, some (t', b'), o)] (stepsT D (execT D (max n1 n2)) l) (.mk (putT fr d v) [] h')) = _
  rw [force_eq]
  show Bool.rec (motive := fun _ => Option (Ex × StT)) none (stepsT D (execT D (max n1 n2)) l ⟨putT fr d v, [], h'⟩) (checksT (getT (putT fr d v)) (evT (putT fr d v)) h' [(c, some (t', b'), o)]) = _
  have hck : checksT (getT (putT fr d v)) (evT (putT fr d v)) h' [(c, some (t', b'), o)] = true := by
    have h3 : opF o (evT (putT fr d v)) h' = some (v', h2) := by rw [← hput.op h' ho, hd.eq]
    have hb' : (b' == b') = true := by cases b' <;> rfl
    simp only [checksT, wantedE, (hput.kn t' _ hg').2, hb', h3, (hput.kn c _ hc).2, beq_refl, Bool.true_and]
  rw [hck]
  exact stepsT_le (execT_le D (Nat.le_max_right n1 n2)) _ _ _ hn
/-- a copy of a list -/
theorem o_copyA {h : Heap} {bs : List (Option (List V))} {v : V} {l : List Int} (hb : IntsAt (hp h bs) v l) (hl : l.length ≤ 12) :
    ∃ v' bs', Does (.app 1 8 (.v .nilsl) (.v v)) (hp h bs) v' (hp h bs') ∧ IntsAt (hp h bs') v' l ∧ ∀ q c, bget bs q = some c → bget bs' q = some c := by
  have hr := hb.row
  have hn := hb.len
  by_cases h0 : l.length = 0
  · have : l = [] := List.length_eq_zero_iff.1 h0
    subst this
    refine ⟨.nilsl, bs, ⟨?_⟩, ⟨rfl, .inl rfl⟩, fun q c e => e⟩
    rw [op1v]
    simp only [op1, ev, append, hr, hn, List.length_nil, if_true]
  · refine ⟨.msl (h.next + bs.length) 1 0 l.length none, badd bs (intsV l), ⟨?_⟩, ⟨?_, .inr (.inr (.inr ⟨_, _, _, _, rfl, rfl⟩))⟩, fun q c e => bget_badd_lt e⟩
    · rw [op1v]
      have hm : l.length * 8 ≤ maxRow := by unfold maxRow; omega
      simp only [op1, ev, append, hr, hn, h0, if_false, hm, if_true]
      rw [← hp_new]
      rfl
    · rw [row_msl (n := l.length) bget_badd (by rw [ints_len]; omega), ← ints_len l, Nat.mul_one, List.take_length]
theorem ends_ints {h : Heap} {bs : List (Option (List V))} {o : Option (List Int)} {r : V} {h' : Heap} (e : Ends (hp h bs) o r h') : ∃ b2 u ok, h' = hp h (bs ++ b2) ∧ r = .tup [u, .bool ok] ∧ ok = o.isSome ∧ IntsAt (hp h (bs ++ b2)) u (o.getD []) ∧ ∀ b3, IntsAt (hp h ((bs ++ b2) ++ b3)) u (o.getD []) := by
  obtain ⟨b2, rfl, hr⟩ := e
  rw [hp_hp]
  cases o with
  | none =>
    simp only at hr
    exact ⟨b2, .nilsl, false, rfl, hr, rfl, ⟨rfl, .inl rfl⟩, fun b3 => ⟨rfl, .inl rfl⟩⟩
  | some L =>
    obtain ⟨u, hr, hm⟩ := hr
    have hm2 : Made h (bs ++ b2) u L := isl_new hm
    exact ⟨b2, u, true, rfl, hr, rfl, hm2.ints, fun b3 => (hm2.keep fun k c e => bget_old e).ints⟩

theorem state_len (d : DR) (l : List Int) (act : Int) : ((stateF d l act).getD []).length ≤ d.vars.length := by
  unfold stateF
  split
  · unfold afterF
    split
    · show (makesF d.vars (cutF d.vars l) _).length ≤ _
      rw [makes_len, cut_len]
      omega
    · exact Nat.zero_le _
  · exact Nat.zero_le _
structure DLit (d : DR) : Prop where
  vars : ∀ v ∈ d.vars, VarIn v
  makes : ∀ r ∈ d.acts, ∀ m ∈ r.a.make, In64 m.n
  goal : ∀ c ∈ d.goal, In64 c.n
theorem steps_pu (d : DR) (hd : DLit d) {v : V} {l : List Int} (hu : IsInts v l) (hli : ∀ i, In64 (l.getD i 0)) (act : Int) : PuF D1 3 [d.v, v, i64 act] (.bool true) := by
  have hvm : (d.vars.map varV).length = d.vars.length := List.length_map ..
  have ham : (d.acts.map AR.v).length = d.acts.length := List.length_map ..
  have hgm : (d.goal.map cdV).length = d.goal.length := List.length_map ..
  refine PuF.tidy rfl rfl rfl rfl rfl fun h hf => ?_
  repeat' (first
      | refine W.seq ?_ | refine W.region ?_ | refine WS.nil ?_ | refine W.skip ?_ | refine W.block ?_ | refine W.ret ?_ | refine W.exit ?_ | refine W.yes rfl rfl ?_ | refine W.fork rfl (fun _ => ?_) (fun _ => ?_) | refine WS.guardT rfl ?_ | refine WS.guardF rfl rfl rfl ?_ | refine WS.guardK rfl (fun _ => ?_) (fun _ => ?_) | refine WS.near rfl o_mov rfl ?_ | refine WS.near rfl o_pickT rfl ?_ | refine WS.near rfl o_pickF rfl ?_ | refine WS.near rfl o_notT rfl ?_ | refine WS.near rfl o_lss rfl ?_ | refine WS.near rfl o_gtr rfl ?_ | refine WS.near rfl o_eql rfl ?_ | refine WS.near rfl o_faddr rfl ?_ | refine WS.near rfl o_loadF rfl ?_ | refine WS.near rfl o_binB rfl ?_ | refine WS.near rfl (o_extract rfl) rfl ?_ | refine WS.near rfl (o_loadH rfl) rfl ?_ | refine WS.near rfl (o_loadHN rfl rfl) rfl ?_ | refine WS.near rfl (o_boxH 0 rfl) rfl ?_
      | refine WS.near rfl (o_add (by omega) (by omega)) rfl ?_ | refine WS.near rfl (o_faddrF (Nat.le_of_ble_eq_true rfl)) rfl ?_)
  refine WS.puF hf rfl rfl alive_pu ?_
  repeat' (first
      | refine WS.near rfl (o_lenZ d.hvs) rfl ?_ | refine WS.near rfl (o_lenZ d.has) rfl ?_ | refine WS.near rfl (o_lenZ d.hgl) rfl ?_ | refine WS.near rfl (o_lenA (ints_shut hu)) rfl ?_ | refine W.seq ?_ | refine W.region ?_ | refine WS.nil ?_ | refine W.skip ?_ | refine W.block ?_ | refine W.ret ?_ | refine W.exit ?_ | refine W.yes rfl rfl ?_ | refine W.fork rfl (fun _ => ?_) (fun _ => ?_) | refine WS.guardT rfl ?_ | refine WS.guardF rfl rfl rfl ?_ | refine WS.guardK rfl (fun _ => ?_) (fun _ => ?_) | refine WS.near rfl o_mov rfl ?_ | refine WS.near rfl o_pickT rfl ?_ | refine WS.near rfl o_pickF rfl ?_ | refine WS.near rfl o_notT rfl ?_ | refine WS.near rfl o_lss rfl ?_ | refine WS.near rfl o_gtr rfl ?_ | refine WS.near rfl o_eql rfl ?_ | refine WS.near rfl o_faddr rfl ?_ | refine WS.near rfl o_loadF rfl ?_ | refine WS.near rfl o_binB rfl ?_ | refine WS.near rfl (o_extract rfl) rfl ?_
      | refine WS.near rfl (o_loadH rfl) rfl ?_ | refine WS.near rfl (o_loadHN rfl rfl) rfl ?_ | refine WS.near rfl (o_boxH 0 rfl) rfl ?_ | refine WS.near rfl (o_add (by omega) (by omega)) rfl ?_ | refine WS.near rfl (o_faddrF (Nat.le_of_ble_eq_true rfl)) rfl ?_)
  all_goals first | exact ⟨_, rfl, fin_bool rfl⟩ | skip
  rename_i n1 n2 n3 n4
  refine W.loop (fun i : Nat => [(1, v), (2, i64 act), (3, .mptr (h.next + 0) 0), (6, .int .i64 (i : Nat))]) (fun _ => hp h [some d.cells])
    (fun i => i ≤ d.acts.length ∧ ∀ j, j < i → (d.acts.getD j default).a.need.length ≤ 10 ∧ (d.acts.getD j default).a.make.length ≤ 10) (fun i => d.acts.length - i)
    0 ⟨Nat.zero_le _, fun j hj => absurd hj (Nat.not_lt_zero _)⟩ ⟨rfl, rfl, rfl, rfl, trivial⟩ rfl ?_
  rintro i ⟨hi, hs⟩
  repeat' (first
      | refine WS.near rfl (o_lenZ d.has) rfl ?_ | refine W.seq ?_ | refine W.region ?_ | refine WS.nil ?_ | refine W.skip ?_ | refine W.block ?_ | refine W.ret ?_ | refine W.exit ?_ | refine W.yes rfl rfl ?_ | refine W.fork rfl (fun _ => ?_) (fun _ => ?_) | refine WS.guardT rfl ?_ | refine WS.guardF rfl rfl rfl ?_ | refine WS.guardK rfl (fun _ => ?_) (fun _ => ?_) | refine WS.near rfl o_mov rfl ?_ | refine WS.near rfl o_pickT rfl ?_ | refine WS.near rfl o_pickF rfl ?_ | refine WS.near rfl o_notT rfl ?_ | refine WS.near rfl o_lss rfl ?_ | refine WS.near rfl o_gtr rfl ?_ | refine WS.near rfl o_eql rfl ?_ | refine WS.near rfl o_faddr rfl ?_ | refine WS.near rfl o_loadF rfl ?_ | refine WS.near rfl o_binB rfl ?_ | refine WS.near rfl (o_extract rfl) rfl ?_ | refine WS.near rfl (o_loadH rfl) rfl ?_ | refine WS.near rfl (o_loadHN rfl rfl) rfl ?_ | refine WS.near rfl (o_boxH 0 rfl) rfl ?_
      | refine WS.near rfl (o_add (by omega) (by omega)) rfl ?_ | refine WS.near rfl (o_faddrF (Nat.le_of_ble_eq_true rfl)) rfl ?_)
  · have hlt : i < d.acts.length := by omega
    have hsi : ∀ x y, (d.acts.getD i default).a.need.length = x → (d.acts.getD i default).a.make.length = y → x ≤ 10 → y ≤ 10 → ∀ j, j < i + 1 → (d.acts.getD j default).a.need.length ≤ 10 ∧ (d.acts.getD j default).a.make.length ≤ 10 := fun x y hx hy h1 h2 j hj => by
      by_cases hji : j = i
      · subst hji; omega
      · exact hs j (by omega)
    have hat : ∀ {H : Heap}, Does (.iaddr 4 (.v d.acs) (.v (.int .i64 (i : Nat)))) H (.fptr (arC (d.acts.getD i default))) H := o_iaddrZ i d.has rfl (fz_at (d := default) i hlt) rfl
    generalize d.acts.getD i default = r at hsi hat
    have hnm : (r.a.need.map cdV).length = r.a.need.length := List.length_map ..
    have hmm : (r.a.make.map mkV).length = r.a.make.length := List.length_map ..
    have e1 : (i : Int) + 1 = ((i + 1 : Nat) : Int) := by omega
    repeat' (first
        | refine WS.near rfl hat rfl ?_ | refine WS.near rfl (o_lenZ r.hnd) rfl ?_ | refine WS.near rfl (o_lenZ r.hmk) rfl ?_ | refine W.seq ?_ | refine W.region ?_ | refine WS.nil ?_ | refine W.skip ?_ | refine W.block ?_ | refine W.ret ?_ | refine W.exit ?_ | refine W.yes rfl rfl ?_ | refine W.fork rfl (fun _ => ?_) (fun _ => ?_) | refine WS.guardT rfl ?_ | refine WS.guardF rfl rfl rfl ?_ | refine WS.guardK rfl (fun _ => ?_) (fun _ => ?_) | refine WS.near rfl o_mov rfl ?_ | refine WS.near rfl o_pickT rfl ?_ | refine WS.near rfl o_pickF rfl ?_ | refine WS.near rfl o_notT rfl ?_ | refine WS.near rfl o_lss rfl ?_ | refine WS.near rfl o_gtr rfl ?_ | refine WS.near rfl o_eql rfl ?_ | refine WS.near rfl o_faddr rfl ?_ | refine WS.near rfl o_loadF rfl ?_ | refine WS.near rfl o_binB rfl ?_ | refine WS.near rfl (o_extract rfl) rfl ?_ | refine WS.near rfl (o_loadH rfl) rfl ?_
        | refine WS.near rfl (o_loadHN rfl rfl) rfl ?_ | refine WS.near rfl (o_boxH 0 rfl) rfl ?_ | refine WS.near rfl (o_add (by omega) (by omega)) rfl ?_ | refine WS.near rfl (o_faddrF (Nat.le_of_ble_eq_true rfl)) rfl ?_)
    all_goals first | exact ⟨_, rfl, fin_bool rfl⟩ | skip
    exact ⟨i + 1, ⟨by omega, hsi _ _ rfl rfl (by omega) (by omega)⟩, by show d.acts.length - (i + 1) < d.acts.length - i; omega, ⟨rfl, rfl, rfl, congrArg (fun z => some (V.int .i64 z)) e1, trivial⟩, rfl⟩
  · have hin : i = d.acts.length := by omega
    have hall : ∀ r ∈ d.acts, r.a.need.length ≤ 10 ∧ r.a.make.length ≤ 10 := fun r hr => by
      obtain ⟨j, hj, e⟩ := List.mem_iff_getElem.1 hr
      have := hs j (by omega)
      simp only [List.getD, List.getElem?_eq_getElem hj, Option.getD_some, e] at this
      exact this
    have hD : DIn d := ⟨hd.vars, fun r hr => ⟨hd.makes r hr, by have := (hall r hr).2; omega⟩, by omega, by omega⟩
    have hN : NIn d := ⟨fun r hr => by have := (hall r hr).1; omega⟩
    have hb : IntsAt (hp h [some d.cells]) v l := ints_shut hu
    obtain ⟨v', bs1, hd1, hi1, hk1⟩ := o_copyA hb (by omega)
    have hb1 : bget bs1 0 = some d.cells := hk1 0 _ rfl
    have hsl : ((stateF d l act).getD []).length < 2 ^ 40 := by
      have := state_len d l act
      omega
    refine WS.nearC rfl hd1 rfl ⟨⟨_, _, _, rfl, o_loadHN hb1 rfl, rfl⟩, trivial⟩ ?_
    refine WS.call rfl rfl (After_w d hD hN hli act _ (hp_fine hf) hi1) fun r h' he => ?_
    obtain ⟨b2, u1, ok1, rfl, rfl, hok1, hu1, hu1k⟩ := ends_ints he
    have hb2 : bget (bs1 ++ b2) 0 = some d.cells := bget_old hb1
    repeat' (first
        | refine WS.near rfl (o_loadHN hb2 rfl) rfl ?_ | refine W.seq ?_ | refine W.region ?_ | refine WS.nil ?_ | refine W.skip ?_ | refine W.block ?_ | refine W.ret ?_ | refine W.exit ?_ | refine W.yes rfl rfl ?_ | refine W.fork rfl (fun _ => ?_) (fun _ => ?_) | refine WS.guardT rfl ?_ | refine WS.guardF rfl rfl rfl ?_ | refine WS.guardK rfl (fun _ => ?_) (fun _ => ?_) | refine WS.near rfl o_mov rfl ?_ | refine WS.near rfl o_pickT rfl ?_ | refine WS.near rfl o_pickF rfl ?_ | refine WS.near rfl o_notT rfl ?_ | refine WS.near rfl o_lss rfl ?_ | refine WS.near rfl o_gtr rfl ?_ | refine WS.near rfl o_eql rfl ?_ | refine WS.near rfl o_faddr rfl ?_ | refine WS.near rfl o_loadF rfl ?_ | refine WS.near rfl o_binB rfl ?_ | refine WS.near rfl (o_extract rfl) rfl ?_ | refine WS.near rfl (o_loadH rfl) rfl ?_ | refine WS.near rfl (o_loadHN rfl rfl) rfl ?_ | refine WS.near rfl (o_boxH 0 rfl) rfl ?_
        | refine WS.near rfl (o_add (by omega) (by omega)) rfl ?_ | refine WS.near rfl (o_faddrF (Nat.le_of_ble_eq_true rfl)) rfl ?_)
    refine WS.call rfl rfl (AfterR_w d hD hN hli act _ (hp_fine hf) (ints_shut hu)) fun r h' he => ?_
    obtain ⟨b3, u2, ok2, rfl, rfl, hok2, hu2, _⟩ := ends_ints he
    have hb3 : bget ((bs1 ++ b2) ++ b3) 0 = some d.cells := bget_old hb2
    have hu1 := hu1k b3
    generalize (bs1 ++ b2) ++ b3 = bs3 at hb3 hu1 hu2 ⊢
    subst hok1
    subst hok2
    have hsame := sameInts_pu (v := u1) (w := u2) (l := (stateF d l act).getD []) (m := (stateF d l act).getD []) hsl
    rw [decide_eq_true rfl] at hsame
    generalize (stateF d l act).isSome = ok at *
    cases ok with
    | true =>
      repeat' (first
          | refine W.seq ?_ | refine W.region ?_ | refine WS.nil ?_ | refine W.skip ?_ | refine W.block ?_ | refine W.ret ?_ | refine W.exit ?_ | refine W.yes rfl rfl ?_ | refine W.fork rfl (fun _ => ?_) (fun _ => ?_) | refine WS.guardT rfl ?_ | refine WS.guardF rfl rfl rfl ?_ | refine WS.guardK rfl (fun _ => ?_) (fun _ => ?_) | refine WS.near rfl o_mov rfl ?_ | refine WS.near rfl o_pickT rfl ?_ | refine WS.near rfl o_pickF rfl ?_ | refine WS.near rfl o_notT rfl ?_ | refine WS.near rfl o_lss rfl ?_ | refine WS.near rfl o_gtr rfl ?_ | refine WS.near rfl o_eql rfl ?_ | refine WS.near rfl o_faddr rfl ?_ | refine WS.near rfl o_loadF rfl ?_ | refine WS.near rfl o_binB rfl ?_ | refine WS.near rfl (o_extract rfl) rfl ?_ | refine WS.near rfl (o_loadH rfl) rfl ?_ | refine WS.near rfl (o_loadHN rfl rfl) rfl ?_ | refine WS.near rfl (o_boxH 0 rfl) rfl ?_
          | refine WS.near rfl (o_add (by omega) (by omega)) rfl ?_ | refine WS.near rfl (o_faddrF (Nat.le_of_ble_eq_true rfl)) rfl ?_)
      refine WS.puC hf ⟨hu1, hu2⟩ rfl rfl hsame ?_
      repeat' (first
          | refine WS.near rfl (o_loadHN hb3 rfl) rfl ?_ | refine W.seq ?_ | refine W.region ?_ | refine WS.nil ?_ | refine W.skip ?_ | refine W.block ?_ | refine W.ret ?_ | refine W.exit ?_ | refine W.yes rfl rfl ?_ | refine W.fork rfl (fun _ => ?_) (fun _ => ?_) | refine WS.guardT rfl ?_ | refine WS.guardF rfl rfl rfl ?_ | refine WS.guardK rfl (fun _ => ?_) (fun _ => ?_) | refine WS.near rfl o_mov rfl ?_ | refine WS.near rfl o_pickT rfl ?_ | refine WS.near rfl o_pickF rfl ?_ | refine WS.near rfl o_notT rfl ?_ | refine WS.near rfl o_lss rfl ?_ | refine WS.near rfl o_gtr rfl ?_ | refine WS.near rfl o_eql rfl ?_ | refine WS.near rfl o_faddr rfl ?_ | refine WS.near rfl o_loadF rfl ?_ | refine WS.near rfl o_binB rfl ?_ | refine WS.near rfl (o_extract rfl) rfl ?_ | refine WS.near rfl (o_loadH rfl) rfl ?_ | refine WS.near rfl (o_loadHN rfl rfl) rfl ?_ | refine WS.near rfl (o_boxH 0 rfl) rfl ?_
          | refine WS.near rfl (o_add (by omega) (by omega)) rfl ?_ | refine WS.near rfl (o_faddrF (Nat.le_of_ble_eq_true rfl)) rfl ?_)
      refine WS.callG rfl rfl rfl (Guess_pu d hD hd.goal (by omega) hli _ (hp_fine hf) (ints_shut hu)) rfl rfl (o_loadHN hb3 rfl) rfl ?_
      refine WS.guardT rfl ?_
      refine WS.puC hf (ints_shut hu) rfl rfl (GuessR_pu d hD hd.goal (by omega) hli) ?_
      repeat' (first
          | refine W.seq ?_ | refine W.region ?_ | refine WS.nil ?_ | refine W.skip ?_ | refine W.block ?_ | refine W.ret ?_ | refine W.exit ?_ | refine W.yes rfl rfl ?_ | refine W.fork rfl (fun _ => ?_) (fun _ => ?_) | refine WS.guardT rfl ?_ | refine WS.guardF rfl rfl rfl ?_ | refine WS.guardK rfl (fun _ => ?_) (fun _ => ?_) | refine WS.near rfl o_mov rfl ?_ | refine WS.near rfl o_pickT rfl ?_ | refine WS.near rfl o_pickF rfl ?_ | refine WS.near rfl o_notT rfl ?_ | refine WS.near rfl o_lss rfl ?_ | refine WS.near rfl o_gtr rfl ?_ | refine WS.near rfl o_eql rfl ?_ | refine WS.near rfl o_faddr rfl ?_ | refine WS.near rfl o_loadF rfl ?_ | refine WS.near rfl o_binB rfl ?_ | refine WS.near rfl (o_extract rfl) rfl ?_ | refine WS.near rfl (o_loadH rfl) rfl ?_ | refine WS.near rfl (o_loadHN rfl rfl) rfl ?_ | refine WS.near rfl (o_boxH 0 rfl) rfl ?_
          | refine WS.near rfl (o_add (by omega) (by omega)) rfl ?_ | refine WS.near rfl (o_faddrF (Nat.le_of_ble_eq_true rfl)) rfl ?_)
      exact ⟨_, rfl, fin_bool (by simp)⟩
    | false =>
      repeat' (first
          | refine W.seq ?_ | refine W.region ?_ | refine WS.nil ?_ | refine W.skip ?_ | refine W.block ?_ | refine W.ret ?_ | refine W.exit ?_ | refine W.yes rfl rfl ?_ | refine W.fork rfl (fun _ => ?_) (fun _ => ?_) | refine WS.guardT rfl ?_ | refine WS.guardF rfl rfl rfl ?_ | refine WS.guardK rfl (fun _ => ?_) (fun _ => ?_) | refine WS.near rfl o_mov rfl ?_ | refine WS.near rfl o_pickT rfl ?_ | refine WS.near rfl o_pickF rfl ?_ | refine WS.near rfl o_notT rfl ?_ | refine WS.near rfl o_lss rfl ?_ | refine WS.near rfl o_gtr rfl ?_ | refine WS.near rfl o_eql rfl ?_ | refine WS.near rfl o_faddr rfl ?_ | refine WS.near rfl o_loadF rfl ?_ | refine WS.near rfl o_binB rfl ?_ | refine WS.near rfl (o_extract rfl) rfl ?_ | refine WS.near rfl (o_loadH rfl) rfl ?_ | refine WS.near rfl (o_loadHN rfl rfl) rfl ?_ | refine WS.near rfl (o_boxH 0 rfl) rfl ?_
          | refine WS.near rfl (o_add (by omega) (by omega)) rfl ?_ | refine WS.near rfl (o_faddrF (Nat.le_of_ble_eq_true rfl)) rfl ?_)
      refine WS.puC hf ⟨hu1, hu2⟩ rfl rfl hsame ?_
      repeat' (first
          | refine WS.near rfl (o_loadHN hb3 rfl) rfl ?_ | refine W.seq ?_ | refine W.region ?_ | refine WS.nil ?_ | refine W.skip ?_ | refine W.block ?_ | refine W.ret ?_ | refine W.exit ?_ | refine W.yes rfl rfl ?_ | refine W.fork rfl (fun _ => ?_) (fun _ => ?_) | refine WS.guardT rfl ?_ | refine WS.guardF rfl rfl rfl ?_ | refine WS.guardK rfl (fun _ => ?_) (fun _ => ?_) | refine WS.near rfl o_mov rfl ?_ | refine WS.near rfl o_pickT rfl ?_ | refine WS.near rfl o_pickF rfl ?_ | refine WS.near rfl o_notT rfl ?_ | refine WS.near rfl o_lss rfl ?_ | refine WS.near rfl o_gtr rfl ?_ | refine WS.near rfl o_eql rfl ?_ | refine WS.near rfl o_faddr rfl ?_ | refine WS.near rfl o_loadF rfl ?_ | refine WS.near rfl o_binB rfl ?_ | refine WS.near rfl (o_extract rfl) rfl ?_ | refine WS.near rfl (o_loadH rfl) rfl ?_ | refine WS.near rfl (o_loadHN rfl rfl) rfl ?_ | refine WS.near rfl (o_boxH 0 rfl) rfl ?_
          | refine WS.near rfl (o_add (by omega) (by omega)) rfl ?_ | refine WS.near rfl (o_faddrF (Nat.le_of_ble_eq_true rfl)) rfl ?_)
      refine WS.callG rfl rfl rfl (Guess_pu d hD hd.goal (by omega) hli _ (hp_fine hf) (ints_shut hu)) rfl rfl (o_loadHN hb3 rfl) rfl ?_
      refine WS.guardT rfl ?_
      refine WS.puC hf (ints_shut hu) rfl rfl (GuessR_pu d hD hd.goal (by omega) hli) ?_
      repeat' (first
          | refine W.seq ?_ | refine W.region ?_ | refine WS.nil ?_ | refine W.skip ?_ | refine W.block ?_ | refine W.ret ?_ | refine W.exit ?_ | refine W.yes rfl rfl ?_ | refine W.fork rfl (fun _ => ?_) (fun _ => ?_) | refine WS.guardT rfl ?_ | refine WS.guardF rfl rfl rfl ?_ | refine WS.guardK rfl (fun _ => ?_) (fun _ => ?_) | refine WS.near rfl o_mov rfl ?_ | refine WS.near rfl o_pickT rfl ?_ | refine WS.near rfl o_pickF rfl ?_ | refine WS.near rfl o_notT rfl ?_ | refine WS.near rfl o_lss rfl ?_ | refine WS.near rfl o_gtr rfl ?_ | refine WS.near rfl o_eql rfl ?_ | refine WS.near rfl o_faddr rfl ?_ | refine WS.near rfl o_loadF rfl ?_ | refine WS.near rfl o_binB rfl ?_ | refine WS.near rfl (o_extract rfl) rfl ?_ | refine WS.near rfl (o_loadH rfl) rfl ?_ | refine WS.near rfl (o_loadHN rfl rfl) rfl ?_ | refine WS.near rfl (o_boxH 0 rfl) rfl ?_
          | refine WS.near rfl (o_add (by omega) (by omega)) rfl ?_ | refine WS.near rfl (o_faddrF (Nat.le_of_ble_eq_true rfl)) rfl ?_)
      exact ⟨_, rfl, fin_bool (by simp)⟩
end Go.Proofs.YtpaadclighadaaaDoor.CodesG
