/- What the laws of goap share. -/
import Derived.Test.YtpaadclighadaaaDoorWG9
namespace Go.Proofs.YtpaadclighadaaaDoor.CodesG
open Go Go.Ab Go.Goap
set_option maxHeartbeats 800000
set_option maxRecDepth 100000

/-- a call under a guard, behind which is looked again under a guard -/
theorem WS.callG {D : OCtx} {cap : Nat} {m : Kn} {h : Heap} {K : Kn → Heap → Prop} {t t' c : Nat} {b b' : Bool} {f : Nat} {xs xs' : List Opd} {d : Option Nat} {l : List Step} {o o' : AOp} {u v' : V} {h2 : Heap} (hg : m.get t = some (.bool b)) (e : gL (kop m) xs = some xs') (hx : dOk cap d = true)
    (he : CallW D f (xs'.map vev) h fun v h' => v = u ∧ h' = h) (hg' : (kput m d u).get t' = some (.bool b')) (ho : mapO (kop (kput m d u)) o = some o') (hd : Does o' h v' h2) (hc : (kput m d u).get c = some v') (w : WS D cap l (kput m d u) h K) :
    WS D cap (⟨d, .call f xs, some (t, b), [(c, some (t', b'), o)]⟩ :: l) m h K := fun fr hf => by
  have he' : CallW D f (xs.map (evT fr)) h fun v h' => v = u ∧ h' = h := by rw [hf.args e]; exact he
  obtain ⟨v, h', ⟨n1, e1⟩, rfl, rfl⟩ := he'
  have hput := hf.put hx v
  obtain ⟨st', ⟨n2, hn⟩, hk⟩ := w _ hput
  refine ⟨st', ⟨max n1 n2, ?_⟩, hk⟩
  show guardT (some (t, b)) ⟨fr, [], h'⟩ (mapK (evT fr) xs (fun a => outT d ⟨fr, [], h'⟩ (chkT [(c, some (t', b'), o)] (stepsT D (execT D (max n1 n2)) l)) (callT D (execT D (max n1 n2)) f a h'))) _ = _
  have hbb : (b == b) = true := by cases b <;> rfl
  simp only [guardT, (hf.kn t _ hg).2, hbb]
  rw [mapK_eq, callT_le (execT_le D (Nat.le_max_left n1 n2)) e1]
  show force v (fun v => chkT [(c, some (t', b'), o)] (stepsT D (execT D (max n1 n2)) l) (.mk (putT fr d v) [] h')) = _
  rw [force_eq]
  show Bool.rec (motive := fun _ => Option (Ex × StT)) none (stepsT D (execT D (max n1 n2)) l ⟨putT fr d v, [], h'⟩) (checksT (getT (putT fr d v)) (evT (putT fr d v)) h' [(c, some (t', b'), o)]) = _
  have hck : checksT (getT (putT fr d v)) (evT (putT fr d v)) h' [(c, some (t', b'), o)] = true := by
    have h3 : opF o (evT (putT fr d v)) h' = some (v', h2) := by rw [← hput.op h' ho, hd.eq]
    have hb' : (b' == b') = true := by cases b' <;> rfl
    simp only [checksT, wantedE, (hput.kn t' _ hg').2, hb', h3, (hput.kn c _ hc).2, beq_refl, Bool.true_and]
  rw [hck]
  exact stepsT_le (execT_le D (Nat.le_max_right n1 n2)) _ _ _ hn
/-- a copy of a list -/
theorem o_copyA {h : Heap} {bs : List (Option (List V))} {v : V} {l : List Int} (hb : IntsAt (hp h bs) v l) (hl : l.length ≤ 12) :
    ∃ v' bs', Does (.app 1 8 (.v .nilsl) (.v v)) (hp h bs) v' (hp h bs') ∧ IntsAt (hp h bs') v' l ∧ ∀ q c, bget bs q = some c → bget bs' q = some c := by
  have hr := hb.row
  have hn := hb.len
  by_cases h0 : l.length = 0
  · have : l = [] := List.length_eq_zero_iff.1 h0
    subst this
    refine ⟨.nilsl, bs, ⟨?_⟩, ⟨rfl, .inl rfl⟩, fun q c e => e⟩
    rw [op1v]
    simp only [op1, ev, append, hr, hn, List.length_nil, if_true]
  · refine ⟨.msl (h.next + bs.length) 1 0 l.length none, badd bs (intsV l), ⟨?_⟩, ⟨?_, .inr (.inr (.inr ⟨_, _, _, _, rfl, rfl⟩))⟩, fun q c e => bget_badd_lt e⟩
    · rw [op1v]
      have hm : l.length * 8 ≤ maxRow := by unfold maxRow; omega
      simp only [op1, ev, append, hr, hn, h0, if_false, hm, if_true]
      rw [← hp_new]
      rfl
    · rw [row_msl (n := l.length) bget_badd (by rw [ints_len]; omega), ← ints_len l, Nat.mul_one, List.take_length]
theorem ends_ints {h : Heap} {bs : List (Option (List V))} {o : Option (List Int)} {r : V} {h' : Heap} (e : Ends (hp h bs) o r h') : ∃ b2 u ok, h' = hp h (bs ++ b2) ∧ r = .tup [u, .bool ok] ∧ ok = o.isSome ∧ IntsAt (hp h (bs ++ b2)) u (o.getD []) ∧ ∀ b3, IntsAt (hp h ((bs ++ b2) ++ b3)) u (o.getD []) := by
  obtain ⟨b2, rfl, hr⟩ := e
  rw [hp_hp]
  cases o with
  | none =>
    simp only at hr
    exact ⟨b2, .nilsl, false, rfl, hr, rfl, ⟨rfl, .inl rfl⟩, fun b3 => ⟨rfl, .inl rfl⟩⟩
  | some L =>
    obtain ⟨u, hr, hm⟩ := hr
    have hm2 : Made h (bs ++ b2) u L := isl_new hm
    exact ⟨b2, u, true, rfl, hr, rfl, hm2.ints, fun b3 => (hm2.keep fun k c e => bget_old e).ints⟩

theorem state_len (d : DR) (l : List Int) (act : Int) : ((stateF d l act).getD []).length ≤ d.vars.length := by
  unfold stateF
  split
  · unfold afterF
    split
    · show (makesF d.vars (cutF d.vars l) _).length ≤ _
      rw [makes_len, cut_len]
      omega
    · exact Nat.zero_le _
  · exact Nat.zero_le _
structure DLit (d : DR) : Prop where
  vars : ∀ v ∈ d.vars, VarIn v
  makes : ∀ r ∈ d.acts, ∀ m ∈ r.a.make, In64 m.n
  goal : ∀ c ∈ d.goal, In64 c.n
end Go.Proofs.YtpaadclighadaaaDoor.CodesG
