/- Plans: the guess of all goals; two lists compared. -/
import Derived.Test.YtpaadclighadaaaDoorWG7
namespace Go.Proofs.YtpaadclighadaaaDoor.CodesG
open Go Go.Ab Go.Goap
set_option maxHeartbeats 800000
set_option maxRecDepth 100000

instance : Inhabited Cd := ⟨⟨[], 0, 0⟩⟩
theorem cut_in {d : DR} (hd : DIn d) {l : List Int} (hl : ∀ i, In64 (l.getD i 0)) (i : Nat) : In64 ((cutF d.vars l).getD i 0) := by
  by_cases hi : i < d.vars.length
  · rw [cut_at d.vars l i hi]
    have := hd.vars _ (getD_mem (d := default) hi)
    exact within_in (hl i) this.1 this.2
  · have : (cutF d.vars l).getD i 0 = 0 := by simp [List.getD, List.getElem?_eq_none (by rw [cut_len]; omega : (cutF d.vars l).length ≤ i)]
    rw [this]; exact in0
structure GS where
  k : Nat
  out : Int
  bs : List (Option (List V))
theorem Guess_pu (d : DR) (hd : DIn d) (hg : ∀ c ∈ d.goal, In64 c.n) (hng : d.goal.length < 2 ^ 40) {v : V} {l : List Int} (hli : ∀ i, In64 (l.getD i 0)) :
    PuC D1 13 [d.v, v] (i64 (GuessF d.dom l)) (fun h => IntsAt h v l) := by
  have hml : (d.goal.map cdV).length = d.goal.length := List.length_map ..
  refine PuC.tidy (fun h hb => hb.shut) rfl rfl rfl rfl rfl fun h hf hb => ?_
  repeat' (first
      | refine W.seq ?_ | refine W.region ?_ | refine WS.nil ?_ | refine W.skip ?_ | refine W.block ?_ | refine W.ret ?_ | refine W.exit ?_ | refine W.yes rfl rfl ?_ | refine W.no rfl rfl ?_ | refine W.fork rfl (fun _ => ?_) (fun _ => ?_) | refine WS.near rfl o_mov rfl ?_ | refine WS.near rfl o_notT rfl ?_ | refine WS.near rfl o_notF rfl ?_ | refine WS.near rfl o_lss rfl ?_ | refine WS.near rfl o_gtr rfl ?_ | refine WS.near rfl o_neq rfl ?_ | refine WS.near rfl o_faddr rfl ?_ | refine WS.near rfl (o_loadHN rfl rfl) rfl ?_ | refine WS.near rfl (o_boxH 0 rfl) rfl ?_ | refine WS.near rfl (o_add (by omega) (by omega)) rfl ?_)
  refine WS.call rfl rfl (cut_hp d hd.nv hf (hb.hp hf)) fun r h' ⟨bs1, e, hm, hkeep⟩ => ?_
  subst e
  have hb0 : bget bs1 0 = some d.cells := hkeep 0 _ rfl
  clear hkeep
  repeat' (first
      | refine WS.near rfl (o_loadH (hload_of hb0 rfl)) rfl ?_ | refine WS.near rfl (o_lenZ d.hgl) rfl ?_ | refine W.seq ?_ | refine W.region ?_ | refine WS.nil ?_ | refine W.skip ?_ | refine W.block ?_ | refine W.ret ?_ | refine W.exit ?_ | refine W.yes rfl rfl ?_ | refine W.no rfl rfl ?_ | refine W.fork rfl (fun _ => ?_) (fun _ => ?_) | refine WS.near rfl o_mov rfl ?_ | refine WS.near rfl o_notT rfl ?_ | refine WS.near rfl o_notF rfl ?_ | refine WS.near rfl o_lss rfl ?_ | refine WS.near rfl o_gtr rfl ?_ | refine WS.near rfl o_neq rfl ?_ | refine WS.near rfl o_faddr rfl ?_ | refine WS.near rfl (o_loadHN rfl rfl) rfl ?_ | refine WS.near rfl (o_boxH 0 rfl) rfl ?_ | refine WS.near rfl (o_add (by omega) (by omega)) rfl ?_)
  refine W.loop (fun a : GS => [(1, r), (2, .mptr (h.next + 0) 0), (4, i64 a.out), (8, d.gl), (9, .int .i64 ((d.goal.map cdV).length : Nat)), (10, .int .i64 (a.k : Nat))]) (fun a => hp h a.bs)
    (fun a => a.k ≤ d.goal.length ∧ bget a.bs 0 = some d.cells ∧ Made h a.bs r (cutF d.vars l) ∧ (d.goal.drop a.k).foldl (fun out c => max out (guessF d.vars (d.acts.map (·.a)) (cutF d.vars l) c)) a.out = GuessF d.dom l) (fun a => d.goal.length - a.k)
    ⟨0, 0, bs1⟩ ⟨Nat.zero_le _, hb0, hm, by rw [List.drop_zero]; rfl⟩ ⟨rfl, rfl, rfl, rfl, rfl, rfl, trivial⟩ rfl ?_
  clear hb0 hm
  rintro ⟨k, out, bs⟩ ⟨hk, hb0, hm, hr⟩
  simp only at hk hb0 hm hr ⊢
  repeat' (first
      | refine W.seq ?_ | refine W.region ?_ | refine WS.nil ?_ | refine W.skip ?_ | refine W.block ?_ | refine W.ret ?_ | refine W.exit ?_ | refine W.yes rfl rfl ?_ | refine W.no rfl rfl ?_ | refine W.fork rfl (fun _ => ?_) (fun _ => ?_) | refine WS.near rfl o_mov rfl ?_ | refine WS.near rfl o_notT rfl ?_ | refine WS.near rfl o_notF rfl ?_ | refine WS.near rfl o_lss rfl ?_ | refine WS.near rfl o_gtr rfl ?_ | refine WS.near rfl o_neq rfl ?_ | refine WS.near rfl o_faddr rfl ?_ | refine WS.near rfl (o_loadHN rfl rfl) rfl ?_ | refine WS.near rfl (o_boxH 0 rfl) rfl ?_ | refine WS.near rfl (o_add (by omega) (by omega)) rfl ?_)
  · have hlt : k < d.goal.length := by omega
    rw [fold_drop (d := default) hlt] at hr
    have hci := hg _ (getD_mem (d := default) hlt)
    refine WS.near rfl (o_iaddrZ k d.hgl rfl (fz_at (d := default) k hlt) rfl) rfl ?_
    generalize d.goal.getD k default = c at hr hci ⊢
    repeat' (first
        | refine WS.near rfl (o_loadA rfl) rfl ?_ | refine W.seq ?_ | refine W.region ?_ | refine WS.nil ?_ | refine W.skip ?_ | refine W.block ?_ | refine W.ret ?_ | refine W.exit ?_ | refine W.yes rfl rfl ?_ | refine W.no rfl rfl ?_ | refine W.fork rfl (fun _ => ?_) (fun _ => ?_) | refine WS.near rfl o_mov rfl ?_ | refine WS.near rfl o_notT rfl ?_ | refine WS.near rfl o_notF rfl ?_ | refine WS.near rfl o_lss rfl ?_ | refine WS.near rfl o_gtr rfl ?_ | refine WS.near rfl o_neq rfl ?_ | refine WS.near rfl o_faddr rfl ?_ | refine WS.near rfl (o_loadHN rfl rfl) rfl ?_ | refine WS.near rfl (o_boxH 0 rfl) rfl ?_ | refine WS.near rfl (o_add (by omega) (by omega)) rfl ?_)
    refine WS.near rfl o_allocS rfl ?_
    refine WS.near rfl (o_storeH hf bget_badd rfl) rfl ?_
    have keep : ∀ q lq, bget bs q = some lq → bget (bput (badd bs [.str [], .int .i64 0, .int .i64 0]) bs.length 0 3 (cdC c)) q = some lq := fun q lq e => by
      rw [bget_bput_ne (by have := bget_lt e; omega)]
      exact bget_badd_lt e
    have g1 : bget (bput (badd bs [.str [], .int .i64 0, .int .i64 0]) bs.length 0 3 (cdC c)) bs.length = some (cdC c) := bget_bput (off := 0) (n := 3) (cs := cdC c) bget_badd
    change WS D1 (capOfD c13.dep) [] _ (hp h (bput (badd bs [.str [], .int .i64 0, .int .i64 0]) bs.length 0 3 (cdC c))) _
    replace hb0 := keep _ _ hb0
    replace hm := hm.keep keep
    clear keep
    generalize bs.length = K at g1 hb0 hm ⊢
    generalize bput (badd bs [.str [], .int .i64 0, .int .i64 0]) K 0 3 (cdC c) = bs2 at g1 hb0 hm ⊢
    repeat' (first
        | refine WS.near rfl (o_loadHN hb0 rfl) rfl ?_ | refine WS.near rfl (o_loadHN g1 rfl) rfl ?_ | refine W.seq ?_ | refine W.region ?_ | refine WS.nil ?_ | refine W.skip ?_ | refine W.block ?_ | refine W.ret ?_ | refine W.exit ?_ | refine W.yes rfl rfl ?_ | refine W.no rfl rfl ?_ | refine W.fork rfl (fun _ => ?_) (fun _ => ?_) | refine WS.near rfl o_mov rfl ?_ | refine WS.near rfl o_notT rfl ?_ | refine WS.near rfl o_notF rfl ?_ | refine WS.near rfl o_lss rfl ?_ | refine WS.near rfl o_gtr rfl ?_ | refine WS.near rfl o_neq rfl ?_ | refine WS.near rfl o_faddr rfl ?_ | refine WS.near rfl (o_loadHN rfl rfl) rfl ?_ | refine WS.near rfl (o_boxH 0 rfl) rfl ?_ | refine WS.near rfl (o_add (by omega) (by omega)) rfl ?_)
    refine WS.puC hf hm.ints rfl rfl (guess_pu d hd c hci (cut_in hd hli) (cut_len _ _)) ?_
    repeat' (first
        | refine WS.near rfl o_max rfl ?_ | refine W.seq ?_ | refine W.region ?_ | refine WS.nil ?_ | refine W.skip ?_ | refine W.block ?_ | refine W.ret ?_ | refine W.exit ?_ | refine W.yes rfl rfl ?_ | refine W.no rfl rfl ?_ | refine W.fork rfl (fun _ => ?_) (fun _ => ?_) | refine WS.near rfl o_mov rfl ?_ | refine WS.near rfl o_notT rfl ?_ | refine WS.near rfl o_notF rfl ?_ | refine WS.near rfl o_lss rfl ?_ | refine WS.near rfl o_gtr rfl ?_ | refine WS.near rfl o_neq rfl ?_ | refine WS.near rfl o_faddr rfl ?_ | refine WS.near rfl (o_loadHN rfl rfl) rfl ?_ | refine WS.near rfl (o_boxH 0 rfl) rfl ?_ | refine WS.near rfl (o_add (by omega) (by omega)) rfl ?_)
    have e1 : (k : Int) + 1 = ((k + 1 : Nat) : Int) := by omega
    exact ⟨⟨k + 1, max out (guessF d.vars (d.acts.map (·.a)) (cutF d.vars l) c), bs2⟩, ⟨by show k + 1 ≤ _; omega, hb0, hm, hr⟩, by show d.goal.length - (k + 1) < d.goal.length - k; omega, ⟨rfl, rfl, rfl, rfl, rfl, congrArg (fun z => some (V.int .i64 z)) e1, trivial⟩, rfl⟩
  · have hge : d.goal.drop k = [] := List.drop_eq_nil_of_le (by omega)
    rw [hge] at hr
    exact ⟨_, rfl, fin_int hr⟩
theorem guess_holds {vs : List Var} {acts : List PAct} {l : List Int} {c : Cd} (h : holdsF vs l c = true) : guessF vs acts l c = 0 := by
  unfold holdsF at h
  unfold guessF
  cases hv : varI vs c.name with
  | none => rfl
  | some i =>
    rw [hv] at h
    simp only at h ⊢
    rw [if_pos (.inr (.inr h))]
theorem GuessR_pu (d : DR) (hd : DIn d) (hg : ∀ c ∈ d.goal, In64 c.n) (hng : d.goal.length < 2 ^ 40) {v : V} {l : List Int} (hli : ∀ i, In64 (l.getD i 0)) :
    PuC D1 14 [d.v, v] (i64 (GuessF d.dom l)) (fun h => IntsAt h v l) := by
  have hml : (d.goal.map cdV).length = d.goal.length := List.length_map ..
  have hl60 : d.vars.length < 2 ^ 60 := by have := hd.nv; omega
  refine PuC.tidy (fun h hb => hb.shut) rfl rfl rfl rfl rfl fun h hf hb => ?_
  repeat' (first
      | refine W.seq ?_ | refine W.region ?_ | refine WS.nil ?_ | refine W.skip ?_ | refine W.block ?_ | refine W.ret ?_ | refine W.exit ?_ | refine W.yes rfl rfl ?_ | refine W.no rfl rfl ?_ | refine W.fork rfl (fun _ => ?_) (fun _ => ?_) | refine WS.near rfl o_mov rfl ?_ | refine WS.near rfl o_notT rfl ?_ | refine WS.near rfl o_notF rfl ?_ | refine WS.near rfl o_lss rfl ?_ | refine WS.near rfl o_gtr rfl ?_ | refine WS.near rfl o_neq rfl ?_ | refine WS.near rfl o_faddr rfl ?_ | refine WS.near rfl (o_loadHN rfl rfl) rfl ?_ | refine WS.near rfl (o_boxH 0 rfl) rfl ?_ | refine WS.near rfl (o_add (by omega) (by omega)) rfl ?_)
  refine WS.call rfl rfl (cutR_hp d hd.nv hf (hb.hp hf)) fun r h' ⟨bs1, e, hm, hkeep⟩ => ?_
  subst e
  have hb0 : bget bs1 0 = some d.cells := hkeep 0 _ rfl
  clear hkeep
  repeat' (first
      | refine W.seq ?_ | refine W.region ?_ | refine WS.nil ?_ | refine W.skip ?_ | refine W.block ?_ | refine W.ret ?_ | refine W.exit ?_ | refine W.yes rfl rfl ?_ | refine W.no rfl rfl ?_ | refine W.fork rfl (fun _ => ?_) (fun _ => ?_) | refine WS.near rfl o_mov rfl ?_ | refine WS.near rfl o_notT rfl ?_ | refine WS.near rfl o_notF rfl ?_ | refine WS.near rfl o_lss rfl ?_ | refine WS.near rfl o_gtr rfl ?_ | refine WS.near rfl o_neq rfl ?_ | refine WS.near rfl o_faddr rfl ?_ | refine WS.near rfl (o_loadHN rfl rfl) rfl ?_ | refine WS.near rfl (o_boxH 0 rfl) rfl ?_ | refine WS.near rfl (o_add (by omega) (by omega)) rfl ?_)
  refine W.loop (fun a : GS => [(2, .mptr (h.next + 0) 0), (4, r), (5, i64 a.out), (6, .int .i64 (a.k : Nat))]) (fun _ => hp h bs1)
    (fun a => a.k ≤ d.goal.length ∧ 0 ≤ a.out ∧ (d.goal.drop a.k).foldl (fun out c => max out (guessF d.vars (d.acts.map (·.a)) (cutF d.vars l) c)) a.out = GuessF d.dom l) (fun a => d.goal.length - a.k)
    ⟨0, 0, []⟩ ⟨Nat.zero_le _, Int.le_refl _, by rw [List.drop_zero]; rfl⟩ ⟨rfl, rfl, rfl, rfl, trivial⟩ rfl ?_
  rintro ⟨k, out, bs⟩ ⟨hk, ho, hr⟩
  simp only at hk ho hr ⊢
  repeat' (first
      | refine WS.near rfl (o_loadH (hload_of hb0 rfl)) rfl ?_ | refine WS.near rfl (o_lenZ d.hgl) rfl ?_ | refine WS.near rfl (o_loadHN hb0 rfl) rfl ?_ | refine W.seq ?_ | refine W.region ?_ | refine WS.nil ?_ | refine W.skip ?_ | refine W.block ?_ | refine W.ret ?_ | refine W.exit ?_ | refine W.yes rfl rfl ?_ | refine W.no rfl rfl ?_ | refine W.fork rfl (fun _ => ?_) (fun _ => ?_) | refine WS.near rfl o_mov rfl ?_ | refine WS.near rfl o_notT rfl ?_ | refine WS.near rfl o_notF rfl ?_ | refine WS.near rfl o_lss rfl ?_ | refine WS.near rfl o_gtr rfl ?_ | refine WS.near rfl o_neq rfl ?_ | refine WS.near rfl o_faddr rfl ?_ | refine WS.near rfl (o_loadHN rfl rfl) rfl ?_ | refine WS.near rfl (o_boxH 0 rfl) rfl ?_ | refine WS.near rfl (o_add (by omega) (by omega)) rfl ?_)
  · have hlt : k < d.goal.length := by omega
    rw [fold_drop (d := default) hlt] at hr
    have hci := hg _ (getD_mem (d := default) hlt)
    have hat : ∀ {H : Heap}, Does (.iaddr 3 (.v d.gl) (.v (.int .i64 (k : Nat)))) H (.fptr (cdC (d.goal.getD k default))) H := o_iaddrZ k d.hgl rfl (fz_at (d := default) k hlt) rfl
    generalize d.goal.getD k default = c at hr hci hat ⊢
    have e1 : (k : Int) + 1 = ((k + 1 : Nat) : Int) := by omega
    repeat' (first
        | refine WS.near rfl hat rfl ?_ | refine WS.near rfl (o_loadA rfl) rfl ?_ | refine WS.near rfl (o_loadH (hload_of hb0 rfl)) rfl ?_ | refine WS.near rfl (o_loadHN hb0 rfl) rfl ?_ | refine W.seq ?_ | refine W.region ?_ | refine WS.nil ?_ | refine W.skip ?_ | refine W.block ?_ | refine W.ret ?_ | refine W.exit ?_ | refine W.yes rfl rfl ?_ | refine W.no rfl rfl ?_ | refine W.fork rfl (fun _ => ?_) (fun _ => ?_) | refine WS.near rfl o_mov rfl ?_ | refine WS.near rfl o_notT rfl ?_ | refine WS.near rfl o_notF rfl ?_ | refine WS.near rfl o_lss rfl ?_ | refine WS.near rfl o_gtr rfl ?_ | refine WS.near rfl o_neq rfl ?_ | refine WS.near rfl o_faddr rfl ?_ | refine WS.near rfl (o_loadHN rfl rfl) rfl ?_ | refine WS.near rfl (o_boxH 0 rfl) rfl ?_ | refine WS.near rfl (o_add (by omega) (by omega)) rfl ?_)
    refine WS.puC hf hm.ints rfl rfl (holdsR_pu d c hl60 (cut_len _ _)) ?_
    cases hh : holdsF d.vars (cutF d.vars l) c with
    | true =>
      rw [guess_holds hh, (by omega : max out 0 = out)] at hr
      repeat' (first
          | refine W.seq ?_ | refine W.region ?_ | refine WS.nil ?_ | refine W.skip ?_ | refine W.block ?_ | refine W.ret ?_ | refine W.exit ?_ | refine W.yes rfl rfl ?_ | refine W.no rfl rfl ?_ | refine W.fork rfl (fun _ => ?_) (fun _ => ?_) | refine WS.near rfl o_mov rfl ?_ | refine WS.near rfl o_notT rfl ?_ | refine WS.near rfl o_notF rfl ?_ | refine WS.near rfl o_lss rfl ?_ | refine WS.near rfl o_gtr rfl ?_ | refine WS.near rfl o_neq rfl ?_ | refine WS.near rfl o_faddr rfl ?_ | refine WS.near rfl (o_loadHN rfl rfl) rfl ?_ | refine WS.near rfl (o_boxH 0 rfl) rfl ?_ | refine WS.near rfl (o_add (by omega) (by omega)) rfl ?_)
      exact ⟨⟨k + 1, out, []⟩, ⟨by show k + 1 ≤ _; omega, ho, hr⟩, by show d.goal.length - (k + 1) < d.goal.length - k; omega, ⟨rfl, rfl, rfl, congrArg (fun z => some (V.int .i64 z)) e1, trivial⟩, rfl⟩
    | false =>
      repeat' (first
          | refine WS.near rfl hat rfl ?_ | refine WS.near rfl (o_loadA rfl) rfl ?_ | refine WS.near rfl (o_loadH (hload_of hb0 rfl)) rfl ?_ | refine WS.near rfl (o_loadHN hb0 rfl) rfl ?_ | refine W.seq ?_ | refine W.region ?_ | refine WS.nil ?_ | refine W.skip ?_ | refine W.block ?_ | refine W.ret ?_ | refine W.exit ?_ | refine W.yes rfl rfl ?_ | refine W.no rfl rfl ?_ | refine W.fork rfl (fun _ => ?_) (fun _ => ?_) | refine WS.near rfl o_mov rfl ?_ | refine WS.near rfl o_notT rfl ?_ | refine WS.near rfl o_notF rfl ?_ | refine WS.near rfl o_lss rfl ?_ | refine WS.near rfl o_gtr rfl ?_ | refine WS.near rfl o_neq rfl ?_ | refine WS.near rfl o_faddr rfl ?_ | refine WS.near rfl (o_loadHN rfl rfl) rfl ?_ | refine WS.near rfl (o_boxH 0 rfl) rfl ?_ | refine WS.near rfl (o_add (by omega) (by omega)) rfl ?_)
      refine WS.puC hf hm.ints rfl rfl (guessR_pu d hd c hci (cut_in hd hli) (cut_len _ _) hh) ?_
      generalize guessF d.vars (d.acts.map (·.a)) (cutF d.vars l) c = g at hr ⊢
      repeat' (first
          | refine W.seq ?_ | refine W.region ?_ | refine WS.nil ?_ | refine W.skip ?_ | refine W.block ?_ | refine W.ret ?_ | refine W.exit ?_ | refine W.yes rfl rfl ?_ | refine W.no rfl rfl ?_ | refine W.fork rfl (fun _ => ?_) (fun _ => ?_) | refine WS.near rfl o_mov rfl ?_ | refine WS.near rfl o_notT rfl ?_ | refine WS.near rfl o_notF rfl ?_ | refine WS.near rfl o_lss rfl ?_ | refine WS.near rfl o_gtr rfl ?_ | refine WS.near rfl o_neq rfl ?_ | refine WS.near rfl o_faddr rfl ?_ | refine WS.near rfl (o_loadHN rfl rfl) rfl ?_ | refine WS.near rfl (o_boxH 0 rfl) rfl ?_ | refine WS.near rfl (o_add (by omega) (by omega)) rfl ?_)
      · rename_i hgt
        rw [(by omega : max out g = g)] at hr
        exact ⟨⟨k + 1, g, []⟩, ⟨by show k + 1 ≤ _; omega, by show 0 ≤ g; omega, hr⟩, by show d.goal.length - (k + 1) < d.goal.length - k; omega, ⟨rfl, rfl, rfl, congrArg (fun z => some (V.int .i64 z)) e1, trivial⟩, rfl⟩
      · rename_i hgt
        rw [(by omega : max out g = out)] at hr
        exact ⟨⟨k + 1, out, []⟩, ⟨by show k + 1 ≤ _; omega, ho, hr⟩, by show d.goal.length - (k + 1) < d.goal.length - k; omega, ⟨rfl, rfl, rfl, congrArg (fun z => some (V.int .i64 z)) e1, trivial⟩, rfl⟩
  · have hge : d.goal.drop k = [] := List.drop_eq_nil_of_le (by omega)
    rw [hge] at hr
    exact ⟨_, rfl, fin_int hr⟩

/-- two lists, compared -/
theorem sameInts_pu {v w : V} {l m : List Int} (hl : l.length < 2 ^ 40) : PuC D1 12 [v, w] (.bool (decide (l = m))) (fun h => IntsAt h v l ∧ IntsAt h w m) := by
  refine PuC.tidy (fun h hb => ⟨hb.1.shut, hb.2.shut⟩) rfl rfl rfl rfl rfl fun h hf hb => ?_
  have ha := hb.1.hp (bs := []) hf
  have hw := hb.2.hp (bs := []) hf
  repeat' (first
      | refine WS.near rfl (o_lenA ha) rfl ?_ | refine WS.near rfl (o_lenA hw) rfl ?_ | refine W.seq ?_ | refine W.region ?_ | refine WS.nil ?_ | refine W.skip ?_ | refine W.block ?_ | refine W.ret ?_ | refine W.exit ?_ | refine W.yes rfl rfl ?_ | refine W.no rfl rfl ?_ | refine W.fork rfl (fun _ => ?_) (fun _ => ?_) | refine WS.near rfl o_mov rfl ?_ | refine WS.near rfl o_notT rfl ?_ | refine WS.near rfl o_notF rfl ?_ | refine WS.near rfl o_lss rfl ?_ | refine WS.near rfl o_gtr rfl ?_ | refine WS.near rfl o_neq rfl ?_ | refine WS.near rfl o_faddr rfl ?_ | refine WS.near rfl (o_loadHN rfl rfl) rfl ?_ | refine WS.near rfl (o_boxH 0 rfl) rfl ?_ | refine WS.near rfl (o_add (by omega) (by omega)) rfl ?_)
  · rename_i hne
    exact ⟨_, rfl, fin_bool (by symm; rw [decide_eq_false_iff_not]; intro e; subst e; exact hne rfl)⟩
  rename_i hne
  have hlen : l.length = m.length := by omega
  refine W.loop (fun i : Nat => [(0, v), (1, w), (3, .int .i64 (i : Nat))]) (fun _ => hp h []) (fun i => i ≤ l.length ∧ ∀ j, j < i → l.getD j 0 = m.getD j 0) (fun i => l.length - i)
    0 ⟨Nat.zero_le _, fun j h => absurd h (Nat.not_lt_zero _)⟩ ⟨rfl, rfl, rfl, trivial⟩ rfl ?_
  rintro i ⟨hi, hs⟩
  repeat' (first
      | refine WS.near rfl (o_lenA ha) rfl ?_ | refine W.seq ?_ | refine W.region ?_ | refine WS.nil ?_ | refine W.skip ?_ | refine W.block ?_ | refine W.ret ?_ | refine W.exit ?_ | refine W.yes rfl rfl ?_ | refine W.no rfl rfl ?_ | refine W.fork rfl (fun _ => ?_) (fun _ => ?_) | refine WS.near rfl o_mov rfl ?_ | refine WS.near rfl o_notT rfl ?_ | refine WS.near rfl o_notF rfl ?_ | refine WS.near rfl o_lss rfl ?_ | refine WS.near rfl o_gtr rfl ?_ | refine WS.near rfl o_neq rfl ?_ | refine WS.near rfl o_faddr rfl ?_ | refine WS.near rfl (o_loadHN rfl rfl) rfl ?_ | refine WS.near rfl (o_boxH 0 rfl) rfl ?_ | refine WS.near rfl (o_add (by omega) (by omega)) rfl ?_)
  · have hlt : i < l.length := by omega
    obtain ⟨a, d1, d2⟩ := o_at (k := .i64) i ha rfl hlt
    obtain ⟨b, d3, d4⟩ := o_at (k := .i64) i hw rfl (by omega : i < m.length)
    refine WS.near rfl d1 rfl ?_
    refine WS.near rfl d2 rfl ?_
    refine WS.near rfl d3 rfl ?_
    refine WS.near rfl d4 rfl ?_
    repeat' (first
        | refine W.seq ?_ | refine W.region ?_ | refine WS.nil ?_ | refine W.skip ?_ | refine W.block ?_ | refine W.ret ?_ | refine W.exit ?_ | refine W.yes rfl rfl ?_ | refine W.no rfl rfl ?_ | refine W.fork rfl (fun _ => ?_) (fun _ => ?_) | refine WS.near rfl o_mov rfl ?_ | refine WS.near rfl o_notT rfl ?_ | refine WS.near rfl o_notF rfl ?_ | refine WS.near rfl o_lss rfl ?_ | refine WS.near rfl o_gtr rfl ?_ | refine WS.near rfl o_neq rfl ?_ | refine WS.near rfl o_faddr rfl ?_ | refine WS.near rfl (o_loadHN rfl rfl) rfl ?_ | refine WS.near rfl (o_boxH 0 rfl) rfl ?_ | refine WS.near rfl (o_add (by omega) (by omega)) rfl ?_)
    · rename_i hd
      exact ⟨_, rfl, fin_bool (by symm; rw [decide_eq_false_iff_not]; intro e; subst e; exact hd rfl)⟩
    · rename_i hd
      have e1 : (i : Int) + 1 = ((i + 1 : Nat) : Int) := by omega
      refine ⟨i + 1, ⟨by omega, fun j hj => ?_⟩, by show l.length - (i + 1) < l.length - i; omega, ⟨rfl, rfl, congrArg (fun z => some (V.int .i64 z)) e1, trivial⟩, rfl⟩
      by_cases hji : j = i
      · subst hji; exact Classical.not_not.1 hd
      · exact hs j (by omega)
  · have hin : i = l.length := by omega
    refine ⟨_, rfl, fin_bool ?_⟩
    symm
    rw [decide_eq_true_iff]
    apply List.ext_getElem?
    intro j
    by_cases hj : j < l.length
    · have h1 : l[j]? = some (l.getD j 0) := by simp [List.getD, List.getElem?_eq_getElem hj]
      have h2 : m[j]? = some (m.getD j 0) := by simp [List.getD, List.getElem?_eq_getElem (by omega : j < m.length)]
      rw [h1, h2, hs j (by omega)]
    · rw [List.getElem?_eq_none (by omega), List.getElem?_eq_none (by omega)]
end Go.Proofs.YtpaadclighadaaaDoor.CodesG
