/- Whether a node may be run: by the document, statement by statement. -/
import Derived.Test.YtfbikhkmamdjmaaDoorWV11
namespace Go.Proofs.YtfbikhkmamdjmaaDoor.CodesK
open Go Go.Ab
set_option maxHeartbeats 12800000
set_option maxRecDepth 100000

theorem btf {p : Prop} [Decidable p] {b : Bool} (h : b = decide p) : b = true ↔ p := by rw [h]; simp
open Classical in
theorem rn_good (m : Nat) (hm : m + 1 ≤ 40) (n : ND) (hn : n.Ok) (ih : ∀ y ∈ n.kids, PuF D1 21 [y.v, i64 (41 - (m : Nat))] (.bool (rnF m y))) (hk0 : 0 ≤ n.k) (hk1 : n.k ≤ 15) (hk2 : n.k ≠ 10) : PuF D1 21 [n.v, i64 (41 - ((m + 1 : Nat) : Int))] (.bool (rnF (m + 1) n)) := by
  have hwm := hn.wm
  have ht := fun hok => tail21 m hm n hn hwm ih hok
  have hkm : (n.kids.map ND.v).length = n.kids.length := List.length_map ..
  have hwl : (n.ws.map EX.v).length = n.ws.length := List.length_map ..
  have hlk : ∀ h0 : Heap, Does (.len 1 (.v n.u)) h0 (.int .i64 (n.kids.length : Nat)) h0 := fun h0 => by have := o_lenZ (h0 := h0) hn.ku; rwa [hkm] at this
  have hlw : ∀ h0 : Heap, Does (.len 1 (.v n.w)) h0 (.int .i64 (n.ws.length : Nat)) h0 := fun h0 => by have := o_lenZ (h0 := h0) hn.wu; rwa [hwl] at this
  have hr := rightR_pu n.x hn.ex hn.xm
  have hno := none2_pu n.x hn.ex
  have hnm := refName_pu n.s hn.sl
  have hsl : n.s.length = 0 ↔ n.s = [] := List.length_eq_zero_iff
  refine PuF.tidy rfl rfl rfl rfl rfl fun h hf => ?_
  refine W.seq ?_
  repeat' (first
      | refine W.region ?_ | refine WS.nil ?_ | refine WS.near rfl o_mov rfl ?_ | refine WS.near rfl (o_boxH 0 rfl) rfl ?_ | fail)
  refine W.meetR (α := Unit) (fun _ => [(1, i64 (41 - ((m + 1 : Nat) : Int))), (2, .mptr (h.next + 0) 0)]) (fun _ => hp h [some n.cells]) (fun _ => True) ?_ ?_
  · refine W.seq ?_
    repeat' (first
        | refine W.region ?_ | refine WS.nil ?_ | refine W.skip ?_ | refine W.yes rfl rfl ?_ | refine W.fork rfl (fun _ => ?_) (fun _ => ?_) | refine WS.guardT rfl ?_ | refine WS.guardF rfl rfl rfl ?_ | refine WS.guardK rfl (fun _ => ?_) (fun _ => ?_) | refine WS.near rfl o_pickT rfl ?_ | refine WS.near rfl o_pickF rfl ?_ | refine WS.near rfl o_lss rfl ?_ | refine WS.near rfl o_gtr rfl ?_ | refine WS.near rfl o_eql rfl ?_ | refine WS.near rfl o_faddr rfl ?_ | refine WS.near rfl (o_loadH rfl) rfl ?_ | fail)
    all_goals first
      | (exfalso; omega)
      | exact ⟨(), trivial, ⟨rfl, rfl, trivial⟩, rfl⟩
  rintro _ _
  refine W.seq ?_
  repeat' (first
      | refine WS.near rfl (hlk _) rfl ?_ | refine W.region ?_ | refine WS.nil ?_ | refine WS.near rfl o_faddr rfl ?_ | refine WS.near rfl (o_loadH rfl) rfl ?_ | fail)
  refine W.meetR (α := Bool) (fun b => [(1, i64 (41 - ((m + 1 : Nat) : Int))), (2, .mptr (h.next + 0) 0), (4, i64 n.kids.length), (5, .bool b)]) (fun _ => hp h [some n.cells]) (fun b => b = true ↔ n.k ≤ 4 ∨ n.k = 11) ?_ ?_
  · skip
    repeat' (first
        | refine W.region ?_ | refine WS.nil ?_ | refine WS.guardT rfl ?_ | refine WS.guardF rfl rfl rfl ?_ | refine WS.guardK rfl (fun _ => ?_) (fun _ => ?_) | refine WS.near rfl o_pickT rfl ?_ | refine WS.near rfl o_pickF rfl ?_ | refine WS.near rfl o_leq rfl ?_ | refine WS.near rfl o_eql rfl ?_ | refine WS.near rfl o_faddr rfl ?_ | refine WS.near rfl (o_loadH rfl) rfl ?_ | fail)
    all_goals
      refine ⟨_, ?_, ⟨rfl, rfl, rfl, rfl, trivial⟩, rfl⟩
      first
        | (constructor <;> intro hh <;> omega)
        | (constructor <;> intro hh <;> first | omega | rfl | cases hh)
        | (refine (btf rfl).trans ?_; constructor <;> intro hh <;> omega)
  intro b5 hb5
  refine W.meetR (α := Bool) (fun b => [(1, i64 (41 - ((m + 1 : Nat) : Int))), (2, .mptr (h.next + 0) 0), (4, i64 n.kids.length), (5, .bool b5), (6, .bool b)]) (fun _ => hp h [some n.cells]) (fun b => b = true ↔ n.k = 5 ∨ n.k = 6) ?_ ?_
  · skip
    repeat' (first
        | refine W.region ?_ | refine WS.nil ?_ | refine WS.guardT rfl ?_ | refine WS.guardF rfl rfl rfl ?_ | refine WS.guardK rfl (fun _ => ?_) (fun _ => ?_) | refine WS.near rfl o_pickT rfl ?_ | refine WS.near rfl o_pickF rfl ?_ | refine WS.near rfl o_eql rfl ?_ | refine WS.near rfl o_faddr rfl ?_ | refine WS.near rfl (o_loadH rfl) rfl ?_ | fail)
    all_goals
      refine ⟨_, ?_, ⟨rfl, rfl, rfl, rfl, rfl, trivial⟩, rfl⟩
      first
        | (constructor <;> intro hh <;> first | omega | rfl | cases hh)
        | (refine (btf rfl).trans ?_; constructor <;> intro hh <;> omega)
  intro b6 hb6
  refine W.meetR (α := Unit) (fun _ => [(1, i64 (41 - ((m + 1 : Nat) : Int))), (2, .mptr (h.next + 0) 0), (4, i64 n.kids.length)]) (fun _ => hp h [some n.cells]) (fun _ => (b5 = true → 1 ≤ n.kids.length ∧ n.kids.length ≤ 16) ∧ (b5 = false → b6 = true → n.kids.length = 1) ∧ (b5 = false → b6 = false → n.kids.length = 0)) ?_ ?_
  · clear ht
    refine W.seq ?_
    cases b5 <;> cases b6
    all_goals
      simp only [true_iff, Bool.false_eq_true, false_iff] at hb5 hb6
      repeat' (first
          | refine W.seq ?_ | refine W.region ?_ | refine WS.nil ?_ | refine W.skip ?_ | refine W.ret ?_ | refine W.yes rfl rfl ?_ | refine W.no rfl rfl ?_ | refine W.fork rfl (fun _ => ?_) (fun _ => ?_) | refine WS.guardT rfl ?_ | refine WS.guardF rfl rfl rfl ?_ | refine WS.guardV rfl rfl ?_ | refine WS.guardK rfl (fun _ => ?_) (fun _ => ?_) | refine WS.near rfl o_mov rfl ?_ | refine WS.near rfl o_pickT rfl ?_ | refine WS.near rfl o_pickF rfl ?_ | refine WS.near rfl o_notT rfl ?_ | refine WS.near rfl o_notF rfl ?_ | refine WS.near rfl o_lss rfl ?_ | refine WS.near rfl o_gtr rfl ?_ | refine WS.near rfl o_neq rfl ?_ | fail)
      all_goals first
        | exact ⟨(), ⟨fun hh => by first | omega | (cases hh; done), fun hh hh' => by first | omega | (cases hh; done) | (cases hh'; done), fun hh hh' => by first | omega | (cases hh; done) | (cases hh'; done)⟩, ⟨rfl, rfl, rfl, trivial⟩, rfl⟩
        | (refine ⟨_, rfl, fin_bool (rnF_no fun ho => ?_)⟩
           have a4 := ho.many
           have a5 := ho.one
           have a6 := ho.leaf
           omega)
        | fail
  rintro _ ⟨hmany, hone, hleaf⟩
  refine W.meetR (α := Unit) (fun _ => [(1, i64 (41 - ((m + 1 : Nat) : Int))), (2, .mptr (h.next + 0) 0), (4, i64 n.kids.length)]) (fun _ => hp h [some n.cells]) (fun _ => (n.k = 4 → 1 ≤ n.a ∧ n.a ≤ n.kids.length ∧ 1 ≤ n.b ∧ n.b ≤ n.kids.length) ∧ (n.k = 6 → 1 ≤ n.a ∧ n.a ≤ 1000 ∧ n.b = 0) ∧ (n.k ≠ 4 → n.k ≠ 6 → n.a = 0 ∧ n.b = 0)) ?_ ?_
  · clear ht hb5 hb6
    repeat' (first
        | refine W.seq ?_ | refine W.region ?_ | refine WS.nil ?_ | refine W.skip ?_ | refine W.block ?_ | refine W.ret ?_ | refine W.yes rfl rfl ?_ | refine W.no rfl rfl ?_ | refine W.fork rfl (fun _ => ?_) (fun _ => ?_) | refine WS.guardT rfl ?_ | refine WS.guardF rfl rfl rfl ?_ | refine WS.guardV rfl rfl ?_ | refine WS.guardK rfl (fun _ => ?_) (fun _ => ?_) | refine WS.near rfl o_mov rfl ?_ | refine WS.near rfl o_pickT rfl ?_ | refine WS.near rfl o_pickF rfl ?_ | refine WS.near rfl o_lss rfl ?_ | refine WS.near rfl o_gtr rfl ?_ | refine WS.near rfl o_eql rfl ?_ | refine WS.near rfl o_neq rfl ?_ | refine WS.near rfl o_faddr rfl ?_ | refine WS.near rfl (o_loadH rfl) rfl ?_ | fail)
    all_goals first
      | exact ⟨(), ⟨fun hh => by omega, fun hh => by omega, fun hh hh' => by omega⟩, ⟨rfl, rfl, rfl, trivial⟩, rfl⟩
      | (refine ⟨_, rfl, fin_bool (rnF_no fun ho => ?_)⟩
         have a7 := ho.par
         have a8 := ho.rep
         have a9 := ho.bare
         omega)
      | fail
  rintro _ ⟨hpar, hrep, hbare⟩
  refine W.meetR (α := Bool) (fun b => [(1, i64 (41 - ((m + 1 : Nat) : Int))), (2, .mptr (h.next + 0) 0), (4, i64 n.kids.length), (7, .bool b)]) (fun _ => hp h [some n.cells]) (fun b => b = true ↔ n.k = 8 ∨ n.k = 9 ∨ n.k = 12) ?_ ?_
  · skip
    repeat' (first
        | refine W.region ?_ | refine WS.nil ?_ | refine WS.guardT rfl ?_ | refine WS.guardF rfl rfl rfl ?_ | refine WS.guardK rfl (fun _ => ?_) (fun _ => ?_) | refine WS.near rfl o_pickT rfl ?_ | refine WS.near rfl o_pickF rfl ?_ | refine WS.near rfl o_eql rfl ?_ | refine WS.near rfl o_faddr rfl ?_ | refine WS.near rfl (o_loadH rfl) rfl ?_ | fail)
    all_goals
      refine ⟨_, ?_, ⟨rfl, rfl, rfl, rfl, trivial⟩, rfl⟩
      first
        | (constructor <;> intro hh <;> first | omega | rfl | cases hh)
        | (refine (btf rfl).trans ?_; constructor <;> intro hh <;> omega)
  intro b7 hb7
  refine W.meetR (α := Bool) (fun b => [(1, i64 (41 - ((m + 1 : Nat) : Int))), (2, .mptr (h.next + 0) 0), (4, i64 n.kids.length), (7, .bool b7), (8, .bool b)]) (fun _ => hp h [some n.cells]) (fun b => b = true ↔ n.k = 7 ∨ n.k = 8) ?_ ?_
  · skip
    repeat' (first
        | refine W.region ?_ | refine WS.nil ?_ | refine WS.guardT rfl ?_ | refine WS.guardF rfl rfl rfl ?_ | refine WS.guardK rfl (fun _ => ?_) (fun _ => ?_) | refine WS.near rfl o_pickT rfl ?_ | refine WS.near rfl o_pickF rfl ?_ | refine WS.near rfl o_eql rfl ?_ | refine WS.near rfl o_faddr rfl ?_ | refine WS.near rfl (o_loadH rfl) rfl ?_ | fail)
    all_goals
      refine ⟨_, ?_, ⟨rfl, rfl, rfl, rfl, rfl, trivial⟩, rfl⟩
      first
        | (constructor <;> intro hh <;> first | omega | rfl | cases hh)
        | (refine (btf rfl).trans ?_; constructor <;> intro hh <;> omega)
  intro b8 hb8
  refine W.meetR (α := Unit) (fun _ => [(1, i64 (41 - ((m + 1 : Nat) : Int))), (2, .mptr (h.next + 0) 0), (4, i64 n.kids.length)]) (fun _ => hp h [some n.cells]) (fun _ => (b7 = true → isName n.s) ∧ (b7 = false → n.s = []) ∧ (b8 = true → rightF 40 n.x = true) ∧ (b8 = false → noneOk n.x)) ?_ ?_
  · clear ht
    refine W.seq ?_
    cases b7 <;> cases b8 <;> cases hR : rightF 40 n.x <;> rw [hR] at hr
    all_goals
      repeat' (first
          | refine WS.puF hf rfl rfl hr ?_ | refine WS.puF hf rfl rfl hno ?_ | refine WS.puF hf rfl rfl hnm ?_ | refine WS.near rfl (o_loadHN rfl rfl) rfl ?_ | refine W.seq ?_ | refine W.region ?_ | refine WS.nil ?_ | refine W.skip ?_ | refine W.ret ?_ | refine W.yes rfl rfl ?_ | refine W.no rfl rfl ?_ | refine W.fork rfl (fun _ => ?_) (fun _ => ?_) | refine WS.guardT rfl ?_ | refine WS.guardF rfl rfl rfl ?_ | refine WS.guardV rfl rfl ?_ | refine WS.guardK rfl (fun _ => ?_) (fun _ => ?_) | refine WS.near rfl o_mov rfl ?_ | refine WS.near rfl o_pickT rfl ?_ | refine WS.near rfl o_pickF rfl ?_ | refine WS.near rfl o_notT rfl ?_ | refine WS.near rfl o_notF rfl ?_ | refine WS.near rfl o_sneq0 rfl ?_ | refine WS.near rfl o_not rfl ?_ | refine WS.near rfl o_faddr rfl ?_ | refine WS.near rfl (o_loadH rfl) rfl ?_ | refine WS.near rfl (o_loadHN rfl rfl) rfl ?_ | fail)
      all_goals first
        | exact ⟨(), ⟨fun hh => by first | (cases hh; done) | assumption | exact Classical.not_not.1 (by assumption), fun hh => by first | (cases hh; done) | exact hsl.1 (by omega), fun hh => by first | (cases hh; done) | rfl | assumption, fun hh => by first | (cases hh; done) | assumption | exact Classical.not_not.1 (by assumption)⟩, ⟨rfl, rfl, rfl, trivial⟩, rfl⟩
        | (refine ⟨_, rfl, fin_bool (rnF_no fun ho => ?_)⟩
           have b10 := ho.nam
           have b11 := ho.non
           have b12 := ho.tol
           have b13 := ho.nox
           simp only [true_iff, false_iff, Bool.false_eq_true] at hb7 hb8
           first
             | (have c := b10 (by omega); contradiction)
             | (have c := hsl.2 (b11 (by omega)); omega)
             | (have c := b12 (by omega); rw [hR] at c; cases c)
             | (have c := b13 (by omega); contradiction)
             | fail)
  rintro _ ⟨hn1, hn2, hr1, hr2⟩
  refine W.meetR (α := Unit) (fun _ => [(1, i64 (41 - ((m + 1 : Nat) : Int))), (2, .mptr (h.next + 0) 0), (4, i64 n.kids.length)]) (fun _ => hp h [some n.cells]) (fun _ => (n.ws.length : Int) = if n.k = 11 then (n.kids.length : Int) else 0) ?_ ?_
  · clear ht
    repeat' (first
        | refine WS.near rfl (hlw _) rfl ?_ | refine W.seq ?_ | refine W.region ?_ | refine WS.nil ?_ | refine W.skip ?_ | refine W.ret ?_ | refine W.yes rfl rfl ?_ | refine W.no rfl rfl ?_ | refine W.fork rfl (fun _ => ?_) (fun _ => ?_) | refine WS.guardT rfl ?_ | refine WS.guardF rfl rfl rfl ?_ | refine WS.guardV rfl rfl ?_ | refine WS.guardK rfl (fun _ => ?_) (fun _ => ?_) | refine WS.near rfl o_mov rfl ?_ | refine WS.near rfl o_pickT rfl ?_ | refine WS.near rfl o_pickF rfl ?_ | refine WS.near rfl o_gtr rfl ?_ | refine WS.near rfl o_eql rfl ?_ | refine WS.near rfl o_neq rfl ?_ | refine WS.near rfl o_faddr rfl ?_ | refine WS.near rfl (o_loadH rfl) rfl ?_ | fail)
    all_goals first
      | exact ⟨(), by first | (rw [if_pos (by omega)]; omega) | (rw [if_neg (by omega)]; omega), ⟨rfl, rfl, rfl, trivial⟩, rfl⟩
      | (refine ⟨_, rfl, fin_bool (rnF_no fun ho => ?_)⟩
         have c := ho.wl
         first
           | (rw [if_pos (by omega)] at c; omega)
           | (rw [if_neg (by omega)] at c; omega)
           | fail)
  rintro _ hwn
  refine (ht (fun hwr => ⟨hk0, hk1, hk2, fun hh => hmany (hb5.2 hh), fun hh => hone ?_ (hb6.2 hh), fun hh => hleaf ?_ ?_, hpar, hrep, hbare, fun hh => hn1 (hb7.2 hh), fun hh => hn2 ?_, fun hh => hr1 (hb8.2 hh), fun hh => hr2 ?_, ?_, hwr⟩) h hf).sup ⟨rfl, rfl, rfl, trivial⟩
  all_goals first
    | (cases hb : b5 with
       | false => rfl
       | true => exfalso; have := hb5.1 hb; omega)
    | (cases hb : b6 with
       | false => rfl
       | true => exfalso; have := hb6.1 hb; omega)
    | (cases hb : b7 with
       | false => rfl
       | true => exfalso; have := hb7.1 hb; omega)
    | (cases hb : b8 with
       | false => rfl
       | true => exfalso; have := hb8.1 hb; omega)
    | (split at hwn
       · rename_i hq; rw [if_pos hq]; omega
       · rename_i hq; rw [if_neg hq]; omega)
    | fail
theorem rn_pu : ∀ (m : Nat) (n : ND), m ≤ 40 → n.Ok → PuF D1 21 [n.v, i64 (41 - (m : Nat))] (.bool (rnF m n))
  | 0, n, _, _ => rn_zero n
  | m + 1, n, hm, hn => by
    by_cases hk : n.k < 0 ∨ 15 < n.k ∨ n.k = 10
    · exact rn_bad m hm n hk
    · exact rn_good m hm n hn (fun y hy => rn_pu m y (by omega) (hn.kids y hy)) (by omega) (by omega) (by omega)
end Go.Proofs.YtfbikhkmamdjmaaDoor.CodesK
