/- Whether a node may be run: by the document. -/
import Derived.Test.YtfbikhkmamdjmaaDoorWV7
import Derived.Test.YtfbikhkmamdjmaaDoorWV4
namespace Go.Proofs.YtfbikhkmamdjmaaDoor.CodesK
open Go Go.Ab
set_option maxHeartbeats 6400000
set_option maxRecDepth 100000

theorem sameNil_pu (u : V) (l : List V) (hu : IsFz u l) : PuF D1 129 [u, .nilsl] (.bool (decide (l.length = 0))) := by
  refine PuF.tidy rfl rfl rfl rfl rfl fun h hf => ?_
  repeat' (first
      | refine WS.near rfl (o_lenZ hu) rfl ?_ | refine W.seq ?_ | refine W.region ?_ | refine WS.nil ?_ | refine W.skip ?_ | refine W.block ?_ | refine W.ret ?_ | refine W.fork rfl (fun _ => ?_) (fun _ => ?_) | refine WS.near rfl o_mov rfl ?_ | refine WS.near rfl o_neq rfl ?_ | refine WS.near rfl o_lenN rfl ?_ | fail)
  · exact ⟨_, rfl, fin_bool (bfalse (by omega))⟩
  · rename_i g
    have h0 : l.length = 0 := by omega
    refine W.loop (fun _ : Unit => [(0, u), (3, i64 0)]) (fun _ => hp h []) (fun _ => True) (fun _ => 0) () trivial ⟨rfl, rfl, trivial⟩ rfl ?_
    rintro _ _
    repeat' (first
        | refine WS.near rfl (o_lenZ hu) rfl ?_ | refine W.seq ?_ | refine W.region ?_ | refine WS.nil ?_ | refine W.skip ?_ | refine W.block ?_ | refine W.ret ?_ | refine W.exit ?_ | refine W.fork rfl (fun _ => ?_) (fun _ => ?_) | refine WS.near rfl o_mov rfl ?_ | refine WS.near rfl o_lss rfl ?_ | fail)
    · exfalso; omega
    · exact ⟨_, rfl, fin_bool (btrue h0)⟩
open Classical in
theorem none2_pu (x : EX) (hx : x.Ok) : PuF D1 45 [x.v] (.bool (decide (noneOk x))) := by
  have hkm : (x.kids.map EX.v).length = x.kids.length := List.length_map ..
  have hs : PuF D1 86 [x.v, .agg [i64 0, i64 0, .str [], .nilsl]] (.bool (decide (noneOk x))) := by
    have hi := none_iff (x := x)
    have hn := sameNil_pu x.u _ hx.fz
    refine PuF.tidy rfl rfl rfl rfl rfl fun h hf => ?_
    repeat' (first
        | refine WS.puF hf rfl rfl hn ?_ | refine WS.near rfl o_sneq0 rfl ?_ | refine W.seq ?_ | refine W.region ?_ | refine WS.nil ?_ | refine W.skip ?_ | refine W.ret ?_ | refine W.yes rfl rfl ?_ | refine W.fork rfl (fun _ => ?_) (fun _ => ?_) | refine WS.guardT rfl ?_ | refine WS.guardF rfl rfl rfl ?_ | refine WS.guardK rfl (fun _ => ?_) (fun _ => ?_) | refine WS.near rfl o_mov rfl ?_ | refine WS.near rfl o_pickT rfl ?_ | refine WS.near rfl o_pickF rfl ?_ | refine WS.near rfl o_neq rfl ?_ | refine WS.near rfl o_sneq0 rfl ?_ | refine WS.near rfl o_faddr rfl ?_ | refine WS.near rfl (o_loadH rfl) rfl ?_ | refine WS.near rfl (o_boxH 0 rfl) rfl ?_ | refine WS.near rfl (o_boxH 1 rfl) rfl ?_ | fail)
    all_goals
      refine ⟨_, rfl, fin_bool ?_⟩
      first
        | exact bfalse (fun h => by have := hi.1 h; omega)
        | exact bsame (Iff.trans (by constructor <;> (intro h; omega)) hi.symm)
        | fail
  refine PuF.tidy rfl rfl rfl rfl rfl fun h hf => ?_
  repeat' (first
      | refine WS.near rfl (o_loadHN rfl rfl) rfl ?_ | refine WS.puF hf rfl rfl hs ?_ | refine W.seq ?_ | refine W.region ?_ | refine WS.nil ?_ | refine W.ret ?_ | refine WS.near rfl o_mov rfl ?_ | refine WS.near rfl (o_build rfl) rfl ?_ | refine WS.near rfl (o_loadHN rfl rfl) rfl ?_ | refine WS.near rfl (o_boxH 0 rfl) rfl ?_ | fail)
  exact ⟨_, rfl, fin_bool rfl⟩
/-- what comes behind the first so many statements -/
def tailOf : Nat → ACode → ACode
  | k + 1, .seq _ b => tailOf k b
  | _, c => c
theorem alln_drop' {p : ND → Bool} {l : List ND} {i : Nat} (hi : i < l.length) : (l.drop i).all p = (p (l.getD i default) && (l.drop (i + 1)).all p) := by
  rw [List.drop_eq_getElem_cons hi]
  simp only [List.all_cons, List.getD, List.getElem?_eq_getElem hi, Option.getD_some]
/-- the weights and the parts -/
theorem tail21 (m : Nat) (hm : m + 1 ≤ 40) (n : ND) (hn : n.Ok) (hwm : ∀ y ∈ n.ws, y.Sm) (ih : ∀ y ∈ n.kids, PuF D1 21 [y.v, i64 (41 - (m : Nat))] (.bool (rnF m y))) (hok : n.ws.all (rightF 40) = true → n.okD) (h : Heap) (hf : h.Fine) :
    W D1 (capOfD c21.dep) (tailOf 11 c21.body) [(1, i64 (41 - ((m + 1 : Nat) : Int))), (2, .mptr (h.next + 0) 0), (4, i64 n.kids.length)] (hp h [some n.cells]) (doneW c21.results (fin h (.bool (rnF (m + 1) n)))) := by
  have hkm : (n.kids.map ND.v).length = n.kids.length := List.length_map ..
  have hwl : (n.ws.map EX.v).length = n.ws.length := List.length_map ..
  have hlen : ∀ h0 : Heap, Does (.len 1 (.v n.w)) h0 (.int .i64 (n.ws.length : Nat)) h0 := fun h0 => by have := o_lenZ (h0 := h0) hn.wu; rwa [hwl] at this
  have hwb := hn.wl
  have hkb := hn.len
  refine W.seq ?_
  refine W.seq ?_
  repeat' (first
      | refine W.region ?_ | refine WS.nil ?_ | refine W.block ?_ | refine WS.near rfl o_mov rfl ?_ | fail)
  refine W.loop (fun i : Nat => [(1, i64 (41 - ((m + 1 : Nat) : Int))), (2, .mptr (h.next + 0) 0), (4, i64 n.kids.length), (9, i64 i)]) (fun _ => hp h [some n.cells])
    (fun i => i ≤ n.ws.length ∧ n.ws.all (rightF 40) = (n.ws.drop i).all (rightF 40)) (fun i => n.ws.length - i)
    0 ⟨Nat.zero_le _, by rw [List.drop_zero]⟩ (by exact ⟨rfl, rfl, rfl, rfl, trivial⟩) rfl ?_
  rintro i ⟨hi, hs⟩
  refine W.seq ?_
  refine W.seq ?_
  repeat' (first
      | refine WS.near rfl (hlen _) rfl ?_ | refine W.region ?_ | refine WS.nil ?_ | refine W.skip ?_ | refine W.exit ?_ | refine W.fork rfl (fun _ => ?_) (fun _ => ?_) | refine WS.near rfl o_lss rfl ?_ | refine WS.near rfl o_faddr rfl ?_ | refine WS.near rfl (o_loadH rfl) rfl ?_ | fail)
  refine W.seq ?_
  repeat' (first
      | refine W.block ?_ | fail)
  · have hlt : i < n.ws.length := by omega
    rw [all_drop hlt] at hs
    have hy := rightR_pu _ (hn.wk _ (getD_mem (d := default) hlt)) (hwm _ (getD_mem hlt))
    repeat' (first
        | refine WS.near rfl (o_iaddrZ i hn.wu rfl (fz_at (d := default) i hlt) rfl) rfl ?_ | refine W.seq ?_ | refine W.region ?_ | refine WS.near rfl o_faddr rfl ?_ | refine WS.near rfl (o_loadH rfl) rfl ?_ | fail)
    generalize n.ws.getD i default = y at hs hy ⊢
    have e1 : (i : Int) + 1 = ((i + 1 : Nat) : Int) := by omega
    cases hb : rightF 40 y with
    | true =>
      rw [hb] at hs hy
      rw [Bool.true_and] at hs
      repeat' (first
          | refine WS.near rfl (o_loadA rfl) rfl ?_ | refine WS.puF hf rfl rfl hy ?_ | refine W.region ?_ | refine WS.nil ?_ | refine W.skip ?_ | refine W.no rfl rfl ?_ | refine WS.near rfl o_notT rfl ?_ | refine WS.near rfl (o_add (by omega) (by omega)) rfl ?_ | fail)
      exact ⟨i + 1, ⟨by omega, hs⟩, by show n.ws.length - (i + 1) < n.ws.length - i; omega, ⟨rfl, rfl, rfl, congrArg (fun z => some (V.int .i64 z)) e1, trivial⟩, rfl⟩
    | false =>
      rw [hb] at hs hy
      repeat' (first
          | refine WS.near rfl (o_loadA rfl) rfl ?_ | refine WS.puF hf rfl rfl hy ?_ | refine W.seq ?_ | refine W.region ?_ | refine WS.nil ?_ | refine W.ret ?_ | refine W.yes rfl rfl ?_ | refine WS.near rfl o_mov rfl ?_ | refine WS.near rfl o_notF rfl ?_ | fail)
      refine ⟨_, rfl, fin_bool (rnF_no fun ho => ?_)⟩
      have := ho.wr
      rw [hs] at this
      cases this
  · have hge : n.ws.drop i = [] := List.drop_eq_nil_of_le (by omega)
    rw [hge] at hs
    have hok := hok hs
    clear hs
    refine W.seq ?_
    refine W.seq ?_
    repeat' (first
        | refine W.region ?_ | refine WS.nil ?_ | refine W.block ?_ | refine WS.near rfl o_mov rfl ?_ | fail)
    have e2 := rnF_yes (m := m) hok
    refine W.loop (fun i : Nat => [(1, i64 (41 - ((m + 1 : Nat) : Int))), (2, .mptr (h.next + 0) 0), (4, i64 n.kids.length), (10, i64 i)]) (fun _ => hp h [some n.cells])
      (fun i => i ≤ n.kids.length ∧ rnF (m + 1) n = (n.kids.drop i).all (rnF m)) (fun i => n.kids.length - i)
      0 ⟨Nat.zero_le _, by rw [List.drop_zero]; exact e2⟩ (by exact ⟨rfl, rfl, rfl, rfl, trivial⟩) rfl ?_
    rintro i ⟨hi, hs⟩
    refine W.seq ?_
    refine W.seq ?_
    repeat' (first
        | refine W.region ?_ | refine WS.nil ?_ | refine W.skip ?_ | refine W.exit ?_ | refine W.fork rfl (fun _ => ?_) (fun _ => ?_) | refine WS.near rfl o_lss rfl ?_ | fail)
    refine W.seq ?_
    repeat' (first
        | refine W.block ?_ | fail)
    · have hlt : i < n.kids.length := by omega
      rw [alln_drop' hlt] at hs
      have hy := ih _ (getD_mem (d := default) hlt)
      have ed : 41 - ((m + 1 : Nat) : Int) + 1 = 41 - (m : Nat) := by omega
      rw [← ed] at hy
      repeat' (first
          | refine WS.near rfl (o_iaddrZ i hn.ku rfl (fz_at (d := default) i hlt) rfl) rfl ?_ | refine W.seq ?_ | refine W.region ?_ | refine WS.near rfl o_faddr rfl ?_ | refine WS.near rfl (o_loadH rfl) rfl ?_ | fail)
      generalize n.kids.getD i default = y at hs hy ⊢
      have e1 : (i : Int) + 1 = ((i + 1 : Nat) : Int) := by omega
      cases hb : rnF m y with
      | true =>
        rw [hb] at hs hy
        rw [Bool.true_and] at hs
        repeat' (first
            | refine WS.near rfl (o_loadA rfl) rfl ?_ | refine WS.puF hf rfl rfl hy ?_ | refine W.region ?_ | refine WS.nil ?_ | refine W.skip ?_ | refine W.no rfl rfl ?_ | refine WS.near rfl o_notT rfl ?_ | refine WS.near rfl (o_add (by omega) (by omega)) rfl ?_ | fail)
        exact ⟨i + 1, ⟨by omega, hs⟩, by show n.kids.length - (i + 1) < n.kids.length - i; omega, ⟨rfl, rfl, rfl, congrArg (fun z => some (V.int .i64 z)) e1, trivial⟩, rfl⟩
      | false =>
        rw [hb] at hs hy
        repeat' (first
            | refine WS.near rfl (o_loadA rfl) rfl ?_ | refine WS.puF hf rfl rfl hy ?_ | refine W.seq ?_ | refine W.region ?_ | refine WS.nil ?_ | refine W.ret ?_ | refine W.yes rfl rfl ?_ | refine WS.near rfl o_mov rfl ?_ | refine WS.near rfl o_notF rfl ?_ | refine WS.near rfl (o_add (by omega) (by omega)) rfl ?_ | fail)
        exact ⟨_, rfl, fin_bool (by rw [hs]; rfl)⟩
    · have hge : n.kids.drop i = [] := List.drop_eq_nil_of_le (by omega)
      rw [hge] at hs
      repeat' (first
          | refine W.seq ?_ | refine W.region ?_ | refine WS.nil ?_ | refine W.ret ?_ | refine WS.near rfl o_mov rfl ?_ | fail)
      exact ⟨_, rfl, fin_bool hs.symm⟩
end Go.Proofs.YtfbikhkmamdjmaaDoor.CodesK
