/- A node and all below it: by the program. -/
import Derived.Test.YtfbikhkmamdjmaaDoorWV7
namespace Go.Proofs.YtfbikhkmamdjmaaDoor.CodesK
open Go Go.Ab
set_option maxHeartbeats 3200000
set_option maxRecDepth 100000

theorem alln_drop {p : ND → Bool} {l : List ND} {i : Nat} (hi : i < l.length) : (l.drop i).all p = (p (l.getD i default) && (l.drop (i + 1)).all p) := by
  rw [List.drop_eq_getElem_cons hi]
  simp only [List.all_cons, List.getD, List.getElem?_eq_getElem hi, Option.getD_some]
theorem node_pu : ∀ (m : Nat) (n : ND), n.deep ≤ m → n.Ok → PuF D1 83 [n.v] (.bool (nodeF n))
  | 0, n, h, _ => by have := n.deep_eq; omega
  | m + 1, n, hm, hn => by
    have hkm : (n.kids.map ND.v).length = n.kids.length := List.length_map ..
    have hlen : ∀ h0 : Heap, Does (.len 1 (.v n.u)) h0 (.int .i64 (n.kids.length : Nat)) h0 := fun h0 => by have := o_lenZ (h0 := h0) hn.ku; rwa [hkm] at this
    have hll := hn.len
    have hde := n.deep_eq
    have htx := texts_pu n hn
    refine PuF.tidy rfl rfl rfl rfl rfl fun h hf => ?_
    cases hT : textsF n with
    | false =>
      rw [hT] at htx
      repeat' (first
          | refine WS.near rfl (hlen _) rfl ?_ | refine WS.puF hf rfl rfl (kids_pu _ _) ?_ | refine WS.puF hf rfl rfl (counts_pu n hn) ?_ | refine WS.puF hf rfl rfl htx ?_ | refine WS.near rfl (o_loadHN rfl rfl) rfl ?_ | refine W.seq ?_ | refine W.region ?_ | refine WS.nil ?_ | refine W.ret ?_ | refine W.yes rfl rfl ?_ | refine WS.guardT rfl ?_ | refine WS.guardF rfl rfl rfl ?_ | refine WS.guardK rfl (fun _ => ?_) (fun _ => ?_) | refine WS.near rfl o_mov rfl ?_ | refine WS.near rfl o_pickT rfl ?_ | refine WS.near rfl o_pickF rfl ?_ | refine WS.near rfl o_notF rfl ?_ | refine WS.near rfl o_lss rfl ?_ | refine WS.near rfl o_gtr rfl ?_ | refine WS.near rfl o_eql rfl ?_ | refine WS.near rfl o_not rfl ?_ | refine WS.near rfl o_faddr rfl ?_ | refine WS.near rfl (o_loadH rfl) rfl ?_ | refine WS.near rfl (o_loadHN rfl rfl) rfl ?_ | refine WS.near rfl (o_boxH 0 rfl) rfl ?_ | fail)
      all_goals
        refine ⟨_, rfl, fin_bool (nodeF_no fun ho => ?_)⟩
        obtain ⟨a1, a2, a3, a4, a5, a6⟩ := (okD_iff n).1 ho
        rw [hT] at a6
        cases a6
    | true =>
      rw [hT] at htx
      repeat' (first
          | refine WS.near rfl (hlen _) rfl ?_ | refine WS.puF hf rfl rfl (kids_pu _ _) ?_ | refine WS.puF hf rfl rfl (counts_pu n hn) ?_ | refine WS.puF hf rfl rfl htx ?_ | refine WS.near rfl (o_loadHN rfl rfl) rfl ?_ | refine W.seq ?_ | refine W.region ?_ | refine WS.nil ?_ | refine W.skip ?_ | refine W.block ?_ | refine W.ret ?_ | refine W.yes rfl rfl ?_ | refine W.no rfl rfl ?_ | refine WS.guardT rfl ?_ | refine WS.guardF rfl rfl rfl ?_ | refine WS.guardK rfl (fun _ => ?_) (fun _ => ?_) | refine WS.near rfl o_mov rfl ?_ | refine WS.near rfl o_pickT rfl ?_ | refine WS.near rfl o_pickF rfl ?_ | refine WS.near rfl o_notT rfl ?_ | refine WS.near rfl o_lss rfl ?_ | refine WS.near rfl o_gtr rfl ?_ | refine WS.near rfl o_eql rfl ?_ | refine WS.near rfl o_not rfl ?_ | refine WS.near rfl o_faddr rfl ?_ | refine WS.near rfl (o_loadH rfl) rfl ?_ | refine WS.near rfl (o_loadHN rfl rfl) rfl ?_
          | refine WS.near rfl (o_boxH 0 rfl) rfl ?_ | fail)
      all_goals first
        | (refine ⟨_, rfl, fin_bool (nodeF_no fun ho => ?_)⟩
           obtain ⟨a1, a2, a3, a4, a5, a6⟩ := (okD_iff n).1 ho
           first
             | omega
             | contradiction
             | fail)
        | (have hok : n.okD := (okD_iff n).2 ⟨by omega, by omega, by omega, Classical.not_not.1 (by assumption), Classical.not_not.1 (by assumption), hT⟩
           have e2 := nodeF_yes hok
           refine W.loop (fun a : DS => [(32, n.u), (33, i64 n.kids.length), (34, i64 a.i)]) (fun a => hp h a.bs)
             (fun a => a.i ≤ n.kids.length ∧ nodeF n = (n.kids.drop a.i).all nodeF) (fun a => n.kids.length - a.i)
             ⟨0, _⟩ ⟨Nat.zero_le _, by rw [List.drop_zero]; exact e2⟩ (by exact ⟨rfl, rfl, rfl, trivial⟩) rfl ?_
           rintro ⟨i, bs⟩ ⟨hi, hs⟩
           simp only at hi hs ⊢
           clear e2 hok
           repeat' (first
               | refine W.seq ?_ | refine W.region ?_ | refine WS.nil ?_ | refine W.skip ?_ | refine W.block ?_ | refine W.ret ?_ | refine W.exit ?_ | refine W.fork rfl (fun _ => ?_) (fun _ => ?_) | refine WS.near rfl o_mov rfl ?_ | refine WS.near rfl o_lss rfl ?_ | fail)
           · have hlt : i < n.kids.length := by omega
             rw [alln_drop hlt] at hs
             have hmem : n.kids.getD i default ∈ n.kids := getD_mem hlt
             have hd2 := ND.deeps_mem hmem
             have ih := node_pu m (n.kids.getD i default) (by omega) (hn.kid hlt)
             refine WS.near rfl (o_iaddrZ i hn.ku rfl (fz_at (d := default) i hlt) rfl) rfl ?_
             generalize n.kids.getD i default = y at hs ih ⊢
             have e1 : (i : Int) + 1 = ((i + 1 : Nat) : Int) := by omega
             cases hb : nodeF y with
             | true =>
               rw [hb] at ih hs
               rw [Bool.true_and] at hs
               repeat' (first
                   | refine WS.near rfl (o_loadA rfl) rfl ?_ | refine WS.near rfl o_allocS rfl ?_ | refine WS.near rfl (o_storeH hf bget_badd rfl) rfl ?_ | refine WS.near rfl (o_loadHN (bget_bput bget_badd) rfl) rfl ?_ | refine WS.puF hf rfl rfl ih ?_ | refine W.seq ?_ | refine W.region ?_ | refine WS.nil ?_ | refine W.skip ?_ | refine W.no rfl rfl ?_ | refine WS.near rfl o_notT rfl ?_ | refine WS.near rfl (o_add (by omega) (by omega)) rfl ?_ | fail)
               exact ⟨⟨i + 1, _⟩, ⟨by show i + 1 ≤ n.kids.length; omega, hs⟩, by show n.kids.length - (i + 1) < n.kids.length - i; omega, ⟨rfl, rfl, congrArg (fun z => some (V.int .i64 z)) e1, trivial⟩, rfl⟩
             | false =>
               rw [hb] at ih hs
               repeat' (first
                   | refine WS.near rfl (o_loadA rfl) rfl ?_ | refine WS.near rfl o_allocS rfl ?_ | refine WS.near rfl (o_storeH hf bget_badd rfl) rfl ?_ | refine WS.near rfl (o_loadHN (bget_bput bget_badd) rfl) rfl ?_ | refine WS.puF hf rfl rfl ih ?_ | refine W.seq ?_ | refine W.region ?_ | refine WS.nil ?_ | refine W.ret ?_ | refine W.yes rfl rfl ?_ | refine WS.near rfl o_mov rfl ?_ | refine WS.near rfl o_notF rfl ?_ | fail)
               exact ⟨_, rfl, fin_bool (by rw [hs]; rfl)⟩
           · have hge : n.kids.drop i = [] := List.drop_eq_nil_of_le (by omega)
             rw [hge] at hs
             exact ⟨_, rfl, fin_bool hs.symm⟩)
end Go.Proofs.YtfbikhkmamdjmaaDoor.CodesK
