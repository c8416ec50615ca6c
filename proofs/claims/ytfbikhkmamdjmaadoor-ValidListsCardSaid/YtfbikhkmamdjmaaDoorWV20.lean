/- ValidLists: the law. -/
import Derived.Test.YtfbikhkmamdjmaaDoorWV19
namespace Go.Proofs.YtfbikhkmamdjmaaDoor.CodesK
open Go Go.Ab
set_option maxHeartbeats 3200000
set_option maxRecDepth 100000

def pl2 (f : Nat) : Bool := Nat.beq f 15 || (Nat.beq f 16 || Nat.beq f 17)
noncomputable def D2 : OCtx := layer D1 pl2 (fun _ => false)
theorem frz_fz {u : V} {rows : List V} (hu : IsFz u rows) {h : Heap} {n k : Nat} : Go.Ab.freeze h n (k + 1) u = some u := by
  rcases hu with ⟨rfl, _⟩ | ⟨rfl, _⟩ | ⟨c, rfl⟩ <;> rfl
theorem fine0 : Heap.empty.Fine := ⟨rfl, fun f m => by cases m⟩
theorem noMap0 : NoMap Heap.empty := fun b hb => by cases hb
theorem alive2 : PuF D2 15 [] (.bool true) := PuF.up rfl (fun _ => rfl) rfl alive_pu
theorem right_e (u : V) (l : List FL) (hu : IsFz u (l.map FL.v)) (hok : ∀ r ∈ l, r.Ok) (hl : l.length < 2 ^ 60) : CallW D1 16 [u] Heap.empty fun v _ => v = .bool (runF l) :=
  (right_pc u l hu hok hl Heap.empty fine0 noMap0).mono fun _ _ hc => hc.1
theorem refRight_e (u : V) (l : List FL) (hu : IsFz u (l.map FL.v)) (hok : ∀ r ∈ l, r.Ok) (hl : l.length < 2 ^ 24) : CallW D1 17 [u] Heap.empty fun v _ => v = .bool (runF l) :=
  (refRight_pu u l hu hok hl Heap.empty fine0).mono fun _ _ hc => hc.1
theorem fl_still {r : FL} (h : r.Ok) : ∀ u ∈ r.cells, V.still u = true := fun u hu => by
  simp only [FL.cells, List.mem_cons, List.not_mem_nil, or_false] at hu
  rcases hu with rfl | rfl | rfl | rfl | rfl | rfl | rfl | rfl | rfl | rfl | rfl <;> first | rfl | exact fz_still h.x.fz | exact fz_still h.w
theorem flats_cells : ∀ l : List FL, (l.map FL.v).flatMap V.cells = l.flatMap FL.cells
  | [] => rfl
  | r :: l => by simp only [List.map_cons, List.flatMap_cons, flats_cells l]; rfl
theorem fcl_len : ∀ l : List FL, (l.flatMap FL.cells).length = l.length * 11
  | [] => rfl
  | r :: l => by simp only [List.flatMap_cons, List.length_append, fcl_len l, List.length_cons]; show 11 + _ = _; omega
theorem o_appNil {h0 : Heap} {bs : List (Option (List V))} {u : V} {l : List FL} (hu : IsFz u (l.map FL.v)) (hne : l ≠ []) (hl : l.length ≤ 60) :
    Does (.app 11 136 (.v .nilsl) (.v u)) (hp h0 bs) (.msl (h0.next + bs.length) 11 0 l.length none) (hp h0 (badd bs (l.flatMap FL.cells))) := by
  have hpos : 0 < l.length := by
    cases l with
    | nil => exact absurd rfl hne
    | cons a r => simp
  rcases hu with ⟨_, h2⟩ | ⟨_, h2⟩ | ⟨c, rfl⟩
  · exact absurd (List.map_eq_nil_iff.1 h2) hne
  · exact absurd (List.map_eq_nil_iff.1 h2) hne
  · refine ⟨?_⟩
    rw [op1v]
    have hall : (l.map FL.v).all (fun e => decide (e.cells.length = 11)) = true := by
      rw [List.all_map, List.all_eq_true]
      intro r _
      rfl
    have h3 : ¬ l.length = 0 := by omega
    have h4 : l.length * 136 ≤ maxRow := by show l.length * 136 ≤ 140737488355328; omega
    simp only [op1, ev, append, Heap.row, hall, if_true, flats_cells, lenOf, List.length_map, h3, if_false, h4]
    show some _ = _
    rw [← hp_new]
    rfl
theorem o_appNil0 {H : Heap} {u : V} (hu : IsFz u (([] : List FL).map FL.v)) : Does (.app 11 136 (.v .nilsl) (.v u)) H .nilsl H := by
  rcases hu with ⟨rfl, _⟩ | ⟨rfl, _⟩ | ⟨c, rfl⟩ <;> exact ⟨by rw [op1v]; rfl⟩
theorem o_same {b : Bool} {h : Heap} : Does (.binB false (.v (.bool b)) (.v (.bool b))) h (.bool true) h := by
  cases b <;> exact ⟨rfl⟩
theorem law_pu (u : V) (l : List FL) (hu : IsFz u (l.map FL.v)) (hok : ∀ r ∈ l, r.Ok) : PuF D2 4 [u] (.bool true) := by
  have hum : ∀ h0 : Heap, Does (.len 1 (.v u)) h0 (.int .i64 (l.length : Nat)) h0 := fun h0 => by have := o_lenZ (h0 := h0) hu; rwa [List.length_map] at this
  refine PuF.tidy rfl rfl rfl rfl rfl fun h hf => ?_
  refine W.seq ?_
  repeat' (first
      | refine W.region ?_ | refine WS.nil ?_ | refine WS.near rfl o_mov rfl ?_ | fail)
  refine W.seq ?_
  repeat' (first
      | refine WS.puF hf rfl rfl alive2 ?_ | refine W.region ?_ | refine WS.nil ?_ | fail)
  refine W.seq ?_
  refine W.seq ?_
  repeat' (first
      | refine WS.near rfl (hum _) rfl ?_ | refine W.region ?_ | refine WS.nil ?_ | refine W.skip ?_ | refine W.fork rfl (fun _ => ?_) (fun _ => ?_) | refine WS.guardT rfl ?_ | refine WS.near rfl o_pickF rfl ?_ | refine WS.near rfl o_notT rfl ?_ | refine WS.near rfl o_gtr rfl ?_ | fail)
  · skip
    repeat' (first
        | refine W.seq ?_ | refine W.region ?_ | refine WS.nil ?_ | refine W.ret ?_ | refine WS.near rfl o_mov rfl ?_ | fail)
    exact ⟨_, rfl, fin_bool rfl⟩
  rename_i hlen
  have hl : l.length ≤ 60 := by omega
  have h1 := refRight_e u l hu hok (by omega)
  have h2 := right_e (slV (l.map FL.v)) l (slV_fz _) hok (by omega)
  have hfu : ∀ H : Heap, freezes H 0 fuelF [u] = some [u] := fun H => by
    show freezes H 0 (999999999999998 + 2) [u] = _
    rw [frzs_cons, frz_fz hu]
    rfl
  by_cases hne : l = []
  · subst hne
    repeat' (first
        | refine WS.near rfl (o_appNil0 hu) rfl ?_ | refine WS.plain (p := [slV (([] : List FL).map FL.v)]) rfl rfl rfl rfl rfl h2 ?_ | refine WS.plain (p := [u]) rfl rfl rfl (hfu _) rfl h1 ?_ | refine WS.near rfl o_same rfl ?_ | refine W.seq ?_ | refine W.region ?_ | refine WS.nil ?_ | refine W.ret ?_ | fail)
    exact ⟨_, rfl, fin_bool rfl⟩
  · have hmade : ∀ bs, freezes (hp h (badd bs (l.flatMap FL.cells))) 0 fuelF [.msl (h.next + bs.length) 11 0 l.length none] = some [slV (l.map FL.v)] := fun bs => by
      show freezes _ 0 (999999999999999 + 1) [.msl (h.next + bs.length) 11 0 l.length none] = _
      have hcl := fcl_len l
      rw [frzs_cons, frz_made FL.cells (l := l) (sz := 11) ⟨hcl, .inr ⟨bs.length, _, rfl, bget_badd, by omega, List.take_of_length_le (by omega)⟩⟩ (by decide) (fun _ => rfl) (by omega) (fun r hr => fl_still (hok r hr)) (fun hh => absurd hh hne)]
      rfl
    repeat' (first
        | refine WS.near rfl (o_appNil hu hne hl) rfl ?_ | refine WS.plain (p := [slV (l.map FL.v)]) rfl rfl rfl (hmade _) rfl h2 ?_ | refine WS.plain (p := [u]) rfl rfl rfl (hfu _) rfl h1 ?_ | refine WS.near rfl o_same rfl ?_ | refine W.seq ?_ | refine W.region ?_ | refine WS.nil ?_ | refine W.ret ?_ | fail)
    exact ⟨_, rfl, fin_bool rfl⟩
theorem law_w (u : V) (l : List FL) (hu : IsFz u (l.map FL.v)) (hok : ∀ r ∈ l, r.Ok) : CallW D2 4 [u] Heap.empty fun v _ => v = .bool true :=
  (law_pu u l hu hok Heap.empty fine0).mono fun _ _ hc => hc.1
end Go.Proofs.YtfbikhkmamdjmaaDoor.CodesK
