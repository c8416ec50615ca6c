/- Plans: numbers that are cut. -/
import Derived.Test.YtpaadclighadaaaDoorWGP
import Derived.Test.YtpaadclighadaaaDoorCodesG
import Derived.Test.YtpaadclighadaaaDoorAb5
namespace Go.Proofs.YtpaadclighadaaaDoor.CodesG
open Go Go.Ab Go.Goap
set_option maxHeartbeats 800000
set_option maxRecDepth 100000

theorem alive_w : CallW D 9 [] Heap.empty fun v _ => v = .bool true := evalW (n := 100000) (by kernel_rfl)
def e9 : List V → Option V
  | [] => some (.bool true)
  | _ => none
theorem e9_ok : Said D 9 e9 := by
  intro a u h
  unfold e9 at h
  split at h
  · cases h
    exact ⟨rfl, rfl, alive_w⟩
  · cases h
def l1 : List (Nat × (List V → Option V)) := [(9, e9)]
def D1 : OCtx := over D l1
theorem l1_ok : ∀ p ∈ l1, Said D p.1 p.2 := by
  intro p hp
  simp only [l1, List.mem_cons, List.not_mem_nil, or_false] at hp
  rcases hp with rfl
  exact e9_ok
theorem alive_pu : PuF D1 9 [] (.bool true) := (FactIn.top (D := D) (l := l1) (f := 9) (a := []) (u := .bool true) rfl rfl).pu

def i64 (n : Int) : V := .int .i64 n
section
variable {h : Heap} {a b : Int}
theorem o_max {k : IntKind} : Does (.mm true [.v (.int k a), .v (.int k b)]) h (.int k (max a b)) h := by
  refine ⟨?_⟩; rw [op1v]
  have : (if b > a then b else a) = max a b := by split <;> omega
  simp only [op1, List.map_cons, List.map_nil, ev, mmAll, mm2, if_true, Option.bind_some, Option.map_some, this]
theorem o_min {k : IntKind} : Does (.mm false [.v (.int k a), .v (.int k b)]) h (.int k (min a b)) h := by
  refine ⟨?_⟩; rw [op1v]
  have : (if b < a then b else a) = min a b := by split <;> omega
  simp only [op1, List.map_cons, List.map_nil, ev, mmAll, mm2, if_true, Bool.false_eq_true, if_false, Option.bind_some, Option.map_some, this]
theorem wrap_u64 {n : Int} : IntKind.wrap .u64 n = n % 18446744073709551616 := by
  have e1 : (2 : Int) ^ IntKind.bits .u64 = 18446744073709551616 := by decide
  have e3 : IntKind.signed .u64 = false := rfl
  simp only [IntKind.wrap, e1, e3, Bool.false_and, Bool.false_eq_true, if_false]
theorem o_convU (h0 : 0 ≤ a) (h1 : a < 18446744073709551616) : Does (.conv .u64 (.v (.int .i64 a))) h (.int .u64 a) h := by
  refine ⟨?_⟩; rw [op1v]
  simp only [op1, ev, wrap_u64, Int.emod_eq_of_lt h0 h1]
theorem o_shrU : Does (.bin .shr (.v (.int .u64 a)) (.v (.int .u64 32))) h (.int .u64 (a / 4294967296)) h := by
  refine ⟨?_⟩; rw [op1v]
  show some (V.int .u64 (a.fdiv 4294967296), h) = _
  rw [Int.fdiv_eq_ediv_of_nonneg a (by omega)]
theorem o_andU (h0 : 0 ≤ a) (h1 : a < 18446744073709551616) : Does (.bin .and (.v (.int .u64 a)) (.v (.int .u64 4294967295))) h (.int .u64 (a % 4294967296)) h := by
  refine ⟨?_⟩; rw [op1v]
  obtain ⟨n, rfl⟩ : ∃ n : Nat, a = (n : Nat) := ⟨a.toNat, by omega⟩
  have e0 : (BitVec.ofInt 64 4294967295).toNat = 2 ^ 32 - 1 := by decide
  have e1 : (BitVec.ofInt 64 (n : Nat)).toNat = n := by
    rw [BitVec.ofInt_natCast, BitVec.toNat_ofNat]
    exact Nat.mod_eq_of_lt (by omega)
  have e2 : (BitVec.ofInt 64 (n : Nat) &&& BitVec.ofInt 64 4294967295).toNat = n % 4294967296 := by
    rw [BitVec.toNat_and, e0, e1, Nat.and_two_pow_sub_one_eq_mod]
  show (((evS (pure (Value.int .u64 (IntKind.wrap .u64 ((BitVec.ofInt 64 (n : Nat) &&& BitVec.ofInt 64 4294967295).toNat : Nat))) : Sem Value)).bind ofLit).map fun v => (v, h)) = _
  rw [e2, wrap_u64]
  have : (((n % 4294967296 : Nat) : Int) % 18446744073709551616) = (n : Int) % 4294967296 := by omega
  rw [this]
  rfl
theorem o_mulU : Does (.bin .mul (.v (.int .u64 a)) (.v (.int .u64 b))) h (.int .u64 ((a * b) % 18446744073709551616)) h := by refine ⟨?_⟩; rw [op1v]; simp only [op1, ev, bin, intBin, if_true, Option.map_some, wrap_u64]
theorem o_addU : Does (.bin .add (.v (.int .u64 a)) (.v (.int .u64 b))) h (.int .u64 ((a + b) % 18446744073709551616)) h := by refine ⟨?_⟩; rw [op1v]; simp only [op1, ev, bin, intBin, if_true, Option.map_some, wrap_u64]
theorem o_mulW : Does (.bin .mul (.v (.int .i64 a)) (.v (.int .i64 b))) h (.int .i64 (IntKind.wrap .i64 (a * b))) h := by refine ⟨?_⟩; rw [op1v]; simp only [op1, ev, bin, intBin, if_true, Option.map_some]
end

def In64 (n : Int) : Prop := -9223372036854775808 ≤ n ∧ n ≤ 9223372036854775807
theorem sat_in (z : Int) : In64 (sat z) := by unfold In64 sat; omega
theorem within_in {n lo hi : Int} (hn : In64 n) (h1 : In64 lo) (h2 : In64 hi) : In64 (cutIn n lo hi) := by unfold In64 cutIn at *; omega

theorem within_pu (n lo hi : Int) : PuF D1 34 [i64 n, i64 lo, i64 hi] (i64 (cutIn n lo hi)) := by
  refine PuF.tidy rfl rfl rfl rfl rfl fun h hf => ?_
  repeat' (first
      | refine WS.near rfl o_max rfl ?_ | refine WS.near rfl o_min rfl ?_ | refine W.seq ?_ | refine W.region ?_ | refine WS.nil ?_ | refine W.skip ?_ | refine W.block ?_ | refine W.ret ?_ | refine W.yes rfl rfl ?_ | refine W.no rfl rfl ?_ | refine W.fork rfl (fun _ => ?_) (fun _ => ?_) | refine WS.guardT rfl ?_ | refine WS.guardF rfl rfl rfl ?_ | refine WS.guardK rfl (fun _ => ?_) (fun _ => ?_) | refine WS.near rfl o_mov rfl ?_ | refine WS.near rfl o_pickT rfl ?_ | refine WS.near rfl o_pickF rfl ?_ | refine WS.near rfl o_lss rfl ?_ | refine WS.near rfl o_gtr rfl ?_ | refine WS.near rfl o_faddr rfl ?_ | refine WS.near rfl (o_loadH rfl) rfl ?_ | refine WS.near rfl (o_boxH 0 rfl) rfl ?_ | refine WS.near rfl (o_add (by omega) (by omega)) rfl ?_ | refine WS.near rfl (o_sub (by omega) (by omega)) rfl ?_ | refine WS.near rfl (o_conv (by omega) (by omega)) rfl ?_)
  exact ⟨_, rfl, fin_int rfl⟩
theorem withinR_pu (n lo hi : Int) : PuF D1 16 [i64 n, i64 lo, i64 hi] (i64 (cutIn n lo hi)) := by
  refine PuF.tidy rfl rfl rfl rfl rfl fun h hf => ?_
  repeat' (first
      | refine W.seq ?_ | refine W.region ?_ | refine WS.nil ?_ | refine W.skip ?_ | refine W.block ?_ | refine W.ret ?_ | refine W.yes rfl rfl ?_ | refine W.no rfl rfl ?_ | refine W.fork rfl (fun _ => ?_) (fun _ => ?_) | refine WS.guardT rfl ?_ | refine WS.guardF rfl rfl rfl ?_ | refine WS.guardK rfl (fun _ => ?_) (fun _ => ?_) | refine WS.near rfl o_mov rfl ?_ | refine WS.near rfl o_pickT rfl ?_ | refine WS.near rfl o_pickF rfl ?_ | refine WS.near rfl o_lss rfl ?_ | refine WS.near rfl o_gtr rfl ?_ | refine WS.near rfl o_faddr rfl ?_ | refine WS.near rfl (o_loadH rfl) rfl ?_ | refine WS.near rfl (o_boxH 0 rfl) rfl ?_ | refine WS.near rfl (o_add (by omega) (by omega)) rfl ?_ | refine WS.near rfl (o_sub (by omega) (by omega)) rfl ?_ | refine WS.near rfl (o_conv (by omega) (by omega)) rfl ?_)
  all_goals exact ⟨_, rfl, fin_int (by unfold cutIn; omega)⟩
theorem add_pu {a b : Int} (ha : In64 a) (hb : In64 b) : PuF D1 33 [i64 a, i64 b] (i64 (sat (a + b))) := by
  unfold In64 at ha hb
  refine PuF.tidy rfl rfl rfl rfl rfl fun h hf => ?_
  repeat' (first
      | refine W.seq ?_ | refine W.region ?_ | refine WS.nil ?_ | refine W.skip ?_ | refine W.block ?_ | refine W.ret ?_ | refine W.yes rfl rfl ?_ | refine W.no rfl rfl ?_ | refine W.fork rfl (fun _ => ?_) (fun _ => ?_) | refine WS.guardT rfl ?_ | refine WS.guardF rfl rfl rfl ?_ | refine WS.guardK rfl (fun _ => ?_) (fun _ => ?_) | refine WS.near rfl o_mov rfl ?_ | refine WS.near rfl o_pickT rfl ?_ | refine WS.near rfl o_pickF rfl ?_ | refine WS.near rfl o_lss rfl ?_ | refine WS.near rfl o_gtr rfl ?_ | refine WS.near rfl o_faddr rfl ?_ | refine WS.near rfl (o_loadH rfl) rfl ?_ | refine WS.near rfl (o_boxH 0 rfl) rfl ?_ | refine WS.near rfl (o_add (by omega) (by omega)) rfl ?_ | refine WS.near rfl (o_sub (by omega) (by omega)) rfl ?_ | refine WS.near rfl (o_conv (by omega) (by omega)) rfl ?_)
  all_goals exact ⟨_, rfl, fin_int (by unfold sat; omega)⟩
theorem addR_pu {a b : Int} (ha : In64 a) (hb : In64 b) : PuF D1 38 [i64 a, i64 b] (i64 (sat (a + b))) := by
  unfold In64 at ha hb
  refine PuF.tidy rfl rfl rfl rfl rfl fun h hf => ?_
  repeat' (first
      | refine W.seq ?_ | refine W.region ?_ | refine WS.nil ?_ | refine W.skip ?_ | refine W.block ?_ | refine W.ret ?_ | refine W.yes rfl rfl ?_ | refine W.no rfl rfl ?_ | refine W.fork rfl (fun _ => ?_) (fun _ => ?_) | refine WS.guardT rfl ?_ | refine WS.guardF rfl rfl rfl ?_ | refine WS.guardK rfl (fun _ => ?_) (fun _ => ?_) | refine WS.near rfl o_mov rfl ?_ | refine WS.near rfl o_pickT rfl ?_ | refine WS.near rfl o_pickF rfl ?_ | refine WS.near rfl o_lss rfl ?_ | refine WS.near rfl o_gtr rfl ?_ | refine WS.near rfl o_faddr rfl ?_ | refine WS.near rfl (o_loadH rfl) rfl ?_ | refine WS.near rfl (o_boxH 0 rfl) rfl ?_ | refine WS.near rfl (o_add (by omega) (by omega)) rfl ?_ | refine WS.near rfl (o_sub (by omega) (by omega)) rfl ?_ | refine WS.near rfl (o_conv (by omega) (by omega)) rfl ?_)
  all_goals exact ⟨_, rfl, fin_int (by unfold sat; omega)⟩
theorem sub_pu {a b : Int} (ha : In64 a) (hb : In64 b) : PuF D1 116 [i64 a, i64 b] (i64 (sat (a - b))) := by
  unfold In64 at ha hb
  refine PuF.tidy rfl rfl rfl rfl rfl fun h hf => ?_
  repeat' (first
      | refine W.seq ?_ | refine W.region ?_ | refine WS.nil ?_ | refine W.skip ?_ | refine W.block ?_ | refine W.ret ?_ | refine W.yes rfl rfl ?_ | refine W.no rfl rfl ?_ | refine W.fork rfl (fun _ => ?_) (fun _ => ?_) | refine WS.guardT rfl ?_ | refine WS.guardF rfl rfl rfl ?_ | refine WS.guardK rfl (fun _ => ?_) (fun _ => ?_) | refine WS.near rfl o_mov rfl ?_ | refine WS.near rfl o_pickT rfl ?_ | refine WS.near rfl o_pickF rfl ?_ | refine WS.near rfl o_lss rfl ?_ | refine WS.near rfl o_gtr rfl ?_ | refine WS.near rfl o_faddr rfl ?_ | refine WS.near rfl (o_loadH rfl) rfl ?_ | refine WS.near rfl (o_boxH 0 rfl) rfl ?_ | refine WS.near rfl (o_add (by omega) (by omega)) rfl ?_ | refine WS.near rfl (o_sub (by omega) (by omega)) rfl ?_ | refine WS.near rfl (o_conv (by omega) (by omega)) rfl ?_)
  all_goals exact ⟨_, rfl, fin_int (by unfold sat; omega)⟩
theorem subR_pu {a b : Int} (ha : In64 a) (hb : In64 b) : PuF D1 69 [i64 a, i64 b] (i64 (sat (a - b))) := by
  unfold In64 at ha hb
  refine PuF.tidy rfl rfl rfl rfl rfl fun h hf => ?_
  repeat' (first
      | refine W.seq ?_ | refine W.region ?_ | refine WS.nil ?_ | refine W.skip ?_ | refine W.block ?_ | refine W.ret ?_ | refine W.yes rfl rfl ?_ | refine W.no rfl rfl ?_ | refine W.fork rfl (fun _ => ?_) (fun _ => ?_) | refine WS.guardT rfl ?_ | refine WS.guardF rfl rfl rfl ?_ | refine WS.guardK rfl (fun _ => ?_) (fun _ => ?_) | refine WS.near rfl o_mov rfl ?_ | refine WS.near rfl o_pickT rfl ?_ | refine WS.near rfl o_pickF rfl ?_ | refine WS.near rfl o_lss rfl ?_ | refine WS.near rfl o_gtr rfl ?_ | refine WS.near rfl o_faddr rfl ?_ | refine WS.near rfl (o_loadH rfl) rfl ?_ | refine WS.near rfl (o_boxH 0 rfl) rfl ?_ | refine WS.near rfl (o_add (by omega) (by omega)) rfl ?_ | refine WS.near rfl (o_sub (by omega) (by omega)) rfl ?_ | refine WS.near rfl (o_conv (by omega) (by omega)) rfl ?_)
  all_goals exact ⟨_, rfl, fin_int (by unfold sat; omega)⟩
theorem apart_pu {a b : Int} (ha : In64 a) (hb : In64 b) : PuF D1 64 [i64 a, i64 b] (i64 (apartF a b)) := by
  refine PuF.tidy rfl rfl rfl rfl rfl fun h hf => ?_
  repeat' (first
      | refine WS.near rfl o_max rfl ?_ | refine WS.near rfl o_min rfl ?_ | refine W.seq ?_ | refine W.region ?_ | refine WS.nil ?_ | refine W.skip ?_ | refine W.block ?_ | refine W.ret ?_ | refine W.yes rfl rfl ?_ | refine W.no rfl rfl ?_ | refine W.fork rfl (fun _ => ?_) (fun _ => ?_) | refine WS.guardT rfl ?_ | refine WS.guardF rfl rfl rfl ?_ | refine WS.guardK rfl (fun _ => ?_) (fun _ => ?_) | refine WS.near rfl o_mov rfl ?_ | refine WS.near rfl o_pickT rfl ?_ | refine WS.near rfl o_pickF rfl ?_ | refine WS.near rfl o_lss rfl ?_ | refine WS.near rfl o_gtr rfl ?_ | refine WS.near rfl o_faddr rfl ?_ | refine WS.near rfl (o_loadH rfl) rfl ?_ | refine WS.near rfl (o_boxH 0 rfl) rfl ?_ | refine WS.near rfl (o_add (by omega) (by omega)) rfl ?_ | refine WS.near rfl (o_sub (by omega) (by omega)) rfl ?_ | refine WS.near rfl (o_conv (by omega) (by omega)) rfl ?_)
  refine WS.puF hf rfl rfl (sub_pu (a := max a b) (b := min a b) (by unfold In64 at *; omega) (by unfold In64 at *; omega)) ?_
  repeat' (first
      | refine W.seq ?_ | refine W.region ?_ | refine WS.nil ?_ | refine W.skip ?_ | refine W.block ?_ | refine W.ret ?_ | refine W.yes rfl rfl ?_ | refine W.no rfl rfl ?_ | refine W.fork rfl (fun _ => ?_) (fun _ => ?_) | refine WS.guardT rfl ?_ | refine WS.guardF rfl rfl rfl ?_ | refine WS.guardK rfl (fun _ => ?_) (fun _ => ?_) | refine WS.near rfl o_mov rfl ?_ | refine WS.near rfl o_pickT rfl ?_ | refine WS.near rfl o_pickF rfl ?_ | refine WS.near rfl o_lss rfl ?_ | refine WS.near rfl o_gtr rfl ?_ | refine WS.near rfl o_faddr rfl ?_ | refine WS.near rfl (o_loadH rfl) rfl ?_ | refine WS.near rfl (o_boxH 0 rfl) rfl ?_ | refine WS.near rfl (o_add (by omega) (by omega)) rfl ?_ | refine WS.near rfl (o_sub (by omega) (by omega)) rfl ?_ | refine WS.near rfl (o_conv (by omega) (by omega)) rfl ?_)
  exact ⟨_, rfl, fin_int rfl⟩
/-- the size of a number, cut -/
def sizeF (n : Int) : Int := if n < 0 then sat (0 - n) else n
theorem sizeR_pu {n : Int} (hn : In64 n) : PuF D1 68 [i64 n] (i64 (sizeF n)) := by
  refine PuF.tidy rfl rfl rfl rfl rfl fun h hf => ?_
  repeat' (first
      | refine W.seq ?_ | refine W.region ?_ | refine WS.nil ?_ | refine W.skip ?_ | refine W.block ?_ | refine W.ret ?_ | refine W.yes rfl rfl ?_ | refine W.no rfl rfl ?_ | refine W.fork rfl (fun _ => ?_) (fun _ => ?_) | refine WS.guardT rfl ?_ | refine WS.guardF rfl rfl rfl ?_ | refine WS.guardK rfl (fun _ => ?_) (fun _ => ?_) | refine WS.near rfl o_mov rfl ?_ | refine WS.near rfl o_pickT rfl ?_ | refine WS.near rfl o_pickF rfl ?_ | refine WS.near rfl o_lss rfl ?_ | refine WS.near rfl o_gtr rfl ?_ | refine WS.near rfl o_faddr rfl ?_ | refine WS.near rfl (o_loadH rfl) rfl ?_ | refine WS.near rfl (o_boxH 0 rfl) rfl ?_ | refine WS.near rfl (o_add (by omega) (by omega)) rfl ?_ | refine WS.near rfl (o_sub (by omega) (by omega)) rfl ?_ | refine WS.near rfl (o_conv (by omega) (by omega)) rfl ?_)
  · rename_i hlt
    refine WS.puF hf rfl rfl (subR_pu (a := 0) (b := n) (by unfold In64; omega) hn) ?_
    repeat' (first
        | refine W.seq ?_ | refine W.region ?_ | refine WS.nil ?_ | refine W.skip ?_ | refine W.block ?_ | refine W.ret ?_ | refine W.yes rfl rfl ?_ | refine W.no rfl rfl ?_ | refine W.fork rfl (fun _ => ?_) (fun _ => ?_) | refine WS.guardT rfl ?_ | refine WS.guardF rfl rfl rfl ?_ | refine WS.guardK rfl (fun _ => ?_) (fun _ => ?_) | refine WS.near rfl o_mov rfl ?_ | refine WS.near rfl o_pickT rfl ?_ | refine WS.near rfl o_pickF rfl ?_ | refine WS.near rfl o_lss rfl ?_ | refine WS.near rfl o_gtr rfl ?_ | refine WS.near rfl o_faddr rfl ?_ | refine WS.near rfl (o_loadH rfl) rfl ?_ | refine WS.near rfl (o_boxH 0 rfl) rfl ?_ | refine WS.near rfl (o_add (by omega) (by omega)) rfl ?_ | refine WS.near rfl (o_sub (by omega) (by omega)) rfl ?_ | refine WS.near rfl (o_conv (by omega) (by omega)) rfl ?_)
    exact ⟨_, rfl, fin_int (by unfold sizeF; rw [if_pos hlt])⟩
  · rename_i hlt
    exact ⟨_, rfl, fin_int (by unfold sizeF; rw [if_neg hlt])⟩
theorem sizeU_pu {n : Int} (h0 : 0 ≤ n) (hn : In64 n) : PuF D1 118 [i64 n] (.int .u64 n) := by
  unfold In64 at hn
  refine PuF.tidy rfl rfl rfl rfl rfl fun h hf => ?_
  repeat' (first
      | refine W.seq ?_ | refine W.region ?_ | refine WS.nil ?_ | refine W.skip ?_ | refine W.block ?_ | refine W.ret ?_ | refine W.yes rfl rfl ?_ | refine W.no rfl rfl ?_ | refine W.fork rfl (fun _ => ?_) (fun _ => ?_) | refine WS.guardT rfl ?_ | refine WS.guardF rfl rfl rfl ?_ | refine WS.guardK rfl (fun _ => ?_) (fun _ => ?_) | refine WS.near rfl o_mov rfl ?_ | refine WS.near rfl o_pickT rfl ?_ | refine WS.near rfl o_pickF rfl ?_ | refine WS.near rfl o_lss rfl ?_ | refine WS.near rfl o_gtr rfl ?_ | refine WS.near rfl o_faddr rfl ?_ | refine WS.near rfl (o_loadH rfl) rfl ?_ | refine WS.near rfl (o_boxH 0 rfl) rfl ?_ | refine WS.near rfl (o_add (by omega) (by omega)) rfl ?_ | refine WS.near rfl (o_sub (by omega) (by omega)) rfl ?_ | refine WS.near rfl (o_conv (by omega) (by omega)) rfl ?_)
  · omega
  refine WS.near rfl (o_convU h0 (by omega)) rfl ?_
  repeat' (first
      | refine W.seq ?_ | refine W.region ?_ | refine WS.nil ?_ | refine W.skip ?_ | refine W.block ?_ | refine W.ret ?_ | refine W.yes rfl rfl ?_ | refine W.no rfl rfl ?_ | refine W.fork rfl (fun _ => ?_) (fun _ => ?_) | refine WS.guardT rfl ?_ | refine WS.guardF rfl rfl rfl ?_ | refine WS.guardK rfl (fun _ => ?_) (fun _ => ?_) | refine WS.near rfl o_mov rfl ?_ | refine WS.near rfl o_pickT rfl ?_ | refine WS.near rfl o_pickF rfl ?_ | refine WS.near rfl o_lss rfl ?_ | refine WS.near rfl o_gtr rfl ?_ | refine WS.near rfl o_faddr rfl ?_ | refine WS.near rfl (o_loadH rfl) rfl ?_ | refine WS.near rfl (o_boxH 0 rfl) rfl ?_ | refine WS.near rfl (o_add (by omega) (by omega)) rfl ?_ | refine WS.near rfl (o_sub (by omega) (by omega)) rfl ?_ | refine WS.near rfl (o_conv (by omega) (by omega)) rfl ?_)
  exact ⟨_, rfl, fin_int rfl⟩
theorem signed_pu {x : Int} {b : Bool} (h0 : 0 ≤ x) (h1 : x < 18446744073709551616) (hb : b = false) : PuF D1 119 [.int .u64 x, .bool b] (i64 (sat x)) := by
  subst hb
  refine PuF.tidy rfl rfl rfl rfl rfl fun h hf => ?_
  repeat' (first
      | refine W.seq ?_ | refine W.region ?_ | refine WS.nil ?_ | refine W.skip ?_ | refine W.block ?_ | refine W.ret ?_ | refine W.yes rfl rfl ?_ | refine W.no rfl rfl ?_ | refine W.fork rfl (fun _ => ?_) (fun _ => ?_) | refine WS.guardT rfl ?_ | refine WS.guardF rfl rfl rfl ?_ | refine WS.guardK rfl (fun _ => ?_) (fun _ => ?_) | refine WS.near rfl o_mov rfl ?_ | refine WS.near rfl o_pickT rfl ?_ | refine WS.near rfl o_pickF rfl ?_ | refine WS.near rfl o_lss rfl ?_ | refine WS.near rfl o_gtr rfl ?_ | refine WS.near rfl o_faddr rfl ?_ | refine WS.near rfl (o_loadH rfl) rfl ?_ | refine WS.near rfl (o_boxH 0 rfl) rfl ?_ | refine WS.near rfl (o_add (by omega) (by omega)) rfl ?_ | refine WS.near rfl (o_sub (by omega) (by omega)) rfl ?_ | refine WS.near rfl (o_conv (by omega) (by omega)) rfl ?_)
  · exact ⟨_, rfl, fin_int (by unfold sat; omega)⟩
  · exact ⟨_, rfl, fin_int (by unfold sat; omega)⟩
theorem cost_pu {s nd mk : V} {n : Int} : PuF D1 66 [.agg [s, i64 n, nd, mk]] (i64 (costF n)) := by
  refine PuF.tidy rfl rfl rfl rfl rfl fun h hf => ?_
  repeat' (first
      | refine W.seq ?_ | refine W.region ?_ | refine WS.nil ?_ | refine W.skip ?_ | refine W.block ?_ | refine W.ret ?_ | refine W.yes rfl rfl ?_ | refine W.no rfl rfl ?_ | refine W.fork rfl (fun _ => ?_) (fun _ => ?_) | refine WS.guardT rfl ?_ | refine WS.guardF rfl rfl rfl ?_ | refine WS.guardK rfl (fun _ => ?_) (fun _ => ?_) | refine WS.near rfl o_mov rfl ?_ | refine WS.near rfl o_pickT rfl ?_ | refine WS.near rfl o_pickF rfl ?_ | refine WS.near rfl o_lss rfl ?_ | refine WS.near rfl o_gtr rfl ?_ | refine WS.near rfl o_faddr rfl ?_ | refine WS.near rfl (o_loadH rfl) rfl ?_ | refine WS.near rfl (o_boxH 0 rfl) rfl ?_ | refine WS.near rfl (o_add (by omega) (by omega)) rfl ?_ | refine WS.near rfl (o_sub (by omega) (by omega)) rfl ?_ | refine WS.near rfl (o_conv (by omega) (by omega)) rfl ?_)
  refine WS.puF hf rfl rfl (within_pu n 1 1000) ?_
  repeat' (first
      | refine W.seq ?_ | refine W.region ?_ | refine WS.nil ?_ | refine W.skip ?_ | refine W.block ?_ | refine W.ret ?_ | refine W.yes rfl rfl ?_ | refine W.no rfl rfl ?_ | refine W.fork rfl (fun _ => ?_) (fun _ => ?_) | refine WS.guardT rfl ?_ | refine WS.guardF rfl rfl rfl ?_ | refine WS.guardK rfl (fun _ => ?_) (fun _ => ?_) | refine WS.near rfl o_mov rfl ?_ | refine WS.near rfl o_pickT rfl ?_ | refine WS.near rfl o_pickF rfl ?_ | refine WS.near rfl o_lss rfl ?_ | refine WS.near rfl o_gtr rfl ?_ | refine WS.near rfl o_faddr rfl ?_ | refine WS.near rfl (o_loadH rfl) rfl ?_ | refine WS.near rfl (o_boxH 0 rfl) rfl ?_ | refine WS.near rfl (o_add (by omega) (by omega)) rfl ?_ | refine WS.near rfl (o_sub (by omega) (by omega)) rfl ?_ | refine WS.near rfl (o_conv (by omega) (by omega)) rfl ?_)
  exact ⟨_, rfl, fin_int rfl⟩
theorem costR_pu {s nd mk : V} {n : Int} : PuF D1 72 [.agg [s, i64 n, nd, mk]] (i64 (costF n)) := by
  refine PuF.tidy rfl rfl rfl rfl rfl fun h hf => ?_
  repeat' (first
      | refine W.seq ?_ | refine W.region ?_ | refine WS.nil ?_ | refine W.skip ?_ | refine W.block ?_ | refine W.ret ?_ | refine W.yes rfl rfl ?_ | refine W.no rfl rfl ?_ | refine W.fork rfl (fun _ => ?_) (fun _ => ?_) | refine WS.guardT rfl ?_ | refine WS.guardF rfl rfl rfl ?_ | refine WS.guardK rfl (fun _ => ?_) (fun _ => ?_) | refine WS.near rfl o_mov rfl ?_ | refine WS.near rfl o_pickT rfl ?_ | refine WS.near rfl o_pickF rfl ?_ | refine WS.near rfl o_lss rfl ?_ | refine WS.near rfl o_gtr rfl ?_ | refine WS.near rfl o_faddr rfl ?_ | refine WS.near rfl (o_loadH rfl) rfl ?_ | refine WS.near rfl (o_boxH 0 rfl) rfl ?_ | refine WS.near rfl (o_add (by omega) (by omega)) rfl ?_ | refine WS.near rfl (o_sub (by omega) (by omega)) rfl ?_ | refine WS.near rfl (o_conv (by omega) (by omega)) rfl ?_)
  refine WS.puF hf rfl rfl (withinR_pu n 1 1000) ?_
  repeat' (first
      | refine W.seq ?_ | refine W.region ?_ | refine WS.nil ?_ | refine W.skip ?_ | refine W.block ?_ | refine W.ret ?_ | refine W.yes rfl rfl ?_ | refine W.no rfl rfl ?_ | refine W.fork rfl (fun _ => ?_) (fun _ => ?_) | refine WS.guardT rfl ?_ | refine WS.guardF rfl rfl rfl ?_ | refine WS.guardK rfl (fun _ => ?_) (fun _ => ?_) | refine WS.near rfl o_mov rfl ?_ | refine WS.near rfl o_pickT rfl ?_ | refine WS.near rfl o_pickF rfl ?_ | refine WS.near rfl o_lss rfl ?_ | refine WS.near rfl o_gtr rfl ?_ | refine WS.near rfl o_faddr rfl ?_ | refine WS.near rfl (o_loadH rfl) rfl ?_ | refine WS.near rfl (o_boxH 0 rfl) rfl ?_ | refine WS.near rfl (o_add (by omega) (by omega)) rfl ?_ | refine WS.near rfl (o_sub (by omega) (by omega)) rfl ?_ | refine WS.near rfl (o_conv (by omega) (by omega)) rfl ?_)
  exact ⟨_, rfl, fin_int rfl⟩
end Go.Proofs.YtpaadclighadaaaDoor.CodesG
