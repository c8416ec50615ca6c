/- The kinds of expressions: by the document, behind the parts. -/
import Derived.Test.YtfbikhkmamdjmaaDoorWK7
namespace Go.Proofs.YtfbikhkmamdjmaaDoor.CodesK
open Go Go.Ab
set_option maxHeartbeats 8000000
set_option maxRecDepth 100000

theorem o_eqlF {k : IntKind} {a b : Int} {h : Heap} (hab : (a == b) = false) : Does (.bin .eql (.v (.int k a)) (.v (.int k b))) h (.bool false) h := by
  have e : decide (a = b) = false := by simpa using hab
  rw [← e]; exact o_eql
theorem o_eqlN {k : IntKind} {a b : Int} {h : Heap} (hab : ¬ a = b) : Does (.bin .eql (.v (.int k a)) (.v (.int k b))) h (.bool false) h := by
  have e : decide (a = b) = false := decide_eq_false hab
  rw [← e]; exact o_eql
theorem o_eqlT {k : IntKind} {a : Int} {h : Heap} : Does (.bin .eql (.v (.int k a)) (.v (.int k a))) h (.bool true) h := by
  have e : decide (a = a) = true := by simp
  rw [← e]; exact o_eql
/-- the code behind the parts -/
def tailOf : ACode → Option ACode
  | .seq (.region (⟨some 28, o, g, c⟩ :: l)) r => some (.seq (.region (⟨some 28, o, g, c⟩ :: l)) r)
  | .seq a b => match tailOf b with
    | some t => some t
    | none => tailOf a
  | _ => none
def tail40 : ACode := (tailOf c40.body).getD .skip
def endK (k a b : Int) : Int × Int := if (jn k a b).2 = true then ((jn k a b).1, 0) else (0, 7)
def Tail (k : Int) : Prop := ∀ (u : V) (n : Int) (s : List Nat) (ux : V) (a b : Int) (h : Heap), h.Fine → W D2 (capOfD c40.dep) tail40 [(1, u), (2, .mptr (h.next + 0) 0), (5, .mptr (h.next + 1) 0)] (hp h [some [i64 k, i64 n, .str s, ux], some [i64 a, i64 b]]) (doneW c40.results (fin h (.tup [i64 (endK k a b).1, i64 (endK k a b).2])))
end Go.Proofs.YtfbikhkmamdjmaaDoor.CodesK
