/- All texts, checked by the kernel. -/
import Derived.Test.YtfbikhkmamdjmaaDoorWXL
namespace Go.Proofs.YtfbikhkmamdjmaaDoor.CodesX
open Go Go.Ab
set_option maxRecDepth 100000
def allUp (p : Nat → Bool) (a : Nat) : Nat → Bool
  | 0 => true
  | k + 1 => match p (a + k) with
    | true => allUp p a k
    | false => false
theorem allUp_spec {p : Nat → Bool} {a : Nat} : ∀ (k : Nat), allUp p a k = true → ∀ n, a ≤ n → n < a + k → p n = true
  | 0, _, n, h1, h2 => by omega
  | k + 1, h, n, h1, h2 => by
    unfold allUp at h
    split at h
    · rename_i hp
      by_cases he : n = a + k
      · subst he; exact hp
      · exact allUp_spec k h n h1 (by omega)
    · cases h
theorem e0x0 : allUp (checkT 0) 0 11 = true := by kernel_rfl
theorem e0x11 : allUp (checkT 0) 11 11 = true := by kernel_rfl
theorem e0x22 : allUp (checkT 0) 22 11 = true := by kernel_rfl
theorem e0x33 : allUp (checkT 0) 33 11 = true := by kernel_rfl
theorem e0x44 : allUp (checkT 0) 44 11 = true := by kernel_rfl
theorem e0x55 : allUp (checkT 0) 55 11 = true := by kernel_rfl
theorem e0x66 : allUp (checkT 0) 66 11 = true := by kernel_rfl
theorem e0x77 : allUp (checkT 0) 77 11 = true := by kernel_rfl
theorem e0x88 : allUp (checkT 0) 88 11 = true := by kernel_rfl
theorem e0x99 : allUp (checkT 0) 99 11 = true := by kernel_rfl
theorem e0x110 : allUp (checkT 0) 110 11 = true := by kernel_rfl
theorem e1x0 : allUp (checkT 1) 0 11 = true := by kernel_rfl
theorem e1x11 : allUp (checkT 1) 11 11 = true := by kernel_rfl
theorem e1x22 : allUp (checkT 1) 22 11 = true := by kernel_rfl
theorem e1x33 : allUp (checkT 1) 33 11 = true := by kernel_rfl
theorem e1x44 : allUp (checkT 1) 44 11 = true := by kernel_rfl
theorem e1x55 : allUp (checkT 1) 55 11 = true := by kernel_rfl
theorem e1x66 : allUp (checkT 1) 66 11 = true := by kernel_rfl
theorem e1x77 : allUp (checkT 1) 77 11 = true := by kernel_rfl
theorem e1x88 : allUp (checkT 1) 88 11 = true := by kernel_rfl
theorem e1x99 : allUp (checkT 1) 99 11 = true := by kernel_rfl
theorem e1x110 : allUp (checkT 1) 110 11 = true := by kernel_rfl
theorem e2x0 : allUp (checkT 2) 0 11 = true := by kernel_rfl
theorem e2x11 : allUp (checkT 2) 11 11 = true := by kernel_rfl
theorem e2x22 : allUp (checkT 2) 22 11 = true := by kernel_rfl
theorem e2x33 : allUp (checkT 2) 33 11 = true := by kernel_rfl
theorem e2x44 : allUp (checkT 2) 44 11 = true := by kernel_rfl
theorem e2x55 : allUp (checkT 2) 55 11 = true := by kernel_rfl
theorem e2x66 : allUp (checkT 2) 66 11 = true := by kernel_rfl
theorem e2x77 : allUp (checkT 2) 77 11 = true := by kernel_rfl
theorem e2x88 : allUp (checkT 2) 88 11 = true := by kernel_rfl
theorem e2x99 : allUp (checkT 2) 99 11 = true := by kernel_rfl
theorem e2x110 : allUp (checkT 2) 110 11 = true := by kernel_rfl
theorem e3x0 : allUp (checkT 3) 0 11 = true := by kernel_rfl
theorem e3x11 : allUp (checkT 3) 11 11 = true := by kernel_rfl
theorem e3x22 : allUp (checkT 3) 22 11 = true := by kernel_rfl
theorem e3x33 : allUp (checkT 3) 33 11 = true := by kernel_rfl
theorem e3x44 : allUp (checkT 3) 44 11 = true := by kernel_rfl
theorem e3x55 : allUp (checkT 3) 55 11 = true := by kernel_rfl
theorem e3x66 : allUp (checkT 3) 66 11 = true := by kernel_rfl
theorem e3x77 : allUp (checkT 3) 77 11 = true := by kernel_rfl
theorem e3x88 : allUp (checkT 3) 88 11 = true := by kernel_rfl
theorem e3x99 : allUp (checkT 3) 99 11 = true := by kernel_rfl
theorem e3x110 : allUp (checkT 3) 110 11 = true := by kernel_rfl
theorem all_checks (w : Nat) (hw : w ≤ 3) (n : Nat) (hn : n ≤ 120) : checkT w n = true := by
  by_cases h0 : w = 0
  · subst h0
    by_cases h : n < 11
    · exact allUp_spec 11 e0x0 n (by omega) (by omega)
    by_cases h : n < 22
    · exact allUp_spec 11 e0x11 n (by omega) (by omega)
    by_cases h : n < 33
    · exact allUp_spec 11 e0x22 n (by omega) (by omega)
    by_cases h : n < 44
    · exact allUp_spec 11 e0x33 n (by omega) (by omega)
    by_cases h : n < 55
    · exact allUp_spec 11 e0x44 n (by omega) (by omega)
    by_cases h : n < 66
    · exact allUp_spec 11 e0x55 n (by omega) (by omega)
    by_cases h : n < 77
    · exact allUp_spec 11 e0x66 n (by omega) (by omega)
    by_cases h : n < 88
    · exact allUp_spec 11 e0x77 n (by omega) (by omega)
    by_cases h : n < 99
    · exact allUp_spec 11 e0x88 n (by omega) (by omega)
    by_cases h : n < 110
    · exact allUp_spec 11 e0x99 n (by omega) (by omega)
    exact allUp_spec 11 e0x110 n (by omega) (by omega)
  by_cases h1 : w = 1
  · subst h1
    by_cases h : n < 11
    · exact allUp_spec 11 e1x0 n (by omega) (by omega)
    by_cases h : n < 22
    · exact allUp_spec 11 e1x11 n (by omega) (by omega)
    by_cases h : n < 33
    · exact allUp_spec 11 e1x22 n (by omega) (by omega)
    by_cases h : n < 44
    · exact allUp_spec 11 e1x33 n (by omega) (by omega)
    by_cases h : n < 55
    · exact allUp_spec 11 e1x44 n (by omega) (by omega)
    by_cases h : n < 66
    · exact allUp_spec 11 e1x55 n (by omega) (by omega)
    by_cases h : n < 77
    · exact allUp_spec 11 e1x66 n (by omega) (by omega)
    by_cases h : n < 88
    · exact allUp_spec 11 e1x77 n (by omega) (by omega)
    by_cases h : n < 99
    · exact allUp_spec 11 e1x88 n (by omega) (by omega)
    by_cases h : n < 110
    · exact allUp_spec 11 e1x99 n (by omega) (by omega)
    exact allUp_spec 11 e1x110 n (by omega) (by omega)
  by_cases h2 : w = 2
  · subst h2
    by_cases h : n < 11
    · exact allUp_spec 11 e2x0 n (by omega) (by omega)
    by_cases h : n < 22
    · exact allUp_spec 11 e2x11 n (by omega) (by omega)
    by_cases h : n < 33
    · exact allUp_spec 11 e2x22 n (by omega) (by omega)
    by_cases h : n < 44
    · exact allUp_spec 11 e2x33 n (by omega) (by omega)
    by_cases h : n < 55
    · exact allUp_spec 11 e2x44 n (by omega) (by omega)
    by_cases h : n < 66
    · exact allUp_spec 11 e2x55 n (by omega) (by omega)
    by_cases h : n < 77
    · exact allUp_spec 11 e2x66 n (by omega) (by omega)
    by_cases h : n < 88
    · exact allUp_spec 11 e2x77 n (by omega) (by omega)
    by_cases h : n < 99
    · exact allUp_spec 11 e2x88 n (by omega) (by omega)
    by_cases h : n < 110
    · exact allUp_spec 11 e2x99 n (by omega) (by omega)
    exact allUp_spec 11 e2x110 n (by omega) (by omega)
  by_cases h3 : w = 3
  · subst h3
    by_cases h : n < 11
    · exact allUp_spec 11 e3x0 n (by omega) (by omega)
    by_cases h : n < 22
    · exact allUp_spec 11 e3x11 n (by omega) (by omega)
    by_cases h : n < 33
    · exact allUp_spec 11 e3x22 n (by omega) (by omega)
    by_cases h : n < 44
    · exact allUp_spec 11 e3x33 n (by omega) (by omega)
    by_cases h : n < 55
    · exact allUp_spec 11 e3x44 n (by omega) (by omega)
    by_cases h : n < 66
    · exact allUp_spec 11 e3x55 n (by omega) (by omega)
    by_cases h : n < 77
    · exact allUp_spec 11 e3x66 n (by omega) (by omega)
    by_cases h : n < 88
    · exact allUp_spec 11 e3x77 n (by omega) (by omega)
    by_cases h : n < 99
    · exact allUp_spec 11 e3x88 n (by omega) (by omega)
    by_cases h : n < 110
    · exact allUp_spec 11 e3x99 n (by omega) (by omega)
    exact allUp_spec 11 e3x110 n (by omega) (by omega)
  omega
end Go.Proofs.YtfbikhkmamdjmaaDoor.CodesX
