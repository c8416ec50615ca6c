/- The program's parser of expressions: what it reads, or where and why it gives up. -/
import Derived.Test.YtfbikhkmamdjmaaDoorWX3
namespace Go.Proofs.YtfbikhkmamdjmaaDoor.CodesX
open Go Go.Ab
set_option maxHeartbeats 4000000
set_option maxRecDepth 20000
/-- the job's call -/
def Job.fn : Job → Nat
  | .level _ _ => 104
  | .loop _ _ _ => 0
  | .single _ => 156
  | .two _ _ _ => 237
  | .first _ => 206
theorem tail_suf {ts l : List Tk} {s : List Nat} (hs : Suf ts l) (h : isT s l = true) : Suf ts l.tail := by
  cases l with
  | nil => cases h
  | cons t l => exact hs.tail
/-- what is left behind a reading is left of the tokens -/
def PR.In {α : Type} (ts : List Tk) : PR α → Prop
  | .ok _ l => Suf ts l
  | .bad _ l => Suf ts l
  | .out => True
theorem bind_in {α β : Type} {ts : List Tk} {x : PR α} {f : α → List Tk → PR β} (h : x.In ts) (hf : ∀ a l, Suf ts l → (f a l).In ts) : (x.bind f).In ts := by
  cases x with
  | ok a l => exact hf a l h
  | bad e l => exact h
  | out => trivial
theorem of_in {ts : List Tk} {k : Nat} {l : List Tk} (h : Suf ts l) : (ofT k l).In ts := by
  unfold ofT
  cases l with
  | nil => exact h
  | cons t l =>
    simp only
    split
    · exact h.tail
    · exact h
theorem must_in {ts : List Tk} {s : List Nat} {l : List Tk} (h : Suf ts l) : (mustT s l).In ts := by
  unfold mustT
  cases hb : isT s l with
  | true => exact tail_suf h hb
  | false => exact h
theorem sign_in {ts : List Tk} {l : List Tk} (h : Suf ts l) : ∀ {ks : List Nat} {k : Nat} {l' : List Tk}, signT ks l = some (k, l') → Suf ts l'
  | [], _, _, e => by cases e
  | k0 :: ks, k, l', e => by
    unfold signT at e
    cases hb : isT (txT k0) l with
    | true =>
      simp only [hb] at e
      cases e
      exact tail_suf h hb
    | false =>
      simp only [hb] at e
      exact sign_in h e
theorem made_in {ts : List Tk} {k : Nat} {kids : List Rd} {l : List Tk} (h : Suf ts l) : (madeR k kids l).In ts := by
  rw [madeR_eq]
  split <;> exact h
theorem run_in {ts : List Tk} : ∀ (f : Nat) (j : Job) (l : List Tk), Suf ts l → (runR f j l).In ts
  | 0, _, _, _ => trivial
  | f + 1, .level n w, l, h => by
    unfold runR
    split
    · exact run_in f _ _ h
    · exact bind_in (run_in f _ _ h) fun x l h => run_in f _ _ h
  | f + 1, .loop n w x, l, h => by
    unfold runR
    split
    · exact h
    · rename_i k l' e
      refine bind_in (run_in f _ _ (sign_in h e)) fun y l h => bind_in (made_in h) fun z l h => ?_
      split
      · exact h
      · exact run_in f _ _ h
  | f + 1, .single w, l, h => by
    unfold runR
    split
    · exact h
    · split
      · rename_i k l' e
        exact bind_in (run_in f _ _ (sign_in h e)) fun y l h => made_in h
      · split
        · rename_i hb
          exact bind_in (of_in (tail_suf h hb)) fun t l h => h
        · exact run_in f _ _ h
  | f + 1, .two k x w, l, h => by
    unfold runR
    exact bind_in (must_in h) fun _ l h => bind_in (run_in f _ _ h) fun y l h => bind_in (must_in h) fun _ l h => made_in h
  | f + 1, .first w, l, h => by
    unfold runR
    split
    · exact bind_in (of_in h) fun t l h => h
    · split
      · exact bind_in (of_in h) fun t l h => h
      · split
        · rename_i hb; exact tail_suf h hb
        · split
          · rename_i hb; exact tail_suf h hb
          · split
            · rename_i hb; exact bind_in (of_in (tail_suf h hb)) fun t l h => h
            · split
              · rename_i hb; exact tail_suf h hb
              · split
                · rename_i hb; exact tail_suf h hb
                · split
                  · rename_i hb
                    exact bind_in (must_in (tail_suf h hb)) fun _ l h => bind_in (run_in f _ _ h) fun x l h => run_in f _ _ h
                  · refine bind_in (must_in h) fun _ l h => bind_in (run_in f _ _ h) fun x l h => ?_
                    split
                    · exact run_in f _ _ h
                    · exact bind_in (must_in h) fun _ l h => h
end Go.Proofs.YtfbikhkmamdjmaaDoor.CodesX
