/- dead.Merge: the walk. -/
import Derived.Test.YthbfhlphclgnaaaDeadS
set_option linter.unusedSimpArgs false
namespace Go.Proofs.Ythbfhlphclgnaaa
open Go.RowKit Go.Sort

/-- What Merge makes of two lists. -/
def mergeF : List PtrD → List PtrD → Option (List PtrD)
  | [], b => some b
  | a, [] => some a
  | x :: a, y :: b => if lessB x y = true then (mergeF a (y :: b)).map (x :: ·) else if lessB y x = true then (mergeF (x :: a) b).map (y :: ·) else none
termination_by a b => a.length + b.length

theorem merge_nil (b : List PtrD) : mergeF [] b = some b := by unfold mergeF; rfl
theorem merge_nil2 (a : List PtrD) : mergeF a [] = some a := by
  cases a with
  | nil => exact merge_nil []
  | cons x a => unfold mergeF; rfl
theorem merge_step (a b : List PtrD) (ha : 0 < a.length) (hb : 0 < b.length) : mergeF a b = if lessB a[0] b[0] = true then (mergeF (a.drop 1) b).map (a[0] :: ·) else if lessB b[0] a[0] = true then (mergeF a (b.drop 1)).map (b[0] :: ·) else none := by
  cases a with
  | nil => simp at ha
  | cons x a =>
    cases b with
    | nil => simp at hb
    | cons y b => rw [mergeF]; rfl
def lenV : Value → Nat
  | .slice _ n _ => n
  | _ => 0
def MergePost (o : Option (List PtrD)) (w : World) (e : Ending) (w' : World) : Prop :=
  (o = none ∧ e = .returned (.tuple #[.slice none 0 0, .int .i64 131]) ∧ Up w w') ∨ ∃ m u, o = some m ∧ e = .returned (.tuple #[u, .int .i64 0]) ∧ OwnPtrs w' w.heap.size u m ∧ Up w w'

end Go.Proofs.Ythbfhlphclgnaaa
