/- A record (api.Set) in memory: what it holds; its cells. -/
import Derived.Test.YthbfhlphclgnaaaDeadT
import Derived.Test.YthbfhlphclgnaaaDeadR
import Derived.Test.YthbfhlphclgnaaaName
import Derived.Test.YthbfhlphclgnaaaGate
set_option linter.unusedSimpArgs false
set_option linter.unusedVariables false
namespace Go.Proofs.Ythbfhlphclgnaaa
open Go.RowKit Go.Sort

structure SetD where
  id : Nat
  name : List UInt8
  snap : Bool
  owner : Nat
  prev : Nat
  stamp : Nat
  blocks : Int
  root : PtrD
  dead : List PtrD
deriving DecidableEq
def SetD.wf (x : SetD) : Prop := x.id < 18446744073709551616 ∧ x.owner < 18446744073709551616 ∧ x.prev < 18446744073709551616 ∧ x.stamp < 18446744073709551616 ∧ (-9223372036854775808 ≤ x.blocks ∧ x.blocks ≤ 9223372036854775807) ∧ x.root.wf ∧ ∀ p ∈ x.dead, p.wf
def setC (x : SetD) (vd : Value) : Array Value :=
  #[.int .u64 (x.id : Int), .string (strOf x.name), .bool x.snap, .int .u64 (x.owner : Int), .int .u64 (x.prev : Int), .int .u64 (x.stamp : Int), .int .i64 x.blocks, .int .i64 x.root.loc, .int .u64 (x.root.birth : Int), .int .u32 (x.root.sum : Int), vd]
theorem setC_size (x : SetD) (vd : Value) : (setC x vd).size = 11 := rfl
theorem setC_one (x : SetD) (a : Option Addr) (n c : Nat) : (setC x (.slice a n c)).all (·.oneCell') = true := by simp [setC, Value.oneCell']
theorem info_setV (x : SetD) (vd : Value) : (Try.prog.info? 44).map (·.size) = some (setC x vd).size := by rw [setC_size]; kernel_rfl
theorem info_pcA (p : PtrD) : (Try.prog.info? 41).map (·.size) = some (pcA p).size := by kernel_rfl
/-- The cells of a record that lies in a block of its own. -/
structure SetAt (w : World) (g : Nat) (x : SetD) (vd : Value) : Prop where
  c0 : w.cell? ⟨g, 0, none⟩ = some (.int .u64 (x.id : Int))
  c1 : w.cell? ⟨g, 1, none⟩ = some (.string (strOf x.name))
  c2 : w.cell? ⟨g, 2, none⟩ = some (.bool x.snap)
  c3 : w.cell? ⟨g, 3, none⟩ = some (.int .u64 (x.owner : Int))
  c4 : w.cell? ⟨g, 4, none⟩ = some (.int .u64 (x.prev : Int))
  c5 : w.cell? ⟨g, 5, none⟩ = some (.int .u64 (x.stamp : Int))
  c6 : w.cell? ⟨g, 6, none⟩ = some (.int .i64 x.blocks)
  c7 : w.rangeAt g 7 (pcA x.root).toList
  c10 : w.cell? ⟨g, 10, none⟩ = some vd
theorem Blk.setAt {w : World} {g : Nat} {t : TypeId} {x : SetD} {vd : Value} (h : Blk w g t (setC x vd)) : SetAt w g x vd :=
  ⟨by rw [h.cell]; rfl, by rw [h.cell]; rfl, by rw [h.cell]; rfl, by rw [h.cell]; rfl, by rw [h.cell]; rfl, by rw [h.cell]; rfl, by rw [h.cell]; rfl, fun j v hj => by
    rw [h.cell]
    match j, hj with
    | 0, hj => exact hj
    | 1, hj => exact hj
    | 2, hj => exact hj
    | (n + 3), hj => simp [pcA] at hj, by rw [h.cell]; rfl⟩

/-- Which records can be. -/
def rightS (x : SetD) : Bool := decide (1 ≤ x.id) && decide (x.id ≤ 281474976710655) && decide (1 ≤ x.owner) && decide (x.owner ≤ 281474976710655) && decide (x.prev ≤ 281474976710655) && decide (1 ≤ x.blocks) && decide (x.blocks ≤ 64) && nameB x.name && goodB x.root &&
  decide (x.dead.length ≤ 4000) && rightB x.dead && (if x.snap = true then decide (1 ≤ x.stamp) && decide (x.stamp ≤ 281474976710655) else decide (x.stamp = 0) && decide (x.owner = x.id))
theorem rightS_iff (x : SetD) : rightS x = true ↔ (1 ≤ x.id ∧ x.id ≤ 281474976710655) ∧ (1 ≤ x.owner ∧ x.owner ≤ 281474976710655) ∧ x.prev ≤ 281474976710655 ∧ (1 ≤ x.blocks ∧ x.blocks ≤ 64) ∧ nameB x.name = true ∧ goodB x.root = true ∧ x.dead.length ≤ 4000 ∧ rightB x.dead = true ∧
    (if x.snap = true then 1 ≤ x.stamp ∧ x.stamp ≤ 281474976710655 else x.stamp = 0 ∧ x.owner = x.id) := by
  unfold rightS
  cases x.snap <;> simp [and_assoc]
end Go.Proofs.Ythbfhlphclgnaaa
