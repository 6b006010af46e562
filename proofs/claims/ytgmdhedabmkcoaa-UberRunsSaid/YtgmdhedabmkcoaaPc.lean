/- A pointer's cells. -/
import Derived.Test.YtgmdhedabmkcoaaPtrO
import Derived.Test.YtgmdhedabmkcoaaRow
set_option linter.unusedSimpArgs false
namespace Go.Proofs.Ytgmdhedabmkcoaa
open Go.RowKit

def pcells (p : PtrD) : List Value := [.int .i64 p.loc, .int .u64 (p.birth : Int), .int .u32 (p.sum : Int)]
theorem pw : Wide pcells 3 := ⟨by omega, fun _ => rfl, fun x u hu => by
  simp [pcells] at hu
  rcases hu with rfl | rfl | rfl <;> rfl⟩
def pcA (p : PtrD) : Array Value := #[.int .i64 p.loc, .int .u64 (p.birth : Int), .int .u32 (p.sum : Int)]
theorem pcA_eq (p : PtrD) : pcA p = (pcells p).toArray := rfl
theorem info_ptr3 : (Try.prog.info? 25).map (fun i => (i.zero, i.size, i.bytes)) = some (some (.agg #[.int .i64 0, .int .u64 0, .int .u32 0]), 3, 24) := by kernel_rfl
/-- Two pointers that are the same? -/
theorem ptr_eqD (d : Nat) (p q : PtrD) (W : World) : (Op.equalIn (d + 2) 25 (ptrV p) (ptrV q)).run Try.prog W = .ok (decide (p = q)) W := by
  obtain ⟨l, b, s⟩ := p
  obtain ⟨l2, b2, s2⟩ := q
  unfold ptrV
  have e : decide ((⟨l, b, s⟩ : PtrD) = ⟨l2, b2, s2⟩) = ((l == l2) && (((b : Int) == (b2 : Int)) && ((s : Int) == (s2 : Int)))) := by
    rw [Bool.eq_iff_iff]; simp; omega
  rw [e]
  clear e
  rw [run_equalIn_struct W (d + 1) 25 _ _ (by kernel_rfl) (by kernel_rfl)]
  cases h : (l == l2) <;> cases h2 : ((b : Int) == (b2 : Int)) <;> cases h3 : ((s : Int) == (s2 : Int))
  all_goals go_simp
end Go.Proofs.Ytgmdhedabmkcoaa
