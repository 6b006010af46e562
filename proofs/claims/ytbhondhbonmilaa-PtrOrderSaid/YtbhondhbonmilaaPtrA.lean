/- The chapter's example. -/
import Derived.Test.YtbhondhbonmilaaPtrS
set_option linter.unusedSimpArgs false
namespace Go.Proofs.Ytbhondhbonmilaa
open Go.RowKit

def exBytes : List UInt8 := [9, 0, 0, 0, 2, 0, 0, 0, 0, 0, 0, 0, 7, 0, 0, 0]
theorem ex_read : readB exBytes = some ⟨9, 2, 7⟩ := by decide
theorem hole_wf : hole.wf := by unfold PtrD.wf hole; simp
theorem ptrBytes_length (p : PtrD) : (ptrBytes p).length = 16 := by
  rw [ptrBytes, putBytes_length _ _ rfl]; rfl
theorem lit16_le : 16 ≤ maxLen := by unfold maxLen; omega

set_option maxHeartbeats 2000000 in
theorem alive_any (w : World) :
    Calls Try.prog 9 #[] w fun e w' => BoolUp true w e w' := by
  go_enter Try.func9, Try.ntmps9
  go_wp2_with fail
  refine (bytes_any _ hole hole_wf).mono ?_
  rintro e w1 (⟨_, v1, rfl, ho1, up1⟩ | ⟨hno, _⟩)
  case inr => exact absurd hno (by decide)
  obtain ⟨a1, c1, rfl⟩ := ho1.ones.slice
  rw [ptrBytes_length]
  clear ho1
  go_wp2_with fail
  refine (read_any _ _ exBytes (IsOnes.litAt _ _ (by simp) _ _ _ exBytes 16 rfl lit16_le rfl)).mono ?_
  rintro e w2 (⟨p, hp, rfl, up2⟩ | ⟨hno, _⟩)
  case inr => rw [ex_read] at hno; simp at hno
  rw [ex_read] at hp
  simp only [Option.some.injEq] at hp
  subst hp
  unfold ptrV
  go_wp2_with fail
  refine (right_any _ ⟨9, 2, 7⟩).mono ?_
  rintro e w3 ⟨rfl, up3⟩
  have hg : goodB ⟨9, 2, 7⟩ = true := by decide
  rw [hg]
  go_wp2_with fail
  go_ret
  exact ⟨rfl, (up1.trans ((up_alloc _ _).trans up2)).trans ((up_alloc _ _).trans up3)⟩
end Go.Proofs.Ytbhondhbonmilaa
