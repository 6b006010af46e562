/- Plain laws: there and back. -/
import Derived.Test.YtgmdhedabmkcoaaPtrT
set_option linter.unusedSimpArgs false
namespace Go.Proofs.Ytgmdhedabmkcoaa
open Go.RowKit

theorem ptrOf_bytes (p : PtrD) (hp : p.wf) (hg : goodB p = true) : readB (ptrBytes p) = some p := by
  have h1 := good_put p hp hg
  have hl : (ptrBytes p).length = 16 := by unfold ptrBytes; rw [putBytes_length _ _ rfl]; rfl
  have h2 : getNums ptrWs (ptrBytes p) = ptrNs p := get_put ptrWs (ptrNs p) h1.1.1 h1.1.2.2
  rw [getNums_ptr _ hl] at h2
  have h3 : ptrOf (ptrBytes p) = p := by
    obtain ⟨l, b, s⟩ := p
    simp [ptrNs] at h2
    obtain ⟨e1, e2, e3⟩ := h2
    have h4 := h1.2
    simp at h4
    unfold ptrOf
    rw [e2, e3]
    simp only [PtrD.mk.injEq, and_true]
    omega
  unfold readB
  rw [h3, if_pos ⟨hl, hg⟩]
theorem bytes_ptrOf (l : List UInt8) (p : PtrD) (h : readB l = some p) : p.wf ∧ goodB p = true ∧ ptrBytes p = l := by
  unfold readB at h
  split at h
  · rename_i hh
    simp only [Option.some.injEq] at h
    subst h
    have q1 : numVal (l.take 4) < 4294967296 := numVal_le (k := 4) (by simp; omega)
    have q2 : numVal ((l.drop 4).take 8) < 18446744073709551616 := numVal_le (k := 8) (by simp; omega)
    have q3 : numVal (l.drop 12) < 4294967296 := numVal_le (k := 4) (by simp; omega)
    refine ⟨⟨⟨?_, ?_⟩, q2, q3⟩, hh.2, ?_⟩
    · simp only [ptrOf]; omega
    · simp only [ptrOf]; omega
    · have h3 := put_get ptrWs l (by rw [hh.1]; rfl)
      rw [getNums_ptr l hh.1] at h3
      simpa [ptrBytes, ptrNs, ptrOf] using h3
  · cases h
end Go.Proofs.Ytgmdhedabmkcoaa
