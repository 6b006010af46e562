/- Bytes as a text; unlike pointers' bytes. -/
import Derived.Test.YtgmdhedabmkcoaaPtrO
set_option linter.unusedSimpArgs false
namespace Go.Proofs.Ytgmdhedabmkcoaa
open Go.RowKit

theorem toStr (w : World) (v : Value) (l : List UInt8) (h : IsBytes w v l) : (convert 76 9 v).run Try.prog w = .ok (.string (strOf l)) w :=
  run_string_of_bytes 76 5 Try.underlying76 Try.underlying5 9 Try.underlying9 w v l h
theorem good_put (p : PtrD) (hp : p.wf) (hg : goodB p = true) : okPut ptrWs (ptrNs p) ∧ p.loc = (p.loc.toNat : Int) := by
  obtain ⟨l, b, s⟩ := p
  obtain ⟨n, rfl, hn⟩ := good_nat hg
  exact ⟨okPut_ptr n b s hn hp.2.1 hp.2.2, by simp⟩
theorem ptrBytes_inj (p q : PtrD) (hp : p.wf) (hq : q.wf) (gp : goodB p = true) (gq : goodB q = true) : ptrBytes p = ptrBytes q ↔ p = q := by
  constructor
  · intro h
    have h1 := good_put p hp gp
    have h2 := good_put q hq gq
    have h3 := putBytes_inj ptrWs _ _ h1.1 h2.1 h
    obtain ⟨l, b, s⟩ := p
    obtain ⟨l2, b2, s2⟩ := q
    simp [ptrNs] at h3 h1 h2
    obtain ⟨e1, e2, e3⟩ := h3
    simp only [PtrD.mk.injEq]
    refine ⟨?_, e2, e3⟩
    omega
  · rintro rfl; rfl
end Go.Proofs.Ytgmdhedabmkcoaa
