/- Pointers as bytes, one behind the other: plain laws. -/
import Derived.Test.YthbfhlphclgnaaaPtrK
set_option linter.unusedSimpArgs false
namespace Go.Proofs.Ythbfhlphclgnaaa
open Go.RowKit

theorem ptrBytes_len (p : PtrD) : (ptrBytes p).length = 16 := by
  unfold ptrBytes; rw [putBytes_length _ _ rfl]; rfl
def bytesL (l : List PtrD) : List UInt8 := l.flatMap ptrBytes
theorem bytesL_length (l : List PtrD) : (bytesL l).length = 16 * l.length := by
  unfold bytesL
  induction l with
  | nil => rfl
  | cons x l ih => rw [List.flatMap_cons, List.length_append, ptrBytes_len, ih, List.length_cons]; omega
theorem bytesL_snoc (l : List PtrD) (k : Nat) (h : k < l.length) : bytesL (l.take (k + 1)) = bytesL (l.take k) ++ ptrBytes l[k] := by
  unfold bytesL; rw [List.take_succ_eq_append_getElem h, List.flatMap_append]; simp
def pieceB (b : List UInt8) (k : Nat) : List UInt8 := (b.drop (16 * k)).take 16
def readTo (b : List UInt8) : Nat → Option (List PtrD)
  | 0 => some []
  | k + 1 => match readTo b k with
    | none => none
    | some l => (readB (pieceB b k)).map (l ++ [·])
theorem readTo_none (b : List UInt8) (k : Nat) (h : readTo b k = none) : ∀ n, k ≤ n → readTo b n = none
  | 0, hn => by obtain rfl : k = 0 := by omega
                exact h
  | n + 1, hn => by
    by_cases e : k = n + 1
    · subst e; exact h
    · rw [readTo, readTo_none b k h n (by omega)]
theorem readTo_step {b : List UInt8} {k : Nat} {l : List PtrD} (h : readTo b k = some l) : readTo b (k + 1) = (readB (pieceB b k)).map (l ++ [·]) := by rw [readTo, h]
theorem readTo_length {b : List UInt8} : ∀ {k : Nat} {l : List PtrD}, readTo b k = some l → l.length = k
  | 0, l, h => by simp [readTo] at h; subst h; rfl
  | k + 1, l, h => by
    rw [readTo] at h
    cases h1 : readTo b k with
    | none => rw [h1] at h; cases h
    | some m =>
      rw [h1] at h
      simp only [Option.map_eq_some_iff] at h
      obtain ⟨p, _, rfl⟩ := h
      simp [readTo_length h1]
theorem piece_bytes (l : List PtrD) (k : Nat) (h : k < l.length) : pieceB (bytesL l) k = ptrBytes l[k] := by
  have e : bytesL l = bytesL (l.take k) ++ (ptrBytes l[k] ++ bytesL (l.drop (k + 1))) := by
    unfold bytesL
    rw [← List.flatMap_cons, ← List.drop_eq_getElem_cons h, ← List.flatMap_append, List.take_append_drop]
  have hl : (bytesL (l.take k)).length = 16 * k := by rw [bytesL_length, List.length_take]; omega
  unfold pieceB
  rw [e, List.drop_append_of_le_length (by omega), List.drop_of_length_le (by omega), List.nil_append, List.take_left' (ptrBytes_len _)]
theorem readTo_bytes (l : List PtrD) (hw : ∀ x ∈ l, x.wf) (hg : ∀ x ∈ l, goodB x = true) : ∀ k, k ≤ l.length → readTo (bytesL l) k = some (l.take k)
  | 0, _ => rfl
  | k + 1, hk => by
    rw [readTo_step (readTo_bytes l hw hg k (by omega)), piece_bytes l k (by omega), ptrOf_bytes _ (hw _ (List.getElem_mem _)) (hg _ (List.getElem_mem _)), List.take_succ_eq_append_getElem (by omega)]
    rfl
end Go.Proofs.Ythbfhlphclgnaaa
