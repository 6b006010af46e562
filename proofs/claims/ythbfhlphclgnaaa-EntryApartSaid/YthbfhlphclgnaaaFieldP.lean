/- Texts joined and split: plain laws. -/
import Derived.Test.YthbfhlphclgnaaaFieldT
namespace Go.Proofs.Ythbfhlphclgnaaa

theorem numVal_two_bytes (n : Nat) (h : n ≤ 65535) (r : List UInt8) : numVal ((numBytes n 2 ++ r).take 2) = n := by
  rw [List.take_left' (numBytes_length 2 n), numVal_bytes 2 n (by omega)]
theorem drop_two_bytes (n : Nat) (r : List UInt8) : (numBytes n 2 ++ r).drop 2 = r := List.drop_left' (numBytes_length 2 n)
theorem joinFlat_cons (t : List UInt8) (ts : List (List UInt8)) : joinFlat (t :: ts) = numBytes t.length 2 ++ (t ++ joinFlat ts) := by simp [joinFlat, joinOne]

theorem splitN_join : ∀ (ts : List (List UInt8)) (r : List UInt8), shortAll ts → splitN ts.length (joinFlat ts ++ r) = if r = [] then some ts else none
  | [], r, _ => by
    by_cases h : r = [] <;> simp [splitN, joinFlat, h]
  | t :: ts, r, h => by
    have ht : t.length ≤ 65535 := h t (List.mem_cons_self ..)
    have ih := splitN_join ts r (fun x hx => h x (List.mem_cons_of_mem _ hx))
    rw [joinFlat_cons, List.append_assoc, List.append_assoc, List.length_cons, splitN, numVal_two_bytes _ ht, drop_two_bytes, if_neg (by simp [numBytes_length]), if_neg (by simp [numBytes_length]),
      List.take_left, List.drop_left, ih]
    by_cases hr : r = [] <;> simp [hr]
theorem splitN_cut : ∀ (ts : List (List UInt8)) (m : Nat), shortAll ts → m < (joinFlat ts).length → splitN ts.length ((joinFlat ts).take m) = none
  | [], m, _, hm => by simp [joinFlat] at hm
  | t :: ts, m, h, hm => by
    have ht : t.length ≤ 65535 := h t (List.mem_cons_self ..)
    rw [joinFlat_cons] at hm ⊢
    rw [List.length_cons, splitN]
    by_cases h2 : m < 2
    · rw [if_pos (by simp; omega)]
    · have e : ((numBytes t.length 2 ++ (t ++ joinFlat ts)).take m) = numBytes t.length 2 ++ ((t ++ joinFlat ts).take (m - 2)) := by
        rw [List.take_append, numBytes_length, List.take_of_length_le (by rw [numBytes_length]; omega)]
      have hl : (numBytes t.length 2 ++ (t ++ joinFlat ts)).length = 2 + (t.length + (joinFlat ts).length) := by simp [numBytes_length]
      rw [hl] at hm
      rw [e, numVal_two_bytes _ ht, drop_two_bytes, if_neg (by simp [numBytes_length])]
      by_cases h3 : m - 2 < t.length
      · rw [if_pos (by simp [numBytes_length]; omega)]
      · have e2 : (t ++ joinFlat ts).take (m - 2) = t ++ (joinFlat ts).take (m - 2 - t.length) := by rw [List.take_append, List.take_of_length_le (by omega)]
        rw [if_neg (by simp [numBytes_length]; omega), e2, List.drop_left, splitN_cut ts _ (fun x hx => h x (List.mem_cons_of_mem _ hx)) (by omega)]
        rfl
theorem splitN_back : ∀ (k : Nat) (b : List UInt8) (ts : List (List UInt8)), splitN k b = some ts → ts.length = k ∧ shortAll ts ∧ joinFlat ts = b
  | 0, b, ts, h => by
    rw [splitN] at h
    split at h
    · rename_i hb
      simp at h
      subst h; subst hb
      exact ⟨rfl, by intro x hx; simp at hx, rfl⟩
    · cases h
  | k + 1, b, ts, h => by
    rw [splitN] at h
    split at h
    · cases h
    rename_i h2
    split at h
    · cases h
    rename_i h3
    rw [Option.map_eq_some_iff] at h
    obtain ⟨ts', h4, rfl⟩ := h
    obtain ⟨i1, i2, i3⟩ := splitN_back k _ ts' h4
    have hlt := numVal_two_lt b
    have hl : ((b.drop 2).take (numVal (b.take 2))).length = numVal (b.take 2) := by simp; omega
    refine ⟨by simp [i1], ?_, ?_⟩
    · intro x hx
      rcases List.mem_cons.1 hx with rfl | hx
      · omega
      · exact i2 x hx
    · rw [joinFlat_cons, i3, List.take_append_drop, hl]
      have h5 := numBytes_val (b.take 2)
      rw [show (b.take 2).length = 2 from by simp; omega] at h5
      rw [h5, List.take_append_drop]
theorem split_join (ts : List (List UInt8)) (h : okJoin ts) (r : List UInt8) : splitB (joinBytes ts ++ r) = if r = [] then some ts else none := by
  unfold splitB joinBytes
  rw [if_neg (by simp [numBytes_length]), List.append_assoc, numVal_two_bytes _ h.1, drop_two_bytes, splitN_join ts r h.2]
theorem split_cut (ts : List (List UInt8)) (h : okJoin ts) (m : Nat) (hm : m < (joinBytes ts).length) : splitB ((joinBytes ts).take m) = none := by
  unfold splitB
  have hl : (joinBytes ts).length = 2 + (joinFlat ts).length := by simp [joinBytes, numBytes_length]
  by_cases h2 : m < 2
  · rw [if_pos (by simp; omega)]
  · unfold joinBytes
    have e : ((numBytes ts.length 2 ++ joinFlat ts).take m) = numBytes ts.length 2 ++ ((joinFlat ts).take (m - 2)) := by
      rw [List.take_append, numBytes_length, List.take_of_length_le (by rw [numBytes_length]; omega)]
    rw [e, if_neg (by simp [numBytes_length]), numVal_two_bytes _ h.1, drop_two_bytes]
    exact splitN_cut ts _ h.2 (by omega)
theorem split_back {b : List UInt8} {ts : List (List UInt8)} (h : splitB b = some ts) : okJoin ts ∧ joinBytes ts = b := by
  unfold splitB at h
  split at h
  · cases h
  rename_i h2
  obtain ⟨h3, h4, h5⟩ := splitN_back _ _ _ h
  have hlt := numVal_two_lt b
  refine ⟨⟨by omega, h4⟩, ?_⟩
  unfold joinBytes
  rw [h3, h5]
  have h6 := numBytes_val (b.take 2)
  rw [show (b.take 2).length = 2 from by simp; omega] at h6
  rw [h6, List.take_append_drop]
theorem joinBytes_le {ts : List (List UInt8)} (h : okJoin ts) : (joinBytes ts).length ≤ 5000000000 := by
  have := joinFlat_length_le h.2
  have := h.1
  unfold joinBytes
  rw [List.length_append, numBytes_length]
  omega
end Go.Proofs.Ythbfhlphclgnaaa
