/- Numbers as bytes, the lowest first: plain functions and laws; no program in sight. -/
import Derived.Test.YtgmdhedabmkcoaaBase
namespace Go.Proofs.Ytgmdhedabmkcoaa

theorem take_snoc' {α : Type} (l : List α) (k : Nat) (h : k < l.length) : l.take (k + 1) = l.take k ++ [l[k]] := by
  rw [List.take_succ_eq_append_getElem h]

/-- A number in so many bytes. -/
def numBytes (n : Nat) : Nat → List UInt8
  | 0 => []
  | w + 1 => UInt8.ofNat (n % 256) :: numBytes (n / 256) w
def numVal : List UInt8 → Nat
  | [] => 0
  | c :: r => c.toNat + 256 * numVal r

theorem numBytes_length (w : Nat) : ∀ n, (numBytes n w).length = w := by
  induction w with
  | zero => exact fun _ => rfl
  | succ w ih => intro n; simp [numBytes, ih]
theorem numBytes_snoc (k : Nat) : ∀ n, numBytes n (k + 1) = numBytes n k ++ [UInt8.ofNat (n / 256 ^ k % 256)] := by
  induction k with
  | zero => intro n; simp [numBytes]
  | succ k ih =>
    intro n
    rw [numBytes, ih (n / 256), numBytes, List.cons_append, Nat.div_div_eq_div_mul, Nat.pow_succ, Nat.mul_comm 256]
theorem u8_mod (n : Nat) : (UInt8.ofNat (n % 256)).toNat = n % 256 := UInt8.toNat_ofNat_of_lt' (by show n % 256 < 256; omega)
theorem numVal_bytes (w : Nat) : ∀ n, n < 256 ^ w → numVal (numBytes n w) = n := by
  induction w with
  | zero => intro n h; simp at h; subst h; rfl
  | succ w ih =>
    intro n h
    rw [numBytes, numVal, u8_mod, ih (n / 256) (by rw [Nat.pow_succ] at h; omega)]
    omega
theorem numVal_lt : ∀ l : List UInt8, numVal l < 256 ^ l.length
  | [] => by simp [numVal]
  | c :: r => by
    have := numVal_lt r
    have hc : c.toNat < 256 := c.toNat_lt
    rw [numVal, List.length_cons, Nat.pow_succ]
    omega
theorem numBytes_val : ∀ l : List UInt8, numBytes (numVal l) l.length = l
  | [] => rfl
  | c :: r => by
    have hc : c.toNat < 256 := c.toNat_lt
    rw [numVal, List.length_cons, numBytes]
    have e1 : (c.toNat + 256 * numVal r) % 256 = c.toNat := by omega
    have e2 : (c.toNat + 256 * numVal r) / 256 = numVal r := by omega
    rw [e1, e2, numBytes_val r]
    congr 1
    exact UInt8.toNat_inj.1 (UInt8.toNat_ofNat_of_lt' (by show c.toNat < 256; omega))
theorem numVal_append : ∀ (l m : List UInt8), numVal (l ++ m) = numVal l + 256 ^ l.length * numVal m
  | [], m => by simp [numVal]
  | c :: r, m => by
    rw [List.cons_append, numVal, numVal_append r m, numVal, List.length_cons, Nat.pow_succ, Nat.mul_add, Nat.add_assoc, ← Nat.mul_assoc, Nat.mul_comm 256 (256 ^ r.length)]
theorem numVal_snoc (l : List UInt8) (c : UInt8) : numVal (l ++ [c]) = numVal l + 256 ^ l.length * c.toNat := by
  rw [numVal_append]; simp [numVal]
theorem numVal_cons (c : UInt8) (l : List UInt8) : numVal (c :: l) = numVal l * 256 + c.toNat := by rw [numVal]; omega
theorem numBytes_inj {w n m : Nat} (hn : n < 256 ^ w) (hm : m < 256 ^ w) (h : numBytes n w = numBytes m w) : n = m := by
  rw [← numVal_bytes w n hn, ← numVal_bytes w m hm, h]

/-- Is each a width? -/
def okWs (ws : List Int) : Prop := ∀ w ∈ ws, 1 ≤ w ∧ w ≤ 8
instance (ws : List Int) : Decidable (okWs ws) := by unfold okWs; infer_instance
def total (ws : List Int) : Nat := (ws.map Int.toNat).sum
theorem total_nil : total [] = 0 := rfl
theorem total_cons (w : Int) (ws : List Int) : total (w :: ws) = w.toNat + total ws := by simp [total]
theorem total_append (a b : List Int) : total (a ++ b) = total a + total b := by simp [total]
theorem total_le {ws : List Int} (h : okWs ws) : total ws ≤ 8 * ws.length := by
  induction ws with
  | nil => simp [total]
  | cons w ws ih =>
    have := ih (fun x hx => h x (List.mem_cons_of_mem _ hx))
    have := h w (List.mem_cons_self ..)
    rw [total_cons, List.length_cons]
    omega
theorem total_take_succ (ws : List Int) (k : Nat) (h : k < ws.length) : total (ws.take (k + 1)) = total (ws.take k) + ws[k].toNat := by
  rw [take_snoc' ws k h, total_append]; simp [total]
theorem total_take_le (ws : List Int) (k : Nat) : total (ws.take k) ≤ total ws := by
  conv => rhs; rw [← List.take_append_drop k ws]
  rw [total_append]; omega

/-- Has each number room in its width? -/
def fits : List Int → List Nat → Prop
  | w :: ws, n :: ns => n < 256 ^ w.toNat ∧ fits ws ns
  | _, _ => True
instance fitsDec : (ws : List Int) → (ns : List Nat) → Decidable (fits ws ns)
  | [], _ => .isTrue trivial
  | _ :: _, [] => .isTrue trivial
  | w :: ws, n :: ns => by
    unfold fits
    have := fitsDec ws ns
    infer_instance
/-- Numbers as bytes. -/
def putBytes : List Int → List Nat → List UInt8
  | w :: ws, n :: ns => numBytes n w.toNat ++ putBytes ws ns
  | _, _ => []
def okPut (ws : List Int) (ns : List Nat) : Prop := ws.length = ns.length ∧ okWs ws ∧ fits ws ns
instance (ws : List Int) (ns : List Nat) : Decidable (okPut ws ns) := by unfold okPut; infer_instance

theorem fits_iff : ∀ (ws : List Int) (ns : List Nat), fits ws ns ↔ ∀ i (h1 : i < ws.length) (h2 : i < ns.length), ns[i] < 256 ^ ws[i].toNat
  | [], ns => ⟨fun _ i h1 => absurd h1 (Nat.not_lt_zero i), fun _ => trivial⟩
  | _ :: _, [] => ⟨fun _ i _ h2 => absurd h2 (Nat.not_lt_zero i), fun _ => trivial⟩
  | w :: ws, n :: ns => by
    rw [fits, fits_iff ws ns]
    constructor
    · rintro ⟨h0, h⟩ i h1 h2
      cases i with
      | zero => exact h0
      | succ i => exact h i (by simpa using h1) (by simpa using h2)
    · intro h
      exact ⟨h 0 (by simp) (by simp), fun i h1 h2 => h (i + 1) (by simpa using h1) (by simpa using h2)⟩
theorem putBytes_length : ∀ (ws : List Int) (ns : List Nat), ws.length = ns.length → (putBytes ws ns).length = total ws
  | [], [], _ => rfl
  | w :: ws, n :: ns, h => by
    rw [putBytes, List.length_append, numBytes_length, putBytes_length ws ns (by simpa using h), total_cons]
theorem putBytes_append : ∀ (ws : List Int) (ns : List Nat) (ws' : List Int) (ns' : List Nat), ws.length = ns.length → putBytes (ws ++ ws') (ns ++ ns') = putBytes ws ns ++ putBytes ws' ns'
  | [], [], _, _, _ => rfl
  | w :: ws, n :: ns, ws', ns', h => by
    rw [List.cons_append, List.cons_append, putBytes, putBytes_append ws ns ws' ns' (by simpa using h), putBytes, List.append_assoc]
theorem putBytes_take_succ (ws : List Int) (ns : List Nat) (k : Nat) (h1 : k < ws.length) (h2 : k < ns.length) :
    putBytes (ws.take (k + 1)) (ns.take (k + 1)) = putBytes (ws.take k) (ns.take k) ++ numBytes ns[k] ws[k].toNat := by
  rw [take_snoc' ws k h1, take_snoc' ns k h2, putBytes_append _ _ _ _ (by simp; omega)]
  simp [putBytes]
theorem putBytes_inj : ∀ (ws : List Int) (a b : List Nat), okPut ws a → okPut ws b → putBytes ws a = putBytes ws b → a = b
  | [], [], [], _, _, _ => rfl
  | [], _ :: _, _, h, _, _ => by have := h.1; simp at this
  | [], [], _ :: _, _, h, _ => by have := h.1; simp at this
  | _ :: _, [], _, h, _, _ => by have := h.1; simp at this
  | _ :: _, _ :: _, [], _, h, _ => by have := h.1; simp at this
  | w :: ws, a :: xs, b :: ys, h1, h2, h => by
    rw [putBytes, putBytes] at h
    obtain ⟨e1, e2⟩ := List.append_inj h (by rw [numBytes_length, numBytes_length])
    have f1 := h1.2.2
    have f2 := h2.2.2
    rw [fits] at f1 f2
    rw [numBytes_inj f1.1 f2.1 e1]
    rw [putBytes_inj ws xs ys ⟨by simpa using h1.1, fun x hx => h1.2.1 x (List.mem_cons_of_mem _ hx), f1.2⟩ ⟨by simpa using h2.1, fun x hx => h2.2.1 x (List.mem_cons_of_mem _ hx), f2.2⟩ e2]

/-- The numbers of bytes. -/
def getNums : List Int → List UInt8 → List Nat
  | [], _ => []
  | w :: ws, b => numVal (b.take w.toNat) :: getNums ws (b.drop w.toNat)
def okGet (ws : List Int) (b : List UInt8) : Prop := okWs ws ∧ b.length = total ws
instance (ws : List Int) (b : List UInt8) : Decidable (okGet ws b) := by unfold okGet; infer_instance
theorem getNums_length : ∀ (ws : List Int) (b : List UInt8), (getNums ws b).length = ws.length
  | [], _ => rfl
  | w :: ws, b => by simp [getNums, getNums_length ws]
theorem getNums_append : ∀ (ws ws' : List Int) (b : List UInt8), getNums (ws ++ ws') b = getNums ws b ++ getNums ws' (b.drop (total ws))
  | [], ws', b => by simp [getNums, total]
  | w :: ws, ws', b => by
    rw [List.cons_append, getNums, getNums, getNums_append ws ws', List.drop_drop, total_cons, List.cons_append]
theorem getNums_take_succ (ws : List Int) (b : List UInt8) (k : Nat) (h : k < ws.length) :
    getNums (ws.take (k + 1)) b = getNums (ws.take k) b ++ [numVal ((b.drop (total (ws.take k))).take ws[k].toNat)] := by
  rw [take_snoc' ws k h, getNums_append]; simp [getNums]
theorem fits_getNums : ∀ (ws : List Int) (b : List UInt8), fits ws (getNums ws b)
  | [], _ => trivial
  | w :: ws, b => by
    rw [getNums, fits]
    refine ⟨Nat.lt_of_lt_of_le (numVal_lt _) (Nat.pow_le_pow_right (by omega) (by simp; omega)), fits_getNums ws _⟩
theorem put_get : ∀ (ws : List Int) (b : List UInt8), b.length = total ws → putBytes ws (getNums ws b) = b
  | [], b, h => by simp [total] at h; subst h; rfl
  | w :: ws, b, h => by
    rw [total_cons] at h
    rw [getNums, putBytes, put_get ws _ (by simp; omega)]
    have hl : (b.take w.toNat).length = w.toNat := by simp; omega
    conv => lhs; lhs; rw [← hl, List.length_take, Nat.min_eq_left (by omega)]
    have := numBytes_val (b.take w.toNat)
    rw [hl] at this
    rw [this, List.take_append_drop]
theorem get_put : ∀ (ws : List Int) (ns : List Nat), ws.length = ns.length → fits ws ns → getNums ws (putBytes ws ns) = ns
  | [], [], _, _ => rfl
  | w :: ws, n :: ns, h, hf => by
    rw [fits] at hf
    rw [putBytes, getNums, List.take_left' (numBytes_length _ _), List.drop_left' (numBytes_length _ _), numVal_bytes _ _ hf.1, get_put ws ns (by simpa using h) hf.2]
theorem getNums_lt {ws : List Int} (h : okWs ws) (b : List UInt8) : ∀ n ∈ getNums ws b, n < 18446744073709551616 := by
  induction ws generalizing b with
  | nil => simp [getNums]
  | cons w ws ih =>
    intro n hn
    rw [getNums] at hn
    rcases List.mem_cons.1 hn with rfl | hn
    · have hw := h w (List.mem_cons_self ..)
      refine Nat.lt_of_lt_of_le (numVal_lt _) ?_
      have : (256 : Nat) ^ (b.take w.toNat).length ≤ 256 ^ 8 := Nat.pow_le_pow_right (by omega) (by simp; omega)
      omega
    · exact ih (fun x hx => h x (List.mem_cons_of_mem _ hx)) _ n hn
end Go.Proofs.Ytgmdhedabmkcoaa
