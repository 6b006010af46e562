/- The sum of bytes: what sum.More, sum.Of and the document's More compute, as plain functions; the walks of these three. -/
import Derived.Test.YtgmdhedabmkcoaaRows
import Derived.WalkKit
import Derived.Lib.Hide
namespace Go.Proofs.Ytgmdhedabmkcoaa
open Go.RowKit

/-- One step of the register: one bit out. -/
def crcBit (n : Nat) : Nat := if n % 2 = 1 then (n / 2) ^^^ 2197175160 else n / 2
/-- k steps. -/
def crcBits : Nat → Nat → Nat
  | 0, n => n
  | k + 1, n => crcBit (crcBits k n)
/-- One byte in. -/
def crcByte (n : Nat) (c : UInt8) : Nat := crcBits 8 (n ^^^ c.toNat)
def crcList (n : Nat) (l : List UInt8) : Nat := l.foldl crcByte n
/-- The sum with more bytes. -/
def crcMore (s : Nat) (l : List UInt8) : Nat := 4294967295 - crcList (4294967295 - s) l

theorem crcBit_lt {n : Nat} (h : n < 4294967296) : crcBit n < 4294967296 := by
  unfold crcBit
  split
  · have : (n / 2) ^^^ 2197175160 < 2 ^ 32 := Nat.xor_lt_two_pow (by omega) (by omega)
    omega
  · omega
theorem crcBits_lt (k : Nat) {n : Nat} (h : n < 4294967296) : crcBits k n < 4294967296 := by
  induction k with
  | zero => exact h
  | succ k ih => exact crcBit_lt ih
theorem crcByte_lt {n : Nat} (c : UInt8) (h : n < 4294967296) : crcByte n c < 4294967296 := by
  unfold crcByte
  have hc := c.toNat_lt
  have : n ^^^ c.toNat < 2 ^ 32 := Nat.xor_lt_two_pow (by omega) (by omega)
  exact crcBits_lt 8 (by omega)
theorem crcList_lt (l : List UInt8) : ∀ {n : Nat}, n < 4294967296 → crcList n l < 4294967296 := by
  induction l with
  | nil => exact fun h => h
  | cons c l ih => exact fun h => ih (crcByte_lt c h)
theorem crcList_snoc (n : Nat) (l : List UInt8) (c : UInt8) : crcList n (l ++ [c]) = crcByte (crcList n l) c := by simp [crcList]


/-- The document's way: bit k of the byte held against the register's lowest. -/
def refStep (n c k : Nat) : Nat := if (n ^^^ (c >>> k % 2)) % 2 = 1 then (n / 2) ^^^ 2197175160 else n / 2
def refBits (n c : Nat) : Nat → Nat
  | 0 => n
  | k + 1 => refStep (refBits n c k) c k

theorem xor_cancel_right {a b c : Nat} (h : a ^^^ c = b ^^^ c) : a = b := by
  have := congrArg (· ^^^ c) h
  simpa [Nat.xor_assoc] using this
theorem xor_cancel_left {a b c : Nat} (h : c ^^^ a = c ^^^ b) : a = b := xor_cancel_right (c := c) (by rw [Nat.xor_comm a, Nat.xor_comm b]; exact h)
theorem xor_div2 (a b : Nat) : (a ^^^ b) / 2 = (a / 2) ^^^ (b / 2) := by
  have := Nat.shiftRight_xor_distrib (a := a) (b := b) (i := 1)
  simpa [Nat.shiftRight_eq_div_pow] using this
theorem xor_mod2 (a b : Nat) : (a ^^^ b) % 2 = (a % 2 + b % 2) % 2 := by
  have h := Nat.testBit_xor a b 0
  simp only [Nat.testBit_zero] at h
  have e1 := Nat.mod_two_eq_zero_or_one a
  have e2 := Nat.mod_two_eq_zero_or_one b
  have e3 := Nat.mod_two_eq_zero_or_one (a ^^^ b)
  rcases e1 with e1 | e1 <;> rcases e2 with e2 | e2 <;> rcases e3 with e3 | e3 <;> simp [e1, e2, e3] at h ⊢
theorem refBits_eq (n c : Nat) : ∀ k, crcBits k (n ^^^ c) = refBits n c k ^^^ (c >>> k)
  | 0 => by simp [crcBits, refBits]
  | k + 1 => by
    have ih := refBits_eq n c k
    simp only [crcBits, refBits, ih]
    generalize refBits n c k = y
    have hs : c >>> (k + 1) = (c >>> k) / 2 := by rw [Nat.shiftRight_succ]
    rw [hs]
    unfold crcBit refStep
    generalize c >>> k = z
    have h1 : (y ^^^ z) % 2 = (y ^^^ (z % 2)) % 2 := by rw [xor_mod2, xor_mod2]; omega
    have h2 := xor_div2 y z
    rw [h1, h2]
    by_cases h : (y ^^^ (z % 2)) % 2 = 1
    · rw [if_pos h, if_pos h, Nat.xor_assoc, Nat.xor_comm (z / 2), ← Nat.xor_assoc]
    · rw [if_neg h, if_neg h]
theorem refBits_byte (n : Nat) (c : UInt8) : refBits n c.toNat 8 = crcByte n c := by
  unfold crcByte
  rw [refBits_eq]
  have : c.toNat >>> 8 = 0 := by have := c.toNat_lt; rw [Nat.shiftRight_eq_div_pow]; omega
  rw [this]; simp

theorem refStep_lt {n c k : Nat} (h : n < 4294967296) : refStep n c k < 4294967296 := by
  unfold refStep
  split
  · have : (n / 2) ^^^ 2197175160 < 2 ^ 32 := Nat.xor_lt_two_pow (by omega) (by omega)
    omega
  · omega
theorem refBits_lt (n c k : Nat) (h : n < 4294967296) : refBits n c k < 4294967296 := by
  induction k with
  | zero => exact h
  | succ k ih => exact refStep_lt ih
/-! Two parts. -/
theorem crcList_append (n : Nat) (a b : List UInt8) : crcList n (a ++ b) = crcList (crcList n a) b := by simp [crcList]
theorem crcMore_append (a b : List UInt8) : crcMore (crcMore 0 a) b = crcMore 0 (a ++ b) := by
  unfold crcMore
  have := crcList_lt a (n := 4294967295 - 0) (by omega)
  rw [crcList_append]
  congr 2
  omega
theorem crcMore_lt (s : Nat) (l : List UInt8) : crcMore s l < 4294967296 := by unfold crcMore; omega
/-! The register tells what went in. -/
theorem lo_of_lt {a : Nat} (h : a < 2147483648) : a.testBit 31 = false := Nat.testBit_lt_two_pow (by omega)
theorem crcBit_inj {a b : Nat} (ha : a < 4294967296) (hb : b < 4294967296) (h : crcBit a = crcBit b) : a = b := by
  unfold crcBit at h
  have hp : (2197175160 : Nat).testBit 31 = true := by decide
  have h31 : ∀ x, x < 4294967296 → (x / 2 ^^^ 2197175160).testBit 31 = true := fun x hx => by
    rw [Nat.testBit_xor, hp, lo_of_lt (by omega)]; rfl
  have h30 : ∀ x, x < 4294967296 → (x / 2).testBit 31 = false := fun x hx => lo_of_lt (by omega)
  by_cases e1 : a % 2 = 1 <;> by_cases e2 : b % 2 = 1
  · rw [if_pos e1, if_pos e2] at h
    have := xor_cancel_right h
    omega
  · rw [if_pos e1, if_neg e2] at h
    have := h31 a ha; rw [h, h30 b hb] at this; cases this
  · rw [if_neg e1, if_pos e2] at h
    have := h31 b hb; rw [← h, h30 a ha] at this; cases this
  · rw [if_neg e1, if_neg e2] at h
    omega
theorem crcBits_inj (k : Nat) {a b : Nat} (ha : a < 4294967296) (hb : b < 4294967296) (h : crcBits k a = crcBits k b) : a = b := by
  induction k with
  | zero => exact h
  | succ k ih => exact ih (crcBit_inj (crcBits_lt k ha) (crcBits_lt k hb) h)
theorem xor_u8_lt {n : Nat} (c : UInt8) (h : n < 4294967296) : n ^^^ c.toNat < 4294967296 := by
  have hc := c.toNat_lt
  have : n ^^^ c.toNat < 2 ^ 32 := Nat.xor_lt_two_pow (by omega) (by omega)
  omega
theorem crcByte_inj {a b : Nat} (c : UInt8) (ha : a < 4294967296) (hb : b < 4294967296) (h : crcByte a c = crcByte b c) : a = b :=
  xor_cancel_right (crcBits_inj 8 (xor_u8_lt c ha) (xor_u8_lt c hb) h)
theorem crcByte_tells {n : Nat} {c d : UInt8} (hn : n < 4294967296) (h : crcByte n c = crcByte n d) : c = d :=
  UInt8.toNat_inj.1 (xor_cancel_left (crcBits_inj 8 (xor_u8_lt c hn) (xor_u8_lt d hn) h))
theorem crcList_inj (l : List UInt8) : ∀ {a b : Nat}, a < 4294967296 → b < 4294967296 → crcList a l = crcList b l → a = b := by
  induction l with
  | nil => exact fun _ _ h => h
  | cons c l ih => exact fun ha hb h => crcByte_inj c ha hb (ih (crcByte_lt c ha) (crcByte_lt c hb) h)
theorem crcMore_cancel {a b : List UInt8} (h : crcMore 0 a = crcMore 0 b) : crcList 4294967295 a = crcList 4294967295 b := by
  unfold crcMore at h
  have h1 := crcList_lt a (n := 4294967295 - 0) (by omega)
  have h2 := crcList_lt b (n := 4294967295 - 0) (by omega)
  simp only [Nat.sub_zero] at h h1 h2
  omega
/-- One byte turned: another sum. -/
theorem crc_finds (l : List UInt8) (i : Nat) (hi : i < l.length) (c : UInt8) (hc : c ≠ l[i]) : crcMore 0 (l.set i c) ≠ crcMore 0 l := by
  intro h
  have h := crcMore_cancel h
  have hl : l = l.take i ++ l[i] :: l.drop (i + 1) := by simp
  have hs : l.set i c = l.take i ++ c :: l.drop (i + 1) := by rw [List.set_eq_take_append_cons_drop, if_pos hi]
  rw [hs] at h
  conv at h => rhs; rw [hl]
  rw [crcList_append, crcList_append] at h
  have hlt := crcList_lt (l.take i) (n := 4294967295) (by omega)
  generalize crcList 4294967295 (l.take i) = m at *
  have h2 : crcByte m c = crcByte m l[i] := crcList_inj (l.drop (i + 1)) (crcByte_lt _ hlt) (crcByte_lt _ hlt) h
  exact hc (crcByte_tells hlt h2)
/-! Sums add up bit by bit. -/
theorem crcBit_xor (a b : Nat) : crcBit (a ^^^ b) = crcBit a ^^^ crcBit b := by
  unfold crcBit
  rw [xor_mod2, xor_div2]
  have e1 := Nat.mod_two_eq_zero_or_one a
  have e2 := Nat.mod_two_eq_zero_or_one b
  rcases e1 with e1 | e1 <;> rcases e2 with e2 | e2 <;> simp only [e1, e2] <;> simp
  · rw [Nat.xor_assoc]
  · rw [Nat.xor_assoc, Nat.xor_comm (b / 2), ← Nat.xor_assoc]
  · rw [Nat.xor_assoc, Nat.xor_comm 2197175160, Nat.xor_assoc, Nat.xor_self, Nat.xor_zero]
theorem crcBits_xor (k a b : Nat) : crcBits k (a ^^^ b) = crcBits k a ^^^ crcBits k b := by
  induction k with
  | zero => rfl
  | succ k ih => simp only [crcBits, ih, crcBit_xor]
theorem crcByte_xor (a b : Nat) (c d : UInt8) : crcByte (a ^^^ b) (c ^^^ d) = crcByte a c ^^^ crcByte b d := by
  unfold crcByte
  rw [← crcBits_xor, UInt8.toNat_xor]
  congr 1
  rw [Nat.xor_assoc, Nat.xor_assoc, ← Nat.xor_assoc b, Nat.xor_comm b, Nat.xor_assoc]
theorem crcList_xor : ∀ (l m : List UInt8) (a b : Nat), l.length = m.length → crcList (a ^^^ b) (l.zipWith (· ^^^ ·) m) = crcList a l ^^^ crcList b m
  | [], [], _, _, _ => rfl
  | c :: l, d :: m, a, b, h => by
    have ih := crcList_xor l m (crcByte a c) (crcByte b d) (by simpa using h)
    rw [← crcByte_xor] at ih
    exact ih
theorem sub_xor {a : Nat} (h : a < 4294967296) : 4294967295 - a = 4294967295 ^^^ a := by
  have h1 : BitVec.allOnes 32 ^^^ BitVec.ofNat 32 a = ~~~ BitVec.ofNat 32 a := BitVec.allOnes_xor
  have h2 := congrArg BitVec.toNat h1
  rw [BitVec.toNat_xor, BitVec.toNat_not, BitVec.toNat_ofNat, Nat.mod_eq_of_lt (by omega)] at h2
  have h3 : (BitVec.allOnes 32).toNat = 4294967295 := by decide
  rw [h3] at h2
  omega
theorem crc_three (a b c : List UInt8) (h1 : a.length = b.length) (h2 : b.length = c.length) :
    crcMore 0 ((a.zipWith (· ^^^ ·) b).zipWith (· ^^^ ·) c) = (crcMore 0 a ^^^ crcMore 0 b) ^^^ crcMore 0 c := by
  unfold crcMore
  simp only [Nat.sub_zero]
  have e1 := crcList_xor (a.zipWith (· ^^^ ·) b) c (4294967295 ^^^ 4294967295) 4294967295 (by simp; omega)
  have e2 := crcList_xor a b 4294967295 4294967295 h1
  rw [e2] at e1
  have e3 : (4294967295 ^^^ 4294967295) ^^^ 4294967295 = (4294967295 : Nat) := by decide
  rw [e3] at e1
  rw [e1]
  have l1 := crcList_lt a (n := 4294967295) (by omega)
  have l2 := crcList_lt b (n := 4294967295) (by omega)
  have l3 := crcList_lt c (n := 4294967295) (by omega)
  generalize crcList 4294967295 a = x at *
  generalize crcList 4294967295 b = y at *
  generalize crcList 4294967295 c = z at *
  have lxy : x ^^^ y < 2 ^ 32 := Nat.xor_lt_two_pow (by omega) (by omega)
  have lxyz : (x ^^^ y) ^^^ z < 2 ^ 32 := Nat.xor_lt_two_pow lxy (by omega)
  rw [sub_xor (by omega), sub_xor l1, sub_xor l2, sub_xor l3]
  have e4 : (4294967295 ^^^ x) ^^^ (4294967295 ^^^ y) = x ^^^ y := by
    rw [Nat.xor_comm 4294967295 x, Nat.xor_assoc, ← Nat.xor_assoc 4294967295 4294967295, Nat.xor_self, Nat.zero_xor]
  rw [e4, ← Nat.xor_assoc, ← Nat.xor_assoc, ← Nat.xor_assoc, Nat.xor_comm 4294967295, Nat.xor_assoc x, Nat.xor_comm 4294967295, ← Nat.xor_assoc]
/-! Zeros are counted. -/
def never : Nat → Nat → Bool
  | 0, _ => true
  | k + 1, s => (crcBits 8 s != 4294967295) && never k (crcBits 8 s)
theorem never_3000 : never 3000 4294967295 = true := by decide +kernel
def zerosFrom : Nat → Nat → Nat
  | 0, s => s
  | k + 1, s => zerosFrom k (crcBits 8 s)
theorem never_not : ∀ (k j s : Nat), never k s = true → j < k → zerosFrom (j + 1) s ≠ 4294967295
  | k + 1, 0, s, h, _ => by simp [never] at h; exact h.1
  | k + 1, j + 1, s, h, hj => by
    simp [never] at h
    exact never_not k j (crcBits 8 s) h.2 (by omega)
theorem crcList_zeros (k : Nat) : ∀ s, crcList s (List.replicate k 0) = zerosFrom k s := by
  induction k with
  | zero => exact fun _ => rfl
  | succ k ih =>
    intro s
    show crcList (crcByte s 0) (List.replicate k 0) = _
    rw [ih]
    simp [zerosFrom, crcByte]
theorem zerosFrom_lt (k : Nat) : ∀ {s : Nat}, s < 4294967296 → zerosFrom k s < 4294967296 := by
  induction k with
  | zero => exact fun h => h
  | succ k ih => exact fun h => ih (crcBits_lt 8 h)
theorem zerosFrom_inj (k : Nat) : ∀ {a b : Nat}, a < 4294967296 → b < 4294967296 → zerosFrom k a = zerosFrom k b → a = b := by
  induction k with
  | zero => exact fun _ _ h => h
  | succ k ih => exact fun ha hb h => crcBits_inj 8 ha hb (ih (crcBits_lt 8 ha) (crcBits_lt 8 hb) h)
theorem zerosFrom_add (j : Nat) : ∀ (k s : Nat), zerosFrom (j + k) s = zerosFrom k (zerosFrom j s) := by
  induction j with
  | zero => intro k s; simp [zerosFrom]
  | succ j ih => intro k s; rw [show j + 1 + k = (j + k) + 1 from by omega]; exact ih k _
theorem crc_zeros_ne {n m : Nat} (h : n < m) (hm : m ≤ 3000) : crcMore 0 (List.replicate n 0) ≠ crcMore 0 (List.replicate m 0) := by
  intro e
  have e := crcMore_cancel e
  rw [crcList_zeros, crcList_zeros, show m = (m - n - 1 + 1) + n from by omega, zerosFrom_add] at e
  have := zerosFrom_inj n (by omega) (zerosFrom_lt _ (by omega)) e
  exact never_not 3000 (m - n - 1) 4294967295 never_3000 (by omega) this.symm
theorem crc_zeros {n m : Nat} (hn : n ≤ 3000) (hm : m ≤ 3000) : (crcMore 0 (List.replicate n 0) = crcMore 0 (List.replicate m 0)) ↔ n = m := by
  constructor
  · intro e
    rcases Nat.lt_trichotomy n m with h | h | h
    · exact absurd e (crc_zeros_ne h hm)
    · exact h
    · exact absurd e.symm (crc_zeros_ne h hn)
  · rintro rfl; rfl
/-! The chapter's example. -/
theorem crc_name : crcMore 0 [49, 50, 51, 52, 53, 54, 55, 56, 57] = 3808858755 := by decide +kernel
theorem crc_none : crcMore 0 [] = 0 := by decide
end Go.Proofs.Ytgmdhedabmkcoaa
