/- A burst of at most 32 bits turns the sum. No program. -/
import Derived.Test.YtjgahidfhagafaaBase
namespace Go.Gi
set_option linter.unusedSimpArgs false
def bitG (x : Nat) : Nat := if x % 2 = 1 then (x / 2) ^^^ 2197175160 else x / 2
def bitGN : Nat → Nat → Nat
  | 0, x => x
  | n + 1, x => bitG (bitGN n x)
theorem bitGN_add (a b x : Nat) : bitGN (a + b) x = bitGN a (bitGN b x) := by
  induction a with
  | zero => simp [bitGN]
  | succ a ih => rw [show a + 1 + b = (a + b) + 1 by omega, bitGN, ih, bitGN]
theorem xor_half (a b : Nat) : (a ^^^ b) / 2 = (a / 2) ^^^ (b / 2) := Nat.xor_div_two
theorem xor_cancel (a b : Nat) : a ^^^ b ^^^ b = a := by rw [Nat.xor_assoc, Nat.xor_self, Nat.xor_zero]
theorem bitG_xor (a b : Nat) : bitG (a ^^^ b) = bitG a ^^^ bitG b := by
  have h : (a ^^^ b) % 2 = 1 ↔ ¬ (a % 2 = 1 ↔ b % 2 = 1) := Nat.xor_mod_two_eq_one
  unfold bitG
  rw [xor_half]
  by_cases ha : a % 2 = 1 <;> by_cases hb : b % 2 = 1 <;> simp only [ha, hb, h, if_true, if_false, iff_true, not_true_eq_false, true_iff, false_iff, not_false_eq_true, iff_self]
  · rw [Nat.xor_assoc, Nat.xor_comm 2197175160, Nat.xor_assoc, Nat.xor_self, Nat.xor_zero]
  · rw [Nat.xor_assoc, Nat.xor_comm (b / 2), ← Nat.xor_assoc]
  · rw [Nat.xor_assoc]
theorem bitGN_xor (n a b : Nat) : bitGN n (a ^^^ b) = bitGN n a ^^^ bitGN n b := by
  induction n with
  | zero => rfl
  | succ n ih => rw [bitGN, ih, bitG_xor]; rfl
theorem bitGN_shift (n x : Nat) : bitGN n (2 ^ n * x) = x := by
  induction n generalizing x with
  | zero => simp [bitGN]
  | succ n ih =>
    rw [show 2 ^ (n + 1) * x = 2 ^ n * (2 * x) by rw [Nat.pow_succ]; simp [Nat.mul_assoc], bitGN, ih, bitG, if_neg (by omega)]
    omega
theorem bitG_ne {x : Nat} (h0 : x ≠ 0) (h1 : x < 4294967296) : bitG x ≠ 0 ∧ bitG x < 4294967296 := by
  unfold bitG
  split
  · refine ⟨fun h => ?_, Nat.xor_lt_two_pow (n := 32) (by omega) (by decide)⟩
    have : x / 2 ^^^ 2197175160 ^^^ 2197175160 = 2197175160 := by rw [h]; rfl
    rw [xor_cancel] at this
    omega
  · omega
theorem bitGN_ne {x : Nat} (h0 : x ≠ 0) (h1 : x < 4294967296) (n : Nat) : bitGN n x ≠ 0 ∧ bitGN n x < 4294967296 := by
  induction n with
  | zero => exact ⟨h0, h1⟩
  | succ n ih => exact bitG_ne ih.1 ih.2
theorem bitG_lt {x : Nat} (h1 : x < 4294967296) : bitG x < 4294967296 := by
  unfold bitG
  split
  · exact Nat.xor_lt_two_pow (n := 32) (by omega) (by decide)
  · omega
theorem bitGN_lt {x : Nat} (h1 : x < 4294967296) (n : Nat) : bitGN n x < 4294967296 := by
  induction n with
  | zero => exact h1
  | succ n ih => exact bitG_lt ih
theorem bit1_nat (x : Nat) (h : x < 4294967296) : bit1 x = (bitG x : Nat) := by
  rw [bit1_mod (by omega)]
  unfold bitG
  have e : ((x : Int) % 2 = 1) ↔ (x % 2 = 1) := by omega
  simp only [e]
  split
  · rw [show (2197175160 : Int) = ((2197175160 : Nat) : Int) from rfl, show (x : Int) / 2 = ((x / 2 : Nat) : Int) by omega, u32_xor_nat _ _ (by omega) (by decide)]
  · omega
theorem bitN_nat (x : Nat) (h : x < 4294967296) (n : Nat) : bitN n x = (bitGN n x : Nat) := by
  induction n with
  | zero => rfl
  | succ n ih => rw [bitN, ih, bit1_nat _ (bitGN_lt h n)]; rfl
theorem add_xor {b : Nat} (h : b < 256) (q : Nat) : b + 256 * q = b ^^^ (256 * q) := by
  apply Nat.eq_of_testBit_eq
  intro j
  rw [show b + 256 * q = 2 ^ 8 * q + b by omega, Nat.testBit_two_pow_mul_add q h, Nat.testBit_xor, show 256 * q = 2 ^ 8 * q by omega, Nat.testBit_two_pow_mul]
  by_cases hj : j < 8
  · have : ¬ j ≥ 8 := by omega
    simp [hj, this]
  · have h2 : b.testBit j = false := Nat.testBit_lt_two_pow (Nat.lt_of_lt_of_le h (Nat.pow_le_pow_right (n := 2) (by decide) (show 8 ≤ j by omega)))
    have h3 : j ≥ 8 := by omega
    simp [hj, h2, h3]
theorem crcL_nat (l : List UInt8) : ∀ r : Nat, r < 4294967296 → crcL r l = (bitGN (8 * l.length) (r ^^^ numL l) : Nat) := by
  induction l with
  | nil => intro r _; simp [crcL, bitGN, numL]
  | cons b l ih =>
    intro r hr
    have hb := b.toNat_lt
    have hx : r ^^^ b.toNat < 4294967296 := Nat.xor_lt_two_pow (n := 32) hr (by omega)
    have e1 : crcB r b = (bitGN 8 (r ^^^ b.toNat) : Nat) := by
      unfold crcB
      rw [u32_xor_nat _ _ hr (by omega), bitN_nat _ hx]
    rw [show crcL r (b :: l) = crcL (crcB r b) l from rfl, e1, ih _ (bitGN_lt hx 8)]
    rw [List.length_cons, show 8 * (l.length + 1) = 8 * l.length + 8 by omega, bitGN_add, numL, add_xor hb, ← Nat.xor_assoc, bitGN_xor 8 (r ^^^ b.toNat), show 256 * numL l = 2 ^ 8 * numL l by omega, bitGN_shift]
theorem numL_inj {a b : List UInt8} (hl : a.length = b.length) (h : numL a = numL b) : a = b := by
  rw [← putL_numL a, ← putL_numL b, hl, h]
theorem sumL_nat (l : List UInt8) : sumL 0 l = 4294967295 - ((bitGN (8 * l.length) (4294967295 ^^^ numL l) : Nat) : Int) ∧ bitGN (8 * l.length) (4294967295 ^^^ numL l) < 4294967296 := by
  have h0 : bits .xor .u32 0 4294967295 = ((4294967295 : Nat) : Int) := by decide +kernel
  have h1 := crcL_range (r := ((4294967295 : Nat) : Int)) (by decide) l
  unfold sumL
  rw [h0]
  rw [crcL_nat l _ (by decide)] at h1 ⊢
  exact ⟨xor_ones h1, by omega⟩
/-- The law. -/
theorem burst_law (a b : List UInt8) (first B : Nat) (hl : b.length = a.length) (hf : first ≤ 8 * a.length) (hB : B < 4294967296) (hn : numL b = numL a ^^^ (2 ^ first * B)) : (sumL 0 a = sumL 0 b) ↔ a = b := by
  refine ⟨fun h => ?_, fun h => by rw [h]⟩
  obtain ⟨ea, la⟩ := sumL_nat a
  obtain ⟨eb, lb⟩ := sumL_nat b
  rw [ea, eb] at h
  have h2 : bitGN (8 * a.length) (4294967295 ^^^ numL a) = bitGN (8 * b.length) (4294967295 ^^^ numL b) := by omega
  rw [hl, hn, ← Nat.xor_assoc, bitGN_xor _ (4294967295 ^^^ numL a)] at h2
  have h3 : bitGN (8 * a.length) (2 ^ first * B) = 0 := by
    have := congrArg (fun x => bitGN (8 * a.length) (4294967295 ^^^ numL a) ^^^ x) h2
    simp only [Nat.xor_self, ← Nat.xor_assoc, Nat.zero_xor] at this
    exact this.symm
  rw [show 8 * a.length = (8 * a.length - first) + first by omega, bitGN_add, bitGN_shift] at h3
  have hz : B = 0 := Classical.byContradiction fun h0 => (bitGN_ne h0 hB _).1 h3
  rw [hz, Nat.mul_zero, Nat.xor_zero] at hn
  exact (numL_inj hl hn).symm
/-- One bit of a row turned over. -/
def flipL : List UInt8 → Nat → List UInt8
  | [], _ => []
  | b :: l, p => if p < 8 then UInt8.ofNat (b.toNat ^^^ 2 ^ p) :: l else b :: flipL l (p - 8)
theorem flipL_length (l : List UInt8) : ∀ p, (flipL l p).length = l.length := by
  induction l with
  | nil => intro p; rfl
  | cons b l ih => intro p; unfold flipL; split <;> simp [ih]
theorem byte_xor_lt {b p : Nat} (hb : b < 256) (hp : p < 8) : b ^^^ 2 ^ p < 256 := Nat.xor_lt_two_pow (n := 8) hb (Nat.pow_lt_pow_right (by decide) hp)
theorem flipL_set (l : List UInt8) : ∀ p (h : p / 8 < l.length), flipL l p = l.set (p / 8) (UInt8.ofNat (l[p / 8].toNat ^^^ 2 ^ (p % 8))) := by
  induction l with
  | nil => intro p h; simp at h
  | cons b l ih =>
    intro p h
    unfold flipL
    split
    · have h0 : p / 8 = 0 := by omega
      have h1 : p % 8 = p := by omega
      simp [h0, h1]
    · obtain ⟨q, rfl⟩ : ∃ q, p = q + 8 := ⟨p - 8, by omega⟩
      have h0 : (q + 8) / 8 = q / 8 + 1 := by omega
      have h1 : (q + 8) % 8 = q % 8 := by omega
      have h2 : q / 8 < l.length := by rw [h0] at h; simpa using h
      rw [Nat.add_sub_cancel, ih q h2]
      simp only [h0, h1, List.getElem_cons_succ, List.set_cons_succ]
theorem numL_flip (l : List UInt8) : ∀ p, p < 8 * l.length → numL (flipL l p) = numL l ^^^ 2 ^ p := by
  induction l with
  | nil => intro p h; simp at h
  | cons b l ih =>
    intro p h
    have hb := b.toNat_lt
    unfold flipL
    split
    · rename_i hp
      have hx := byte_xor_lt hb hp
      rw [numL, numL, UInt8.toNat_ofNat', Nat.mod_eq_of_lt (show b.toNat ^^^ 2 ^ p < 2 ^ 8 from hx), add_xor hx, add_xor hb, Nat.xor_assoc, Nat.xor_comm (2 ^ p), ← Nat.xor_assoc]
    · obtain ⟨q, rfl⟩ : ∃ q, p = q + 8 := ⟨p - 8, by omega⟩
      rw [Nat.add_sub_cancel, numL, numL, ih q (by rw [List.length_cons] at h; omega), add_xor hb, add_xor hb, Nat.xor_assoc]
      congr 1
      rw [show 2 ^ (q + 8) = 256 * 2 ^ q by rw [Nat.pow_add]; omega]
      have : ∀ x y : Nat, 256 * (x ^^^ y) = (256 * x) ^^^ (256 * y) := fun x y => by
        rw [show (256 : Nat) = 2 ^ 8 from rfl, Nat.mul_comm, Nat.mul_comm _ x, Nat.mul_comm _ y, ← Nat.shiftLeft_eq, ← Nat.shiftLeft_eq, ← Nat.shiftLeft_eq, Nat.shiftLeft_xor_distrib]
      exact this _ _
theorem mul_xor (f x y : Nat) : 2 ^ f * (x ^^^ y) = (2 ^ f * x) ^^^ (2 ^ f * y) := by
  rw [Nat.mul_comm, Nat.mul_comm _ x, Nat.mul_comm _ y, ← Nat.shiftLeft_eq, ← Nat.shiftLeft_eq, ← Nat.shiftLeft_eq, Nat.shiftLeft_xor_distrib]
theorem flip_step {l s : List UInt8} {first B k : Nat} (hl : l.length = s.length) (hB : B < 2 ^ k) (hn : numL l = numL s ^^^ (2 ^ first * B)) (hp : first + k < 8 * s.length) :
    (flipL l (first + k)).length = s.length ∧ (B ^^^ 2 ^ k) < 2 ^ (k + 1) ∧ numL (flipL l (first + k)) = numL s ^^^ (2 ^ first * (B ^^^ 2 ^ k)) := by
  refine ⟨by rw [flipL_length, hl], Nat.xor_lt_two_pow (Nat.lt_of_lt_of_le hB (Nat.pow_le_pow_right (by decide) (by omega))) (Nat.pow_lt_pow_right (by decide) (by omega)), ?_⟩
  rw [numL_flip _ _ (by omega), hn, mul_xor, ← Nat.xor_assoc, Nat.pow_add]
end Go.Gi
