
/- The sum of bytes, as plain numbers: no program in sight. -/
namespace Go.Proofs.Ytboncnlcomeahaa.Crc
set_option linter.unusedVariables false
set_option linter.unusedSimpArgs false
set_option linter.unnecessarySimpa false
set_option maxRecDepth 100000
/-- one bit of a sum taken in -/
def step (c : Nat) : Nat := c / 2 ^^^ (if c % 2 = 1 then 3988292384 else 0)
def steps : Nat → Nat → Nat
  | 0, c => c
  | n + 1, c => steps n (step c)
theorem steps_succ (n c : Nat) : steps (n + 1) c = step (steps n c) := by
  induction n generalizing c with
  | zero => rfl
  | succ n ih => rw [steps, ih]; rfl
def tab (i : Nat) : Nat := steps 8 i
/-- one byte taken in -/
def byte (c : Nat) (x : UInt8) : Nat := tab (c % 256 ^^^ x.toNat) ^^^ c / 256
def from_ (c : Nat) (l : List UInt8) : Nat := l.foldl byte c
def sum (l : List UInt8) : Nat := 4294967295 - from_ 4294967295 l
theorem div2_xor (a b : Nat) : (a ^^^ b) / 2 = a / 2 ^^^ b / 2 := by
  have := @Nat.shiftRight_xor_distrib 1 a b
  simpa [Nat.shiftRight_eq_div_pow] using this
theorem mod2_xor (a b : Nat) : (a ^^^ b) % 2 = 1 ↔ ¬ (a % 2 = 1 ↔ b % 2 = 1) := by
  have h := Nat.testBit_xor (x := a) (y := b) (i := 0)
  simp only [Nat.testBit_zero] at h
  have h2 : decide ((a ^^^ b) % 2 = 1) = true ↔ ((decide (a % 2 = 1)) ^^ (decide (b % 2 = 1))) = true := by rw [h]
  simp only [decide_eq_true_eq] at h2
  rw [h2]
  by_cases ha : a % 2 = 1 <;> by_cases hb : b % 2 = 1 <;> simp [ha, hb]
theorem step_xor (a b : Nat) : step (a ^^^ b) = step a ^^^ step b := by
  unfold step
  rw [div2_xor]
  have h := mod2_xor a b
  by_cases ha : a % 2 = 1 <;> by_cases hb : b % 2 = 1
  · rw [if_neg (by rw [h]; simp [ha, hb]), if_pos ha, if_pos hb]
    simp only [Nat.xor_zero]
    rw [Nat.xor_assoc, Nat.xor_comm 3988292384, Nat.xor_assoc, Nat.xor_self, Nat.xor_zero]
  · rw [if_pos (by rw [h]; simp [ha, hb]), if_pos ha, if_neg hb, Nat.xor_zero, Nat.xor_assoc, Nat.xor_assoc, Nat.xor_comm 3988292384]
  · rw [if_pos (by rw [h]; simp [ha, hb]), if_neg ha, if_pos hb, Nat.xor_zero, Nat.xor_assoc]
  · rw [if_neg (by rw [h]; simp [ha, hb]), if_neg ha, if_neg hb]
    simp
theorem steps_xor (n a b : Nat) : steps n (a ^^^ b) = steps n a ^^^ steps n b := by
  induction n generalizing a b with
  | zero => rfl
  | succ n ih => rw [steps, step_xor, ih]; rfl
theorem step_two (c : Nat) : step (2 * c) = c := by
  unfold step
  rw [if_neg (by omega)]
  simp
theorem steps_pow (n c : Nat) : steps n (2 ^ n * c) = c := by
  induction n generalizing c with
  | zero => simp [steps]
  | succ n ih => rw [steps, show 2 ^ (n + 1) * c = 2 * (2 ^ n * c) by rw [Nat.pow_succ]; simp [Nat.mul_comm, Nat.mul_left_comm], step_two, ih]
theorem split256 (c : Nat) : c = (c % 256) ^^^ (256 * (c / 256)) := by
  have h := Nat.two_pow_add_eq_or_of_lt (i := 8) (b := c % 256) (by omega) (c / 256)
  have h2 : 256 * (c / 256) + c % 256 = c := by omega
  simp only [Nat.reducePow] at h
  apply Nat.eq_of_testBit_eq
  intro i
  rw [Nat.testBit_xor]
  have e : (256 : Nat) = 2 ^ 8 := rfl
  rw [e, Nat.testBit_mod_two_pow, Nat.testBit_two_pow_mul, Nat.testBit_div_two_pow]
  by_cases hi : i < 8
  · simp [hi, show ¬ i ≥ 8 by omega]
  · simp [hi, show i ≥ 8 by omega, show i - 8 + 8 = i by omega]
/-- eight bits at once are one look into the table -/
theorem steps_byte (c : Nat) (x : UInt8) : steps 8 (c ^^^ x.toNat) = byte c x := by
  have h := split256 c
  have e : c ^^^ x.toNat = (c % 256 ^^^ x.toNat) ^^^ (2 ^ 8 * (c / 256)) := by
    conv => lhs; rw [h]
    rw [Nat.xor_assoc, Nat.xor_comm (256 * (c / 256)), Nat.xor_assoc]
  rw [e, steps_xor, steps_pow]
  rfl
theorem step_lt (c : Nat) (h : c < 4294967296) : step c < 4294967296 := by
  unfold step
  exact Nat.xor_lt_two_pow (n := 32) (by omega) (by split <;> omega)
theorem steps_lt (n c : Nat) (h : c < 4294967296) : steps n c < 4294967296 := by
  induction n generalizing c with
  | zero => exact h
  | succ n ih => exact ih _ (step_lt c h)
theorem byte_lt (c : Nat) (x : UInt8) (h : c < 4294967296) : byte c x < 4294967296 := by
  rw [← steps_byte]
  have := x.toNat_lt
  exact steps_lt _ _ (Nat.xor_lt_two_pow (n := 32) h (by omega))
theorem from_lt (l : List UInt8) (c : Nat) (h : c < 4294967296) : from_ c l < 4294967296 := by
  induction l generalizing c with
  | nil => exact h
  | cons x l ih => exact ih _ (byte_lt c x h)
theorem sum_lt (l : List UInt8) : sum l < 4294967296 := by unfold sum; omega
theorem from_append (l m : List UInt8) (c : Nat) : from_ c (l ++ m) = from_ (from_ c l) m := by simp [from_, List.foldl_append]
theorem step_inj (a b : Nat) (ha : a < 4294967296) (hb : b < 4294967296) (h : step a = step b) : a = b := by
  have h0 : step (a ^^^ b) = 0 := by rw [step_xor, h, Nat.xor_self]
  have hlt : a ^^^ b < 4294967296 := Nat.xor_lt_two_pow (n := 32) ha hb
  have hz : a ^^^ b = 0 := by
    generalize a ^^^ b = d at *
    unfold step at h0
    by_cases hd : d % 2 = 1
    · rw [if_pos hd] at h0
      have h1 : d / 2 = 3988292384 := by
        have := congrArg (· ^^^ 3988292384) h0
        simp only [Nat.xor_assoc, Nat.xor_self, Nat.xor_zero, Nat.zero_xor] at this
        exact this
      omega
    · rw [if_neg hd] at h0
      simp at h0
      omega
  have := congrArg (· ^^^ b) hz
  simpa [Nat.xor_assoc] using this
theorem steps_inj (n a b : Nat) (ha : a < 4294967296) (hb : b < 4294967296) (h : steps n a = steps n b) : a = b := by
  induction n generalizing a b with
  | zero => exact h
  | succ n ih => exact step_inj a b ha hb (ih _ _ (step_lt a ha) (step_lt b hb) h)
theorem xor_left_inj (a b c : Nat) (h : a ^^^ c = b ^^^ c) : a = b := by
  have := congrArg (· ^^^ c) h
  simpa [Nat.xor_assoc] using this
theorem xor_right_inj (a b c : Nat) (h : c ^^^ a = c ^^^ b) : a = b := by
  rw [Nat.xor_comm c, Nat.xor_comm c] at h
  exact xor_left_inj a b c h
theorem byte_inj (a b : Nat) (x : UInt8) (ha : a < 4294967296) (hb : b < 4294967296) (h : byte a x = byte b x) : a = b := by
  rw [← steps_byte, ← steps_byte] at h
  have hx := x.toNat_lt
  exact xor_left_inj _ _ _ (steps_inj 8 _ _ (Nat.xor_lt_two_pow (n := 32) ha (by omega)) (Nat.xor_lt_two_pow (n := 32) hb (by omega)) h)
theorem byte_inj2 (a : Nat) (x y : UInt8) (ha : a < 4294967296) (h : byte a x = byte a y) : x = y := by
  rw [← steps_byte, ← steps_byte] at h
  have hx := x.toNat_lt
  have hy := y.toNat_lt
  have := xor_right_inj _ _ _ (steps_inj 8 _ _ (Nat.xor_lt_two_pow (n := 32) ha (by omega)) (Nat.xor_lt_two_pow (n := 32) ha (by omega)) h)
  exact UInt8.toNat_inj.1 this
theorem from_inj (l : List UInt8) (a b : Nat) (ha : a < 4294967296) (hb : b < 4294967296) (h : from_ a l = from_ b l) : a = b := by
  induction l generalizing a b with
  | nil => exact h
  | cons x l ih => exact byte_inj a b x ha hb (ih _ _ (byte_lt a x ha) (byte_lt b x hb) h)
/-- Bytes that part in one byte alone have other sums. -/
theorem sum_one (p q : List UInt8) (x y : UInt8) (h : sum (p ++ x :: q) = sum (p ++ y :: q)) : x = y := by
  have h1 := from_lt (p ++ x :: q) 4294967295 (by omega)
  have h2 := from_lt (p ++ y :: q) 4294967295 (by omega)
  have h3 : from_ 4294967295 (p ++ x :: q) = from_ 4294967295 (p ++ y :: q) := by unfold sum at h; omega
  rw [from_append, from_append] at h3
  have hp := from_lt p 4294967295 (by omega)
  exact byte_inj2 _ x y hp (from_inj q _ _ (byte_lt _ x hp) (byte_lt _ y hp) h3)
end Go.Proofs.Ytboncnlcomeahaa.Crc

