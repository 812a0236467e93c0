/- One bit of a byte turned. -/
import Derived.Test.YtccpbchcfgggmaaPlain
namespace Go.Proofs.Ytccpbchcfgggmaa
set_option linter.unusedVariables false
set_option linter.unusedSimpArgs false
set_option linter.unnecessarySimpa false
set_option maxRecDepth 100000
open Go.RowKit
theorem turn_bit (y : UInt8) (t : Nat) (ht : t < 8) : ∃ z : UInt8, z ≠ y ∧ bits .xor .u8 (y.toNat : Int) (2 ^ t % 256) = (z.toNat : Nat) := by
  have hy := y.toNat_lt
  have h2 : 2 ^ t < 256 := Nat.lt_of_lt_of_le (Nat.pow_lt_pow_right (by omega) ht) (by decide)
  have h0 : 0 < 2 ^ t := Nat.pow_pos (by omega)
  have hx : y.toNat ^^^ 2 ^ t < 2 ^ 8 := Nat.xor_lt_two_pow (by omega) (by omega)
  refine ⟨UInt8.ofNat (y.toNat ^^^ 2 ^ t), ?_, ?_⟩
  · intro h
    have h1 := congrArg UInt8.toNat h
    rw [UInt8.toNat_ofNat', Nat.mod_eq_of_lt hx] at h1
    have h3 := congrArg (y.toNat ^^^ ·) h1
    simp only [← Nat.xor_assoc, Nat.xor_self, Nat.zero_xor] at h3
    omega
  · have e1 : (2 : Int) ^ t % 256 = ((2 ^ t : Nat) : Int) := by
      have e2 : (2 : Int) ^ t = ((2 ^ t : Nat) : Int) := by simp
      rw [e2]; omega
    rw [e1, u8_xor_nat _ _ (by omega) h2, UInt8.toNat_ofNat', Nat.mod_eq_of_lt hx]
theorem bv_set (l : Bytes) (j : Nat) (z : UInt8) : bv (l.set j z) = (bv l).set j (.int .u8 (z.toNat : Nat)) := by simp [bv, List.map_set]
end Go.Proofs.Ytccpbchcfgggmaa
