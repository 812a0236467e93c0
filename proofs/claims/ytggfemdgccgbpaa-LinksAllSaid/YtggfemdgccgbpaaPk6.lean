import Derived.Test.YtggfemdgccgbpaaPk2
import Derived.Test.YtggfemdgccgbpaaPk5
import Derived.Deep.WholeRow
import Derived.Lib.SlBytesConst
/- octet: the sum of bytes, frames. -/
namespace Go.Proofs.Ytggfemdgccgbpaa
set_option linter.unusedVariables false
set_option linter.unusedSimpArgs false
set_option linter.unnecessarySimpa false
set_option maxRecDepth 100000
open Go.RowKit

theorem crc_step (c : Nat) (h : c < 4294967296) :
    bits .xor .u32 ((c : Int) / 2) (bits .and .u32 3988292384 (-bits .and .u32 (c : Int) 1 % 4294967296)) = (Crc.step c : Nat) := by
  have e1 : bits .and .u32 (c : Int) 1 = ((c % 2 : Nat) : Int) := by
    have := u32_and_nat c 1 h (by omega)
    rw [Nat.and_one_is_mod] at this
    exact this
  rw [e1]
  have e2 : (c : Int) / 2 = ((c / 2 : Nat) : Int) := by omega
  rw [e2]
  unfold Crc.step
  rcases Nat.mod_two_eq_zero_or_one c with h0 | h0
  · rw [h0, if_neg (by omega)]
    have := u32_xor_nat (c / 2) 0 (by omega) (by omega)
    exact this
  · rw [h0, if_pos rfl]
    have := u32_xor_nat (c / 2) 3988292384 (by omega) (by omega)
    exact this
theorem tab_one (T : Array Value) (h : Hid (T.size = 256)) (hk : Hid (∀ k, k < 256 → T[k]? = some (.int .u32 (Crc.tab k : Nat)))) : T.all (·.oneCell') = true := by
  rw [Array.all_eq_true]
  intro i hi
  have := hk.out i (by have := h.out; omega)
  rw [Array.getElem?_eq_getElem hi] at this
  rw [Option.some.inj this]; rfl
def tabZ : Array Value := Array.replicate 256 (.int .u32 0)
theorem tabZ_size : tabZ.size = 256 := by simp [tabZ]



























































theorem u8_xor_nat (a b : Nat) (ha : a < 256) (hb : b < 256) : bits .xor .u8 (a : Int) (b : Int) = ((a ^^^ b : Nat) : Int) := by
  have hx : a ^^^ b < 2 ^ 8 := Nat.xor_lt_two_pow (by omega) (by omega)
  show IntKind.u8.wrap ((BitVec.ofInt 8 (a : Int) ^^^ BitVec.ofInt 8 (b : Int)).toNat : Int) = _
  rw [BitVec.toNat_xor, BitVec.ofInt_natCast, BitVec.ofInt_natCast, BitVec.toNat_ofNat, BitVec.toNat_ofNat, IntKind.wrap_u8, Nat.mod_eq_of_lt (by omega), Nat.mod_eq_of_lt (by omega)]
  omega
theorem crc_byte (c : Nat) (x : UInt8) (h : c < 4294967296) : ∃ n : Nat, (n : Int) ≤ 255 ∧ bits .xor .u8 ((c : Int) % 256) (x.toNat : Int) = (n : Int) ∧
    Hid (bits .xor .u32 (Crc.tab n : Nat) ((c : Int) / 256) = (Crc.byte c x : Nat)) := by
  have hx := x.toNat_lt
  have hn : (c % 256 ^^^ x.toNat) < 2 ^ 8 := Nat.xor_lt_two_pow (by omega) (by omega)
  refine ⟨c % 256 ^^^ x.toNat, by omega, ?_, ?_⟩
  · have := u8_xor_nat (c % 256) x.toNat (by omega) (by omega)
    rw [← this]; simp
  · have e := u32_xor_nat (Crc.tab (c % 256 ^^^ x.toNat)) (c / 256) (Crc.steps_lt 8 _ (by omega)) (by omega)
    have e2 : ((c / 256 : Nat) : Int) = (c : Int) / 256 := by omega
    rw [e2] at e
    exact e
theorem crc_end (c : Nat) (h : c < 4294967296) : bits .xor .u32 IntKind.u32.max (c : Int) = ((4294967295 - c : Nat) : Int) := by
  have e1 : IntKind.u32.max = ((4294967295 : Nat) : Int) := by decide
  rw [e1, u32_xor_nat _ _ (by omega) h]
  have e2 : (BitVec.ofNat 32 c ^^^ BitVec.allOnes 32).toNat = 4294967295 - c := by
    rw [BitVec.xor_allOnes, BitVec.toNat_not, BitVec.toNat_ofNat, Nat.mod_eq_of_lt (by omega)]
  rw [BitVec.toNat_xor, BitVec.toNat_ofNat, Nat.mod_eq_of_lt (by omega), BitVec.toNat_allOnes] at e2
  rw [Nat.xor_comm]
  exact congrArg Int.ofNat e2

































































def oframe (b : Bytes) : Bytes := be 4 b.length ++ be 4 (Crc.sum b) ++ b
theorem oput_n (b : Bytes) (v n : Nat) (h : n ≤ 8) : oput b v n = b ++ be n v := by rw [oput, if_neg (by omega)]; simp
































def ounframe (b : Bytes) : Bytes × Int × Int :=
  if b.length < 8 ∨ b.length - 8 < val (b.take 4) then ([], 0, 3)
  else if Crc.sum ((b.drop 8).take (val (b.take 4))) ≠ val ((b.drop 4).take 4) then ([], 0, 2)
  else ((b.drop 8).take (val (b.take 4)), ((8 + val (b.take 4) : Nat) : Int), 0)

















theorem unframe_short (b : Bytes) (h : b.length < 8 ∨ b.length - 8 < val (b.take 4)) : ounframe b = ([], 0, 3) := if_pos h






































































theorem Ext.allocM {a b : World} (h : Ext a b) (o : Obj) : Ext a (b.alloc o) := Below.alloc h h.size o
theorem lit_12 (w : World) (g : Nat) (hg : w.heap.size = g) : Bs (w.alloc (.cells #[.int .u8 1, .int .u8 2] 5)) (.slice (some ⟨g, 0, none⟩) 2 2) [1, 2] := Bs.lit 5 [1, 2] g hg (by simp [maxLen]) (0, 0)
theorem lit_7 (w : World) (g : Nat) (hg : w.heap.size = g) : Bs (w.alloc (.cells #[.int .u8 7] 5)) (.slice (some ⟨g, 0, none⟩) 1 1) [7] := Bs.lit 5 [7] g hg (by simp [maxLen]) (0, 0)
theorem lit_8 (w : World) (g : Nat) (hg : w.heap.size = g) : Bs (w.alloc (.cells #[.int .u8 8] 5)) (.slice (some ⟨g, 0, none⟩) 1 1) [8] := Bs.lit 5 [8] g hg (by simp [maxLen]) (0, 0)
theorem lit_19 (w : World) (g : Nat) (hg : w.heap.size = g) : Bs (w.alloc (.cells #[.int .u8 49, .int .u8 50, .int .u8 51, .int .u8 52, .int .u8 53, .int .u8 54, .int .u8 55, .int .u8 56, .int .u8 57] 5 (9, 10))) (.slice (some ⟨g, 0, none⟩) 9 9) [49, 50, 51, 52, 53, 54, 55, 56, 57] :=
  Bs.lit 5 [49, 50, 51, 52, 53, 54, 55, 56, 57] g hg (by simp [maxLen]) (9, 10)



















































end Go.Proofs.Ytggfemdgccgbpaa

