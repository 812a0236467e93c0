import Derived.Test.YtggfemdgccgbpaaPk18
import Derived.Deep.QuietTactic
import Derived.BigQuiet
/- CodeAll: what the law itself does. -/
namespace Go.Proofs.Ytggfemdgccgbpaa
set_option linter.unusedVariables false
set_option linter.unusedSimpArgs false
set_option linter.unnecessarySimpa false
set_option maxRecDepth 100000
open Go.RowKit
theorem ocode_61 : ocode (61 : Int).toNat = ([48, 48, 122], 0) := by decide +kernel
theorem onum_00z : onum (ByteArray.mk #[48, 48, 122]).data.toList = (61, 0) := by decide +kernel
theorem alias_abcd : alias (ByteArray.mk #[97, 98, 99, 100]) = true := by decide +kernel
theorem alias_abc : alias (ByteArray.mk #[97, 98, 99]) = false := by decide +kernel






































































end Go.Proofs.Ytggfemdgccgbpaa

/- CodeBack: what the law itself does. -/
namespace Go.Proofs.Ytggfemdgccgbpaa
set_option linter.unusedVariables false
set_option linter.unusedSimpArgs false
set_option linter.unnecessarySimpa false
set_option maxRecDepth 100000
open Go.RowKit
theorem dig_sg : ∀ d : Nat, d < 62 → dig (sg d) = (d : Int) := by decide +kernel
theorem sg_dig : ∀ c : UInt8, ¬ dig c < 0 → sg (dig c).toNat = c := by
  have h : ∀ n : Nat, n < 256 → (if dig (UInt8.ofNat n) < 0 then true else sg (dig (UInt8.ofNat n)).toNat == UInt8.ofNat n) = true := by decide +kernel
  intro c hc
  have h1 := h c.toNat c.toNat_lt
  rw [show UInt8.ofNat c.toNat = c by simp] at h1
  rw [if_neg hc] at h1
  simpa using h1
theorem sg_lt : ∀ a : Nat, a < 62 → ∀ b : Nat, b < 62 → (decide (sg a < sg b) = decide (a < b) ∧ (sg a == sg b) = decide (a = b)) := by decide +kernel
def code3 (n : Nat) : Bytes := [sg (n / 3844 % 62), sg (n / 62 % 62), sg (n % 62)]
theorem ocode_lt (n : Nat) (h : n < 238328) : ocode n = (code3 n, 0) := by unfold ocode; rw [if_neg (by omega)]; rfl
theorem onfold_code3 (n : Nat) (h : n < 238328) : onfold (code3 n) 0 = some (n : Int) := by
  have h1 : n / 3844 % 62 < 62 := Nat.mod_lt _ (by omega)
  have h2 : n / 62 % 62 < 62 := Nat.mod_lt _ (by omega)
  have h3 : n % 62 < 62 := Nat.mod_lt _ (by omega)
  simp only [code3, onfold, dig_sg _ h1, dig_sg _ h2, dig_sg _ h3]
  rw [if_neg (by omega), if_neg (by omega), if_neg (by omega)]
  congr 1
  omega
theorem onum_code3 (n : Nat) (h : n < 238328) : onum (code3 n) = ((n : Int), 0) := by
  unfold onum
  rw [onfold_code3 n h]
  exact if_pos rfl
theorem less_code3 (n m : Nat) (h : n < 238328) (k : m < 238328) : Op.bytesLess (code3 n) (code3 m) = decide (n < m) := by
  have a1 : n / 3844 % 62 < 62 := Nat.mod_lt _ (by omega)
  have a2 : n / 62 % 62 < 62 := Nat.mod_lt _ (by omega)
  have a3 : n % 62 < 62 := Nat.mod_lt _ (by omega)
  have b1 : m / 3844 % 62 < 62 := Nat.mod_lt _ (by omega)
  have b2 : m / 62 % 62 < 62 := Nat.mod_lt _ (by omega)
  have b3 : m % 62 < 62 := Nat.mod_lt _ (by omega)
  simp only [code3, Op.bytesLess, (sg_lt _ a1 _ b1).1, (sg_lt _ a1 _ b1).2, (sg_lt _ a2 _ b2).1, (sg_lt _ a2 _ b2).2, (sg_lt _ a3 _ b3).1, (sg_lt _ a3 _ b3).2, Bool.and_false, Bool.or_false]
  rw [Bool.eq_iff_iff]
  simp only [Bool.or_eq_true, Bool.and_eq_true, decide_eq_true_eq]
  omega
theorem ocode_onum (l : Bytes) (v : Int) (h : onum l = (v, 0)) : 0 ≤ v ∧ v < 238328 ∧ ocode v.toNat = (l, 0) := by
  unfold onum at h
  split at h
  · rename_i hl
    obtain ⟨a, b, c, rfl⟩ : ∃ a b c, l = [a, b, c] := by
      match l, hl with
      | [a, b, c], _ => exact ⟨a, b, c, rfl⟩
    split at h
    · rename_i v' hv
      obtain rfl : v' = v := (Prod.mk.inj h).1
      simp only [onfold] at hv
      split at hv
      · cases hv
      · split at hv
        · cases hv
        · split at hv
          · cases hv
          · rename_i ha hb hc
            have e := Option.some.inj hv
            have b1 := dig_bounds a
            have b2 := dig_bounds b
            have b3 := dig_bounds c
            have s1 := sg_dig a ha
            have s2 := sg_dig b hb
            have s3 := sg_dig c hc
            refine ⟨by omega, by omega, ?_⟩
            rw [ocode_lt _ (by omega), code3]
            have e1 : v'.toNat / 3844 % 62 = (dig a).toNat := by omega
            have e2 : v'.toNat / 62 % 62 = (dig b).toNat := by omega
            have e3 : v'.toNat % 62 = (dig c).toNat := by omega
            rw [e1, e2, e3, s1, s2, s3]
    · cases (Prod.mk.inj h).2
  · cases (Prod.mk.inj h).2
theorem onum_or (l : Bytes) : (∃ v : Int, onum l = (v, 0)) ∨ onum l = (0, 9) := by
  unfold onum
  split
  · split
    · exact .inl ⟨_, rfl⟩
    · exact .inr rfl
  · exact .inr rfl
theorem not_alias3 (n : Nat) : alias ⟨(code3 n).toArray⟩ = false := (no_alias _ fun h => by obtain ⟨h4, _⟩ := h; have : (ByteArray.mk (code3 n).toArray).size = 3 := rfl; omega).out





















































































































end Go.Proofs.Ytggfemdgccgbpaa

