/- CodeBack: what the law itself does. -/
import Derived.Test.YtniblgcliplbdaaCodeAll
import Derived.Deep.QuietTactic
import Derived.BigQuiet
namespace Go.Proofs.Ytniblgcliplbdaa
set_option linter.unusedVariables false
set_option linter.unusedSimpArgs false
open Go.RowKit
theorem dig_sg : ∀ d : Nat, d < 62 → dig (sg d) = (d : Int) := by decide +kernel
theorem sg_dig : ∀ c : UInt8, ¬ dig c < 0 → sg (dig c).toNat = c := by
  have h : ∀ n : Nat, n < 256 → (if dig (UInt8.ofNat n) < 0 then true else sg (dig (UInt8.ofNat n)).toNat == UInt8.ofNat n) = true := by decide +kernel
  intro c hc
  have h1 := h c.toNat c.toNat_lt
  rw [show UInt8.ofNat c.toNat = c by simp] at h1
  rw [if_neg hc] at h1
  simpa using h1
theorem sg_lt : ∀ a : Nat, a < 62 → ∀ b : Nat, b < 62 → (decide (sg a < sg b) = decide (a < b) ∧ (sg a == sg b) = decide (a = b)) := by decide +kernel
def code3 (n : Nat) : Bytes := [sg (n / 3844 % 62), sg (n / 62 % 62), sg (n % 62)]
theorem ocode_lt (n : Nat) (h : n < 238328) : ocode n = (code3 n, 0) := by unfold ocode; rw [if_neg (by omega)]; rfl
theorem onfold_code3 (n : Nat) (h : n < 238328) : onfold (code3 n) 0 = some (n : Int) := by
  have h1 : n / 3844 % 62 < 62 := Nat.mod_lt _ (by omega)
  have h2 : n / 62 % 62 < 62 := Nat.mod_lt _ (by omega)
  have h3 : n % 62 < 62 := Nat.mod_lt _ (by omega)
  simp only [code3, onfold, dig_sg _ h1, dig_sg _ h2, dig_sg _ h3]
  rw [if_neg (by omega), if_neg (by omega), if_neg (by omega)]
  congr 1
  omega
theorem onum_code3 (n : Nat) (h : n < 238328) : onum (code3 n) = ((n : Int), 0) := by
  unfold onum
  rw [onfold_code3 n h]
  exact if_pos rfl
theorem less_code3 (n m : Nat) (h : n < 238328) (k : m < 238328) : Op.bytesLess (code3 n) (code3 m) = decide (n < m) := by
  have a1 : n / 3844 % 62 < 62 := Nat.mod_lt _ (by omega)
  have a2 : n / 62 % 62 < 62 := Nat.mod_lt _ (by omega)
  have a3 : n % 62 < 62 := Nat.mod_lt _ (by omega)
  have b1 : m / 3844 % 62 < 62 := Nat.mod_lt _ (by omega)
  have b2 : m / 62 % 62 < 62 := Nat.mod_lt _ (by omega)
  have b3 : m % 62 < 62 := Nat.mod_lt _ (by omega)
  simp only [code3, Op.bytesLess, (sg_lt _ a1 _ b1).1, (sg_lt _ a1 _ b1).2, (sg_lt _ a2 _ b2).1, (sg_lt _ a2 _ b2).2, (sg_lt _ a3 _ b3).1, (sg_lt _ a3 _ b3).2, Bool.and_false, Bool.or_false]
  rw [Bool.eq_iff_iff]
  simp only [Bool.or_eq_true, Bool.and_eq_true, decide_eq_true_eq]
  omega
theorem ocode_onum (l : Bytes) (v : Int) (h : onum l = (v, 0)) : 0 ≤ v ∧ v < 238328 ∧ ocode v.toNat = (l, 0) := by
  unfold onum at h
  split at h
  · rename_i hl
    obtain ⟨a, b, c, rfl⟩ : ∃ a b c, l = [a, b, c] := by
      match l, hl with
      | [a, b, c], _ => exact ⟨a, b, c, rfl⟩
    split at h
    · rename_i v' hv
      obtain rfl : v' = v := (Prod.mk.inj h).1
      simp only [onfold] at hv
      split at hv
      · cases hv
      · split at hv
        · cases hv
        · split at hv
          · cases hv
          · rename_i ha hb hc
            have e := Option.some.inj hv
            have b1 := dig_bounds a
            have b2 := dig_bounds b
            have b3 := dig_bounds c
            have s1 := sg_dig a ha
            have s2 := sg_dig b hb
            have s3 := sg_dig c hc
            refine ⟨by omega, by omega, ?_⟩
            rw [ocode_lt _ (by omega), code3]
            have e1 : v'.toNat / 3844 % 62 = (dig a).toNat := by omega
            have e2 : v'.toNat / 62 % 62 = (dig b).toNat := by omega
            have e3 : v'.toNat % 62 = (dig c).toNat := by omega
            rw [e1, e2, e3, s1, s2, s3]
    · cases (Prod.mk.inj h).2
  · cases (Prod.mk.inj h).2
theorem onum_or (l : Bytes) : (∃ v : Int, onum l = (v, 0)) ∨ onum l = (0, 9) := by
  unfold onum
  split
  · split
    · exact .inl ⟨_, rfl⟩
    · exact .inr rfl
  · exact .inr rfl
theorem not_alias3 (n : Nat) : alias ⟨(code3 n).toArray⟩ = false := (no_alias _ fun h => by obtain ⟨h4, _⟩ := h; have : (ByteArray.mk (code3 n).toArray).size = 3 := rfl; omega).out
set_option maxHeartbeats 1600000 in
theorem codeBack_walk (n m : Int) (s : ByteArray) (w : World) (hn : 0 ≤ n ∧ n ≤ 4294967295) (hm : 0 ≤ m ∧ m ≤ 4294967295) (hs : s.size ≤ maxLen) :
    Calls Try.prog 4 #[.int .u32 n, .int .u32 m, .string s] w fun e w' => e = .returned (.bool true) ∧ Ext w w' := by
  by_cases hl : (30 : Int) < s.size
  · go_enter Try.func4, Try.ntmps4
    go_wp2_with (go_at_call 12; refine (begun16_b _).mono ?_; rintro e w1 ⟨rfl, hx1⟩)
    all_goals go_ret
    all_goals exact ⟨rfl, hx1⟩
  · go_enter Try.func4, Try.ntmps4
    go_wp2_with (go_at_call 12; refine (begun16_b _).mono ?_; rintro e w1 ⟨rfl, hx1⟩)
    go_quiet ((go_at_call 19; exact Calls.quiet_of_same ((most_b _).mono fun _ _ h => ⟨h.1, h.2.symm⟩)))
    obtain ⟨N, hN⟩ : ∃ N : Int, N = n % 238328 := ⟨_, rfl⟩
    obtain ⟨M, hM⟩ : ∃ M : Int, M = m % 238328 := ⟨_, rfl⟩
    rw [← hN, ← hM]
    have n1 : 0 ≤ N ∧ N < 238328 := by omega
    have m1 : 0 ≤ M ∧ M < 238328 := by omega
    clear hN hM
    obtain ⟨p, rfl⟩ := Int.eq_ofNat_of_zero_le n1.1
    obtain ⟨q, rfl⟩ := Int.eq_ofNat_of_zero_le m1.1
    have p1 : p < 238328 := by omega
    have q1 : q < 238328 := by omega
    have L1 : Hid (Op.bytesLess (code3 p) (code3 q) = decide (p < q)) := hide (less_code3 p q p1 q1)
    have A1 : Hid (alias ⟨(code3 p).toArray⟩ = false) := hide (not_alias3 p)
    have C1 : Hid (ocode p = (code3 p, 0)) := hide (ocode_lt p p1)
    have C2 : Hid (ocode q = (code3 q, 0)) := hide (ocode_lt q q1)
    have D1 : Hid (onum (code3 p) = ((p : Int), 0)) := hide (onum_code3 p p1)
    have S3 : Hid ((ByteArray.mk (code3 p).toArray).size = 3) := hide rfl
    have O1 := hide (ocode_onum s.data.toList)
    have P1 := hide p1
    have Q1 := hide q1
    clear p1 q1 n1 m1
    go_wp2_with fail
    refine (code_b p _ (by have := P1.out; omega)).mono ?_
    rintro e w2 ⟨a, k, hm2, rfl, hx2⟩
    have h9 := hm2.out.trans C1.out
    simp only [Prod.mk.injEq] at h9
    obtain ⟨rfl, rfl⟩ := h9
    clear hm2
    go_wp2_with fail
    refine (code_b q _ (by have := Q1.out; omega)).mono ?_
    rintro e w3 ⟨a, k, hm2, rfl, hx3⟩
    have h9 := hm2.out.trans C2.out
    simp only [Prod.mk.injEq] at h9
    obtain ⟨rfl, rfl⟩ := h9
    clear hm2
    go_wp2_with fail
    refine (num_b _ _ (by rw [S3.out]; omega)).mono ?_
    rintro e w4 ⟨he, rfl⟩
    have h9 : onum (ByteArray.mk (code3 p).toArray).data.toList = ((p : Int), 0) := D1.out
    rw [h9] at he
    subst he
    clear h9
    have HS := hide (num_b s w3 (by omega))
    rcases onum_or s.data.toList with ⟨V, hV⟩ | hV
    · rw [hV] at HS
      obtain ⟨v0, v1, v2⟩ := O1.out V hV
      obtain ⟨v, rfl⟩ := Int.eq_ofNat_of_zero_le v0
      have V2 := hide v2
      have V1 : Hid ((0 : Int) ≤ v ∧ (v : Int) ≤ 18446744073709551615) := ⟨by omega, by omega⟩
      clear v1 v2 hV v0
      go_wp2_with fail
      refine HS.out.mono ?_
      rintro e w4 ⟨rfl, rfl⟩
      go_wp2_with fail
      refine (code_b v _ V1.out).mono ?_
      rintro e w4 ⟨a, k, hm2, rfl, hx4⟩
      have h9 := hm2.out.trans V2.out
      simp only [Prod.mk.injEq] at h9
      obtain ⟨rfl, rfl⟩ := h9
      clear hm2
      have l1 := L1.out
      have l2 : (((code3 p).length : Int) == 3) = true := rfl
      by_cases hpq : p < q
      · simp only [hpq, decide_true] at l1
        go_wp2_with fail
        refine (alias_b _ _ (by rw [S3.out]; omega)).mono ?_
        rw [A1.out]
        rintro e w5 ⟨rfl, rfl⟩
        go_wp2
        all_goals go_ret
        all_goals exact ⟨rfl, ((hx1.drewN' nq).trans' hx2).trans' (hx3.trans' hx4)⟩
      · simp only [hpq, decide_false] at l1
        go_wp2_with fail
        refine (alias_b _ _ (by rw [S3.out]; omega)).mono ?_
        rw [A1.out]
        rintro e w5 ⟨rfl, rfl⟩
        go_wp2
        all_goals go_ret
        all_goals exact ⟨rfl, ((hx1.drewN' nq).trans' hx2).trans' (hx3.trans' hx4)⟩
    · rw [hV] at HS
      clear hV
      go_wp2_with fail
      refine HS.out.mono ?_
      rintro e w4 ⟨rfl, rfl⟩
      go_wp2_with fail
      refine (code_b 0 _ (by omega)).mono ?_
      rintro e w4 ⟨a, k, hm2, rfl, hx4⟩
      clear hm2
      have l1 := L1.out
      have l2 : (((code3 p).length : Int) == 3) = true := rfl
      by_cases hpq : p < q
      · simp only [hpq, decide_true] at l1
        go_wp2_with fail
        refine (alias_b _ _ (by rw [S3.out]; omega)).mono ?_
        rw [A1.out]
        rintro e w5 ⟨rfl, rfl⟩
        go_wp2
        all_goals go_ret
        all_goals exact ⟨rfl, ((hx1.drewN' nq).trans' hx2).trans' (hx3.trans' hx4)⟩
      · simp only [hpq, decide_false] at l1
        go_wp2_with fail
        refine (alias_b _ _ (by rw [S3.out]; omega)).mono ?_
        rw [A1.out]
        rintro e w5 ⟨rfl, rfl⟩
        go_wp2
        all_goals go_ret
        all_goals exact ⟨rfl, ((hx1.drewN' nq).trans' hx2).trans' (hx3.trans' hx4)⟩
end Go.Proofs.Ytniblgcliplbdaa
