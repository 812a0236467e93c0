/- CodeAll: what the law itself does. -/
import Derived.Test.YtniblgcliplbdaaCode2
namespace Go.Proofs.Ytniblgcliplbdaa
set_option linter.unusedVariables false
set_option linter.unusedSimpArgs false
open Go.RowKit
theorem ocode_61 : ocode (61 : Int).toNat = ([48, 48, 122], 0) := by decide +kernel
theorem onum_00z : onum (ByteArray.mk #[48, 48, 122]).data.toList = (61, 0) := by decide +kernel
theorem alias_abcd : alias (ByteArray.mk #[97, 98, 99, 100]) = true := by decide +kernel
theorem alias_abc : alias (ByteArray.mk #[97, 98, 99]) = false := by decide +kernel
set_option maxHeartbeats 400000 in
theorem begun16_b (w : World) : Calls Try.prog 12 #[] w fun e w' => e = .returned (.bool true) ∧ Ext w w' := by
  go_enter Try.func12, Try.ntmps12
  go_wp2_with fail
  refine (code_b 61 _ (by omega)).mono ?_
  rintro e w1 ⟨m, k, hm, rfl, hx1⟩
  have h9 := hm.out.trans ocode_61
  simp only [Prod.mk.injEq] at h9
  obtain ⟨rfl, rfl⟩ := h9
  clear hm
  go_wp2_with fail
  refine (num_b _ _ (by decide)).mono ?_
  rw [onum_00z]
  rintro e w2 ⟨rfl, rfl⟩
  go_wp2_with fail
  refine (alias_b _ _ (by decide)).mono ?_
  rw [alias_abcd]
  rintro e w2 ⟨rfl, rfl⟩
  go_wp2_with fail
  refine (alias_b _ _ (by decide)).mono ?_
  rw [alias_abc]
  rintro e w2 ⟨rfl, rfl⟩
  go_wp2_with fail
  refine (most_b _).mono ?_
  rintro e w2 ⟨rfl, rfl⟩
  go_wp2
  go_ret
  exact ⟨rfl, hx1⟩
set_option maxHeartbeats 800000 in
theorem codeAll_walk (n : Int) (s : ByteArray) (w : World) (hn : 0 ≤ n ∧ n ≤ 18446744073709551615) (hs : s.size ≤ maxLen) :
    Calls Try.prog 3 #[.int .u64 n, .string s] w fun e w' => e = .returned (.bool true) ∧ Ext w w' := by
  by_cases hl : (30 : Int) < s.size
  · go_enter Try.func3, Try.ntmps3
    go_wp2_with (go_at_call 12; refine (begun16_b _).mono ?_; rintro e w1 ⟨rfl, hx1⟩)
    all_goals go_ret
    all_goals exact ⟨rfl, hx1⟩
  · go_enter Try.func3, Try.ntmps3
    go_wp2_with (go_at_call 12; refine (begun16_b _).mono ?_; rintro e w1 ⟨rfl, hx1⟩)
    refine (code_b n _ hn).mono ?_
    rintro e w2 ⟨m, k, hm, rfl, hx2⟩
    go_wp2_with fail
    refine (rcode_b n _ hn).mono ?_
    rintro e w3 ⟨m3, k3, hm3, rfl, hx3⟩
    have h9 := hm3.out.trans hm.out.symm
    simp only [Prod.mk.injEq] at h9
    obtain ⟨rfl, rfl⟩ := h9
    clear hm hm3
    go_wp2_with fail
    have HN := hide (num_b s w3 (by omega))
    have HR := hide (rnum_b s w3 (by omega))
    have HA := hide (alias_b s w3 (by omega))
    have HB := hide (ralias_b s w3 (by omega))
    unfold RetNum at HN HR
    generalize (onum s.data.toList).1 = p at *
    generalize (onum s.data.toList).2 = q at *
    generalize alias s = r at *
    refine HN.out.mono ?_
    rintro e w4 ⟨rfl, rfl⟩
    go_wp2_with fail
    refine HR.out.mono ?_
    rintro e w4 ⟨rfl, rfl⟩
    go_wp2_with fail
    refine HA.out.mono ?_
    rintro e w4 ⟨rfl, rfl⟩
    go_wp2_with fail
    refine HB.out.mono ?_
    rintro e w4 ⟨rfl, rfl⟩
    go_wp2
    go_ret
    exact ⟨rfl, (hx1.trans' hx2).trans' hx3⟩
end Go.Proofs.Ytniblgcliplbdaa
