/- OctetCut: what the law itself does. -/
import Derived.Test.YtccpbchcfgggmaaTwin
namespace Go.Proofs.Ytccpbchcfgggmaa
set_option linter.unusedVariables false
set_option linter.unusedSimpArgs false
set_option linter.unnecessarySimpa false
set_option maxRecDepth 100000
open Go.RowKit
set_option maxHeartbeats 400000 in
theorem place_b (k n : Int) (w : World) (hk : -9223372036854775808 ≤ k ∧ k ≤ 9223372036854775807) (hn : 1 ≤ n ∧ n ≤ 9223372036854775807) :
    Calls Try.prog 19 #[.int .i64 k, .int .i64 n] w fun e w' => ∃ p : Nat, (p : Int) < n ∧ e = .returned (.int .i64 p) ∧ w = w' := by
  have hn1 : ¬ n < 1 := by omega
  have h1 : k.tmod n < n := Int.tmod_lt_of_pos k (by omega)
  have h2 : -n < k.tmod n := Int.lt_tmod_of_pos k (by omega)
  obtain ⟨q, hq⟩ : ∃ q, k.tmod n = q := ⟨_, rfl⟩
  rw [hq] at h1 h2
  by_cases hneg : q < 0
  · go_enter Try.func19, Try.ntmps19
    go_wp2
    go_ret
    exact ⟨(q + n).toNat, by omega, by rw [Int.toNat_of_nonneg (by omega)]; rfl, rfl⟩
  · go_enter Try.func19, Try.ntmps19
    go_wp2
    go_ret
    exact ⟨q.toNat, by omega, by rw [Int.toNat_of_nonneg (by omega)]; rfl, rfl⟩

end Go.Proofs.Ytccpbchcfgggmaa
