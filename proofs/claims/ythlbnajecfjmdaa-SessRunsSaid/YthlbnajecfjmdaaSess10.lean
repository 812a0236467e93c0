/- law19.text. -/
import Derived.Test.YthlbnajecfjmdaaSess9
namespace Go.Proofs.Ythlbnajecfjmdaa
set_option linter.unusedVariables false
set_option linter.unusedSimpArgs false
set_option linter.unnecessarySimpa false
set_option maxRecDepth 100000
open Go.RowKit
def tx (who seq : Int) : Bytes := [UInt8.ofNat (97 + who).toNat, UInt8.ofNat seq.toNat]
theorem u8_of {n : Int} (h0 : 0 ≤ n) (h1 : n < 256) : (((UInt8.ofNat n.toNat).toNat : Nat) : Int) = n := by
  have : (UInt8.ofNat n.toNat).toNat = n.toNat := by
    rw [UInt8.toNat_ofNat']
    exact Nat.mod_eq_of_lt (by omega)
  rw [this]
  omega
set_option maxHeartbeats 800000 in
theorem text19_b (who seq : Int) (w : World) (h0 : 0 ≤ who) (h1 : who < 4) (h2 : 1 ≤ seq) (h3 : seq ≤ 60) : Calls Try.prog 17 #[.int .i64 who, .int .u64 seq] w fun e w' => e = .returned (str (tx who seq)) ∧ Ext w w' := by
  have hs : (convert 54 9 (.slice (some ⟨w.heap.size, 0, none⟩) 2 2)).run Try.prog (w.alloc (.cells #[.int .u8 (97 + who), .int .u8 seq] 5)) = .ok (str (tx who seq)) (w.alloc (.cells #[.int .u8 (97 + who), .int .u8 seq] 5)) := by
    have h := run_str (P := Try.prog) (Bs.lit (w := w) 5 (tx who seq) w.heap.size rfl (by simp [maxLen, tx]) (0, 0)) Try.underlying54 Try.underlying5 Try.underlying9
    have e : (bv (tx who seq)).toArray = #[.int .u8 (97 + who), .int .u8 seq] := by
      simp only [bv, tx, List.map_cons, List.map_nil]
      rw [u8_of (by omega) (by omega), u8_of (by omega) (by omega)]
    rw [e] at h
    exact h
  go_enter Try.func17, Try.ntmps17
  go_wp2
  go_ret
  exact ⟨rfl, (Ext.rfl' w).alloc' _⟩
end Go.Proofs.Ythlbnajecfjmdaa
