/- Words for strings: side by side, cut. -/
import Derived.Test.YtccpbchcfgggmaaBase
namespace Go.Proofs.Ytccpbchcfgggmaa
set_option linter.unusedVariables false
set_option linter.unusedSimpArgs false
set_option linter.unnecessarySimpa false
set_option maxRecDepth 100000
open Go.RowKit
theorem run_cat (x y : Bytes) (h : (x.length : Int) + y.length ≤ 9223372036854775807) : ∀ W : World, (Op.stringOp .add ⟨x.toArray⟩ ⟨y.toArray⟩).run Try.prog W = .ok (str (x ++ y)) W := by
  intro W
  rw [run_string_add_sum W _ _ (by simp [ByteArray.size]; omega), ByteArray.mk_append_mk]
theorem extract_take (x : Bytes) (n : Nat) : (ByteArray.mk x.toArray).extract 0 n = ⟨(x.take n).toArray⟩ := by
  apply ByteArray.ext
  simp [ByteArray.data_extract]
theorem run_front (x : Bytes) (n : Nat) (k : Int) (hk : k = n) (h : n ≤ x.length) : ∀ W : World, (Instr.sliceAt 9 (str x) none (some (.int .i64 k)) none).run Try.prog W = .ok (str (x.take n)) W := by
  intro W
  subst hk
  rw [run_sliceAt_string (h := Try.underlying9), run_slice_string_h (ht := Try.underlying9) (h0 := by omega) (h2 := by simp [ByteArray.size]; omega), Int.toNat_natCast, extract_take]
end Go.Proofs.Ytccpbchcfgggmaa
