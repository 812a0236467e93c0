import Derived.Test.YtboncnlcomeahaaPk8
import Derived.Test.YtboncnlcomeahaaPk1
/- Parts of slices that read as plain lists. -/
namespace Go.Proofs.Ytboncnlcomeahaa
set_option linter.unusedVariables false
set_option linter.unusedSimpArgs false
set_option linter.unnecessarySimpa false
set_option maxRecDepth 100000
open Go.RowKit
section
variable {α : Type} {E : Enc α} {w : World} {X : Avoid} {A : Option Addr} {n c k : Nat} {l : List α}
theorem Sl.front (h : Enc.Sl E w X (.slice A n c) l) (hk : k ≤ l.length) : Enc.Sl E w X (.slice A k c) (l.take k) := by
  obtain ⟨A', c', css, e, h1, h2, h3, h4, h5⟩ := h
  simp only [Value.slice.injEq] at e
  obtain ⟨rfl, rfl, rfl⟩ := e
  have hl : (l.take k).length = k := by rw [List.length_take, Nat.min_eq_left hk]
  refine ⟨A, c, css.take k, by rw [hl], by rw [hl]; omega, h2, ?_, fun ad he h0 => h4 ad he (by rw [hl] at h0; omega), h5.take k⟩
  rw [hl, ← flat_take css E.size k h5.lens]
  exact h3.front hk
theorem Sl.rest (h : Enc.Sl E w X (.slice A n c) l) (hk : k ≤ l.length) : Enc.Sl E w X (.slice (cutA E.size A c k) (l.length - k) (c - k)) (l.drop k) := by
  obtain ⟨A', c', css, e, h1, h2, h3, h4, h5⟩ := h
  simp only [Value.slice.injEq] at e
  obtain ⟨rfl, rfl, rfl⟩ := e
  have hl : (l.drop k).length = l.length - k := List.length_drop
  refine ⟨cutA E.size A c k, c - k, css.drop k, by rw [hl], by rw [hl]; omega, by omega, ?_, fun ad he h0 => ?_, h5.drop k⟩
  · rw [hl, ← flat_drop css E.size k h5.lens]
    exact h3.cutA hk h1
  · rw [hl] at h0
    unfold cutA at he
    split at he
    · exact h4 ad he (by omega)
    · cases A with
      | none => cases he
      | some a =>
        have := Option.some.inj he
        have hb : ad.block = a.block := by
          rw [← this]
          unfold Addr.add
          split <;> rfl
        rw [hb]
        exact h4 a rfl (by omega)
end
end Go.Proofs.Ytboncnlcomeahaa

/- Words for strings: side by side, cut. -/
namespace Go.Proofs.Ytboncnlcomeahaa
set_option linter.unusedVariables false
set_option linter.unusedSimpArgs false
set_option linter.unnecessarySimpa false
set_option maxRecDepth 100000
open Go.RowKit
theorem run_cat (x y : Bytes) (h : (x.length : Int) + y.length ≤ 9223372036854775807) : ∀ W : World, (Op.stringOp .add ⟨x.toArray⟩ ⟨y.toArray⟩).run Try.prog W = .ok (str (x ++ y)) W := by
  intro W
  rw [run_string_add_sum W _ _ (by simp [ByteArray.size]; omega), ByteArray.mk_append_mk]
theorem extract_take (x : Bytes) (n : Nat) : (ByteArray.mk x.toArray).extract 0 n = ⟨(x.take n).toArray⟩ := by
  apply ByteArray.ext
  simp [ByteArray.data_extract]
theorem run_front (x : Bytes) (n : Nat) (k : Int) (hk : k = n) (h : n ≤ x.length) : ∀ W : World, (Instr.sliceAt 9 (str x) none (some (.int .i64 k)) none).run Try.prog W = .ok (str (x.take n)) W := by
  intro W
  subst hk
  rw [run_sliceAt_string (h := Try.underlying9), run_slice_string_h (ht := Try.underlying9) (h0 := by omega) (h2 := by simp [ByteArray.size]; omega), Int.toNat_natCast, extract_take]
end Go.Proofs.Ytboncnlcomeahaa

