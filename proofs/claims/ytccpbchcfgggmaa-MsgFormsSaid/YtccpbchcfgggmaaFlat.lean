/- Rows of rows, as plain lists. -/
import Derived.Test.YtccpbchcfgggmaaEnc
namespace Go.Proofs.Ytccpbchcfgggmaa
set_option linter.unusedVariables false
set_option linter.unusedSimpArgs false
set_option linter.unnecessarySimpa false
set_option maxRecDepth 100000
open Go.RowKit
/-! plain lists -/
section
variable {α : Type}
theorem flat_len (css : List (List α)) (k : Nat) (h : ∀ c ∈ css, c.length = k) : css.flatten.length = css.length * k := by
  induction css with
  | nil => simp
  | cons c css ih =>
    rw [List.flatten_cons, List.length_append, h c List.mem_cons_self, ih fun d hd => h d (List.mem_cons_of_mem _ hd), List.length_cons, Nat.succ_mul]; omega
theorem flat_take (css : List (List α)) (k i : Nat) (h : ∀ c ∈ css, c.length = k) : css.flatten.take (i * k) = (css.take i).flatten := by
  have e : css.flatten = (css.take i).flatten ++ (css.drop i).flatten := by rw [← List.flatten_append, List.take_append_drop]
  by_cases hi : i ≤ css.length
  · have hl := flat_len (css.take i) k fun c hc => h c (List.mem_of_mem_take hc)
    rw [List.length_take, Nat.min_eq_left hi] at hl
    rw [e, ← hl, List.take_left']
    rfl
  · rw [List.take_of_length_le (l := css) (by omega), List.take_of_length_le]
    rw [flat_len css k h]
    exact Nat.mul_le_mul_right _ (by omega)
theorem flat_drop (css : List (List α)) (k i : Nat) (h : ∀ c ∈ css, c.length = k) : css.flatten.drop (i * k) = (css.drop i).flatten := by
  have e := List.take_append_drop (i * k) css.flatten
  rw [flat_take css k i h] at e
  have e2 : css.flatten = (css.take i).flatten ++ (css.drop i).flatten := by rw [← List.flatten_append, List.take_append_drop]
  exact List.append_cancel_left (e.trans e2)
end
end Go.Proofs.Ytccpbchcfgggmaa
