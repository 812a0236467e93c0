/- Answers: in plain Lean, and how values of them read. -/
import Derived.Test.YtccpbchcfgggmaaEnc
import Derived.Test.YtccpbchcfgggmaaNum
namespace Go.Proofs.Ytccpbchcfgggmaa
set_option linter.unusedVariables false
set_option linter.unusedSimpArgs false
set_option linter.unnecessarySimpa false
set_option maxRecDepth 100000
open Go.RowKit
structure An where
  err : Int
  text : Bytes
abbrev anE : Enc An := Enc.map (.pair .i64 (.pair .text .unit)) fun a => (a.err, a.text, ())
open Enc in
theorem anE_opens : Opens 42 anE :=
  (opens_struct Try.underlying42 (by kernel_rfl) (.cons rfl (by kernel_rfl) (opens_int Try.underlying29 wf_i64) (.cons rfl (by kernel_rfl) (opens_text Try.underlying9) (.nil _)))).map _ fun ⟨a, b, _⟩ => ⟨⟨a, b⟩, rfl⟩
abbrev acells (a : An) : List Value := [.int .i64 a.err, str a.text]
section
variable {w : World} {X : Avoid} {cs : List Value}
theorem an_rep {a : An} : anE.rep w X cs a ↔ cs = acells a ∧ I64 a.err ∧ a.text.length ≤ maxLen := by
  constructor
  · rintro ⟨c1, c2, rfl, ⟨rfl, h1⟩, c3, c4, rfl, ⟨rfl, h2⟩, rfl⟩
    exact ⟨rfl, h1, h2⟩
  · rintro ⟨rfl, h1, h2⟩
    exact ⟨[_], [_], rfl, ⟨rfl, h1⟩, [_], [], rfl, ⟨rfl, h2⟩, rfl⟩
end
end Go.Proofs.Ytccpbchcfgggmaa
