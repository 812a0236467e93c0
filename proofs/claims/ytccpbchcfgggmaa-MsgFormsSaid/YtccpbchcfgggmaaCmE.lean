/- Commands as values. -/
import Derived.Test.YtccpbchcfgggmaaCmd0
import Derived.Laws.StructEq
namespace Go.Proofs.Ytccpbchcfgggmaa
set_option linter.unusedVariables false
set_option linter.unusedSimpArgs false
set_option linter.unnecessarySimpa false
set_option maxRecDepth 100000
open Go.RowKit
structure Cm.wide (c : Cm) : Prop where
  k0 : -9223372036854775808 ≤ c.kind
  k1 : c.kind ≤ 9223372036854775807
  c0 : -9223372036854775808 ≤ c.client
  c1 : c.client ≤ 9223372036854775807
  s0 : 0 ≤ c.seq
  s1 : c.seq ≤ 18446744073709551615
  n1 : c.name.length ≤ maxLen
  u1 : c.url.length ≤ maxLen
  t0 : 0 ≤ c.till
  t1 : c.till ≤ 18446744073709551615
def cmE : Enc Cm := Enc.map (.pair .i64 (.pair .i64 (.pair .u64 (.pair .text (.pair .text (.pair .u64 .unit)))))) fun c => (c.kind, c.client, c.seq, c.name, c.url, c.till, ())
theorem cmE_rep {w : World} {X : Avoid} {cs : Array Value} {c : Cm} (h : cmE.rep w X cs.toList c) : cs = ccells c ∧ c.wide := by
  obtain ⟨c1, r1, e1, ⟨rfl, a1⟩, c2, r2, rfl, ⟨rfl, a2⟩, c3, r3, rfl, ⟨rfl, a3⟩, c4, r4, rfl, ⟨rfl, a4⟩, c5, r5, rfl, ⟨rfl, a5⟩, c6, r6, rfl, ⟨rfl, a6⟩, rfl⟩ := h
  refine ⟨?_, a1.1, a1.2, a2.1, a2.2, a3.1, a3.2, a4, a5, a6.1, a6.2⟩
  cases cs
  simp at e1
  subst e1
  rfl
open Enc in
theorem cmE_opens : Opens 24 cmE :=
  (opens_struct Try.underlying24 (by kernel_rfl) (.cons rfl (by kernel_rfl) (opens_int Try.underlying3 wf_i64) (.cons rfl (by kernel_rfl) (opens_int Try.underlying3 wf_i64) (.cons rfl (by kernel_rfl) (opens_int Try.underlying22 wf_u64)
    (.cons rfl (by kernel_rfl) (opens_text Try.underlying9) (.cons rfl (by kernel_rfl) (opens_text Try.underlying9) (.cons rfl (by kernel_rfl) (opens_int Try.underlying22 wf_u64) (.nil _)))))))).map _ fun ⟨a, b, c, d, e, f, _⟩ => ⟨⟨a, b, c, d, e, f⟩, rfl⟩
theorem eq_cmd (a b : Cm) : ∃ r : Bool, (r = true ↔ a = b) ∧ ∀ W, (binOp .eql 24 (cv a) (cv b)).run Try.prog W = .ok (.bool r) W := by
  obtain ⟨k, c, q, n, u, t⟩ := a
  obtain ⟨k', c', q', n', u', t'⟩ := b
  refine ⟨decide (k = k') && (decide (c = c') && (decide (q = q') && (decide (n = n') && (decide (u = u') && decide (t = t'))))), by simp, fun W => ?_⟩
  have hS : Try.prog.underlying 24 = some (.struct (Try.prog.fieldsOf 24)) := by kernel_rfl
  have hp : Try.prog.stoodInHeld 24 = false := by kernel_rfl
  have u1 := Try.underlying3
  have u2 := Try.underlying22
  have u3 := Try.underlying9
  rw [run_eql_struct, show (10000 : Nat) = 9999 + 1 from rfl, run_equalIn_agg W 9999 24 _ _ hS hp]
  simp only [Program.fieldsOf, Try.underlying24]
  go_simp
  by_cases h1 : k = k' <;> by_cases h2 : c = c' <;> by_cases h3 : q = q' <;> by_cases h4 : n = n' <;> by_cases h5 : u = u' <;> by_cases h6 : t = t' <;> simp [h1, h2, h3, h4, h5, h6]
end Go.Proofs.Ytccpbchcfgggmaa
