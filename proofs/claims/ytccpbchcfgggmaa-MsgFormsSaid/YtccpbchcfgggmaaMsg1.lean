/- Letters: how values of them read. -/
import Derived.Test.YtccpbchcfgggmaaMsgP
import Derived.Test.YtccpbchcfgggmaaEn
import Derived.Test.YtccpbchcfgggmaaCmE
import Derived.Test.YtccpbchcfgggmaaSl
import Derived.Test.YtccpbchcfgggmaaRgE
import Derived.Test.YtccpbchcfgggmaaCmd11
import Derived.Deep.DeepCutAuto
import Derived.Deep.CutBlock
namespace Go.Proofs.Ytccpbchcfgggmaa
set_option linter.unusedVariables false
set_option linter.unusedSimpArgs false
set_option linter.unnecessarySimpa false
set_option maxRecDepth 100000
open Go.RowKit
abbrev mgE : Enc Mg := Enc.map (.pair .i64 (.pair .i64 (.pair .i64 (.pair .u64 (.pair .u64 (.pair .u64 (.pair (.slice enE) (.pair .u64 (.pair .u64 (.pair .bool (.pair snE (.pair cmE (.pair anE .unit)))))))))))))
  fun m => (m.kind, m.fro, m.too, m.term, m.index, m.logTerm, m.ents, m.commit, m.round, m.ok, m.snap, m.cmd, m.an, ())
open Enc in
theorem mgE_opens : Opens 44 mgE :=
  (opens_struct Try.underlying44 (by kernel_rfl) (.cons rfl (by kernel_rfl) (opens_int Try.underlying3 wf_i64) (.cons rfl (by kernel_rfl) (opens_int Try.underlying3 wf_i64) (.cons rfl (by kernel_rfl) (opens_int Try.underlying3 wf_i64)
    (.cons rfl (by kernel_rfl) (opens_int Try.underlying22 wf_u64) (.cons rfl (by kernel_rfl) (opens_int Try.underlying22 wf_u64) (.cons rfl (by kernel_rfl) (opens_int Try.underlying22 wf_u64)
    (.cons rfl (by kernel_rfl) (opens_slice Try.underlying38 (by kernel_rfl) (by decide) enE_opens) (.cons rfl (by kernel_rfl) (opens_int Try.underlying22 wf_u64) (.cons rfl (by kernel_rfl) (opens_int Try.underlying22 wf_u64)
    (.cons rfl (by kernel_rfl) (opens_bool Try.underlying4) (.cons rfl (by kernel_rfl) snE_opens (.cons rfl (by kernel_rfl) cmE_opens (.cons rfl (by kernel_rfl) anE_opens (.nil _))))))))))))))).map _ fun ⟨a, b, c, d, e, f, g, h, i, j, k, l, m, _⟩ => ⟨⟨a, b, c, d, e, f, g, h, i, j, k, l, m⟩, rfl⟩
abbrev mgcells (m : Mg) (ve vs : Value) : List Value := [.int .i64 m.kind, .int .i64 m.fro, .int .i64 m.too, .int .u64 m.term, .int .u64 m.index, .int .u64 m.logTerm, ve, .int .u64 m.commit, .int .u64 m.round, .bool m.ok,
  .int .u64 m.snap.index, .int .u64 m.snap.term, vs, .int .i64 m.cmd.kind, .int .i64 m.cmd.client, .int .u64 m.cmd.seq, str m.cmd.name, str m.cmd.url, .int .u64 m.cmd.till, .int .i64 m.an.err, str m.an.text]
structure Mg.wide (m : Mg) : Prop where
  kind : I64 m.kind
  fro : I64 m.fro
  too : I64 m.too
  term : U64 m.term
  index : U64 m.index
  logTerm : U64 m.logTerm
  commit : U64 m.commit
  round : U64 m.round
  si : U64 m.snap.index
  st : U64 m.snap.term
  cmd : m.cmd.wide
  err : I64 m.an.err
  text : m.an.text.length ≤ maxLen
theorem cmE_list {w : World} {X : Avoid} {cs : List Value} {c : Cm} : cmE.rep w X cs c ↔ cs = (ccells c).toList ∧ c.wide := by
  constructor
  · intro h
    have := cmE_rep (cs := cs.toArray) (by simpa using h)
    exact ⟨by rw [← this.1], this.2⟩
  · rintro ⟨rfl, ⟨k0, k1, c0, c1, s0, s1, n1, u1, t0, t1⟩⟩
    exact ⟨[_], [_, _, _, _, _], rfl, ⟨rfl, k0, k1⟩, [_], [_, _, _, _], rfl, ⟨rfl, c0, c1⟩, [_], [_, _, _], rfl, ⟨rfl, s0, s1⟩, [_], [_, _], rfl, ⟨rfl, n1⟩, [_], [_], rfl, ⟨rfl, u1⟩, [_], [], rfl, ⟨rfl, t0, t1⟩, rfl⟩
theorem mg_rep {w : World} {X : Avoid} {cs : List Value} {m : Mg} : mgE.rep w X cs m ↔ ∃ ve vs, cs = mgcells m ve vs ∧ m.wide ∧ Enc.Sl enE w X ve m.ents ∧ Enc.BsX w X vs m.snap.state := by
  constructor
  · rintro ⟨_, _, rfl, ⟨rfl, h1⟩, _, _, rfl, ⟨rfl, h2⟩, _, _, rfl, ⟨rfl, h3⟩, _, _, rfl, ⟨rfl, h4⟩, _, _, rfl, ⟨rfl, h5⟩, _, _, rfl, ⟨rfl, h6⟩, _, _, rfl, ⟨ve, rfl, h7⟩, _, _, rfl, ⟨rfl, h8⟩, _, _, rfl, ⟨rfl, h9⟩, _, _, rfl, h10, c21, c22, rfl, h11, c23, c24, rfl, h12, c25, c26, rfl, h13, rfl⟩
    obtain ⟨vs, rfl, a1, a2, a3⟩ := sn_rep.1 h11
    obtain ⟨rfl, b1⟩ := cmE_list.1 h12
    obtain ⟨rfl, d1, d2⟩ := an_rep.1 h13
    obtain rfl : _ = _ := h10
    exact ⟨ve, vs, rfl, ⟨h1, h2, h3, h4, h5, h6, h8, h9, a1, a2, b1, d1, d2⟩, h7, a3⟩
  · rintro ⟨ve, vs, rfl, ⟨h1, h2, h3, h4, h5, h6, h8, h9, a1, a2, b1, d1, d2⟩, h7, a3⟩
    exact ⟨[_], _, rfl, ⟨rfl, h1⟩, [_], _, rfl, ⟨rfl, h2⟩, [_], _, rfl, ⟨rfl, h3⟩, [_], _, rfl, ⟨rfl, h4⟩, [_], _, rfl, ⟨rfl, h5⟩, [_], _, rfl, ⟨rfl, h6⟩, [_], _, rfl, ⟨ve, rfl, h7⟩, [_], _, rfl, ⟨rfl, h8⟩, [_], _, rfl, ⟨rfl, h9⟩, [_], _, rfl, rfl,
      [_, _, _], _, rfl, sn_rep.2 ⟨vs, rfl, a1, a2, a3⟩, (ccells m.cmd).toList, _, rfl, cmE_list.2 ⟨rfl, b1⟩, [_, _], [], rfl, an_rep.2 ⟨rfl, d1, d2⟩, rfl⟩
end Go.Proofs.Ytccpbchcfgggmaa
