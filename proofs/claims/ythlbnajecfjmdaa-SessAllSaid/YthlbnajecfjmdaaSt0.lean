/- The state's types in plain Lean, and how values of them read. -/
import Derived.Test.YthlbnajecfjmdaaOwn
import Derived.Test.YthlbnajecfjmdaaCmd0
namespace Go.Proofs.Ythlbnajecfjmdaa
set_option linter.unusedVariables false
set_option linter.unusedSimpArgs false
set_option linter.unnecessarySimpa false
set_option maxRecDepth 100000
open Go.RowKit
structure An where
  err : Int
  text : Bytes
structure Dn where
  seq : Int
  an : An
structure Se where
  client : Int
  high : Int
  done : List Dn
structure Ln where
  name : Bytes
  url : Bytes
  till : Int
  made : Bool
structure St where
  now : Int
  count : Int
  links : List Ln
  sess : List Se
abbrev anE : Enc An := Enc.map (.pair .i64 (.pair .text .unit)) fun a => (a.err, a.text, ())
abbrev dnE : Enc Dn := Enc.map (.pair .u64 (.pair anE .unit)) fun d => (d.seq, d.an, ())
abbrev seE : Enc Se := Enc.map (.pair .i64 (.pair .u64 (.pair (.slice dnE) .unit))) fun s => (s.client, s.high, s.done, ())
abbrev lnE : Enc Ln := Enc.map (.pair .text (.pair .text (.pair .u64 (.pair .bool .unit)))) fun l => (l.name, l.url, l.till, l.made, ())
abbrev stE : Enc St := Enc.map (.pair .u64 (.pair .u64 (.pair (.slice lnE) (.pair (.slice seE) .unit)))) fun s => (s.now, s.count, s.links, s.sess, ())
open Enc in
theorem anE_opens : Opens 31 anE :=
  (opens_struct Try.underlying31 (by kernel_rfl) (.cons rfl (by kernel_rfl) (opens_int Try.underlying29 wf_i64) (.cons rfl (by kernel_rfl) (opens_text Try.underlying9) (.nil _)))).map _ fun ⟨a, b, _⟩ => ⟨⟨a, b⟩, rfl⟩
open Enc in
theorem dnE_opens : Opens 59 dnE :=
  (opens_struct Try.underlying59 (by kernel_rfl) (.cons rfl (by kernel_rfl) (opens_int Try.underlying22 wf_u64) (.cons rfl (by kernel_rfl) anE_opens (.nil _)))).map _ fun ⟨a, b, _⟩ => ⟨⟨a, b⟩, rfl⟩
open Enc in
theorem seE_opens : Opens 47 seE :=
  (opens_struct Try.underlying47 (by kernel_rfl) (.cons rfl (by kernel_rfl) (opens_int Try.underlying3 wf_i64) (.cons rfl (by kernel_rfl) (opens_int Try.underlying22 wf_u64) (.cons rfl (by kernel_rfl) (opens_slice Try.underlying45 (by kernel_rfl) (by decide) dnE_opens) (.nil _))))).map _ fun ⟨a, b, c, _⟩ => ⟨⟨a, b, c⟩, rfl⟩
open Enc in
theorem lnE_opens : Opens 57 lnE :=
  (opens_struct Try.underlying57 (by kernel_rfl) (.cons rfl (by kernel_rfl) (opens_text Try.underlying9) (.cons rfl (by kernel_rfl) (opens_text Try.underlying9) (.cons rfl (by kernel_rfl) (opens_int Try.underlying22 wf_u64) (.cons rfl (by kernel_rfl) (opens_bool Try.underlying4) (.nil _)))))).map _ fun ⟨a, b, c, d, _⟩ => ⟨⟨a, b, c, d⟩, rfl⟩
open Enc in
theorem stE_opens : Opens 26 stE :=
  (opens_struct Try.underlying26 (by kernel_rfl) (.cons rfl (by kernel_rfl) (opens_int Try.underlying22 wf_u64) (.cons rfl (by kernel_rfl) (opens_int Try.underlying22 wf_u64)
    (.cons rfl (by kernel_rfl) (opens_slice Try.underlying23 (by kernel_rfl) (by decide) lnE_opens) (.cons rfl (by kernel_rfl) (opens_slice Try.underlying24 (by kernel_rfl) (by decide) seE_opens) (.nil _)))))).map _ fun ⟨a, b, c, d, _⟩ => ⟨⟨a, b, c, d⟩, rfl⟩
abbrev acells (a : An) : List Value := [.int .i64 a.err, str a.text]
abbrev dcells (d : Dn) : List Value := [.int .u64 d.seq, .int .i64 d.an.err, str d.an.text]
abbrev lcells (l : Ln) : List Value := [str l.name, str l.url, .int .u64 l.till, .bool l.made]
abbrev secells (s : Se) (v : Value) : List Value := [.int .i64 s.client, .int .u64 s.high, v]
abbrev stcells (s : St) (vl vs : Value) : List Value := [.int .u64 s.now, .int .u64 s.count, vl, vs]
abbrev I64 (n : Int) : Prop := -9223372036854775808 ≤ n ∧ n ≤ 9223372036854775807
abbrev U64 (n : Int) : Prop := 0 ≤ n ∧ n ≤ 18446744073709551615
section
variable {w : World} {X : Avoid} {cs : List Value}
theorem an_rep {a : An} : anE.rep w X cs a ↔ cs = acells a ∧ I64 a.err ∧ a.text.length ≤ maxLen := by
  constructor
  · rintro ⟨c1, c2, rfl, ⟨rfl, h1⟩, c3, c4, rfl, ⟨rfl, h2⟩, rfl⟩
    exact ⟨rfl, h1, h2⟩
  · rintro ⟨rfl, h1, h2⟩
    exact ⟨[_], [_], rfl, ⟨rfl, h1⟩, [_], [], rfl, ⟨rfl, h2⟩, rfl⟩
theorem dn_rep {d : Dn} : dnE.rep w X cs d ↔ cs = dcells d ∧ U64 d.seq ∧ I64 d.an.err ∧ d.an.text.length ≤ maxLen := by
  constructor
  · rintro ⟨c1, c2, rfl, ⟨rfl, h1⟩, c3, c4, rfl, h2, rfl⟩
    obtain ⟨rfl, h3, h4⟩ := an_rep.1 h2
    exact ⟨rfl, h1, h3, h4⟩
  · rintro ⟨rfl, h1, h2, h3⟩
    exact ⟨[_], [_, _], rfl, ⟨rfl, h1⟩, [_, _], [], rfl, an_rep.2 ⟨rfl, h2, h3⟩, rfl⟩
theorem ln_rep {l : Ln} : lnE.rep w X cs l ↔ cs = lcells l ∧ l.name.length ≤ maxLen ∧ l.url.length ≤ maxLen ∧ U64 l.till := by
  constructor
  · rintro ⟨c1, c2, rfl, ⟨rfl, h1⟩, c3, c4, rfl, ⟨rfl, h2⟩, c5, c6, rfl, ⟨rfl, h3⟩, c7, c8, rfl, rfl, rfl⟩
    exact ⟨rfl, h1, h2, h3⟩
  · rintro ⟨rfl, h1, h2, h3⟩
    exact ⟨[_], [_, _, _], rfl, ⟨rfl, h1⟩, [_], [_, _], rfl, ⟨rfl, h2⟩, [_], [_], rfl, ⟨rfl, h3⟩, [_], [], rfl, rfl, rfl⟩
theorem se_rep {s : Se} : seE.rep w X cs s ↔ ∃ v, cs = secells s v ∧ I64 s.client ∧ U64 s.high ∧ Enc.Sl dnE w X v s.done := by
  constructor
  · rintro ⟨c1, c2, rfl, ⟨rfl, h1⟩, c3, c4, rfl, ⟨rfl, h2⟩, c5, c6, rfl, ⟨v, rfl, h3⟩, rfl⟩
    exact ⟨v, rfl, h1, h2, h3⟩
  · rintro ⟨v, rfl, h1, h2, h3⟩
    exact ⟨[_], [_, _], rfl, ⟨rfl, h1⟩, [_], [_], rfl, ⟨rfl, h2⟩, [_], [], rfl, ⟨v, rfl, h3⟩, rfl⟩
theorem st_rep {s : St} : stE.rep w X cs s ↔ ∃ vl vs, cs = stcells s vl vs ∧ U64 s.now ∧ U64 s.count ∧ Enc.Sl lnE w X vl s.links ∧ Enc.Sl seE w X vs s.sess := by
  constructor
  · rintro ⟨c1, c2, rfl, ⟨rfl, h1⟩, c3, c4, rfl, ⟨rfl, h2⟩, c5, c6, rfl, ⟨v, rfl, h3⟩, c7, c8, rfl, ⟨u, rfl, h4⟩, rfl⟩
    exact ⟨v, u, rfl, h1, h2, h3, h4⟩
  · rintro ⟨v, u, rfl, h1, h2, h3, h4⟩
    exact ⟨[_], [_, _, _], rfl, ⟨rfl, h1⟩, [_], [_, _], rfl, ⟨rfl, h2⟩, [_], [_], rfl, ⟨v, rfl, h3⟩, [_], [], rfl, ⟨u, rfl, h4⟩, rfl⟩
end
theorem elt_ln : Elt 57 lnE (.agg #[.string ByteArray.empty, .string ByteArray.empty, .int .u64 0, .bool false]) 48 := ⟨by kernel_rfl, rfl, by decide⟩
theorem elt_se : Elt 47 seE (.agg #[.int .i64 0, .int .u64 0, .slice none 0 0]) 40 := ⟨by kernel_rfl, rfl, by decide⟩
theorem elt_dn : Elt 59 dnE (.agg #[.int .u64 0, .int .i64 0, .string ByteArray.empty]) 32 := ⟨by kernel_rfl, rfl, by decide⟩
end Go.Proofs.Ythlbnajecfjmdaa
