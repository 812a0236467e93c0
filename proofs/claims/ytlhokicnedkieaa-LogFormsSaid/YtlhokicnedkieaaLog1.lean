/- Records: how values of them read; which may be. -/
import Derived.Test.YtlhokicnedkieaaLogP
import Derived.Test.YtlhokicnedkieaaOwn
import Derived.Test.YtlhokicnedkieaaSl
import Derived.Test.YtlhokicnedkieaaRes
import Derived.Test.YtlhokicnedkieaaRgE
import Derived.Test.YtlhokicnedkieaaRef1
import Derived.Deep.DeepCutAuto
namespace Go.Proofs.Ytlhokicnedkieaa
set_option linter.unusedVariables false
set_option linter.unusedSimpArgs false
set_option linter.unnecessarySimpa false
set_option maxRecDepth 100000
open Go.RowKit
abbrev I64 (n : Int) : Prop := -9223372036854775808 ≤ n ∧ n ≤ 9223372036854775807
abbrev U64 (n : Int) : Prop := 0 ≤ n ∧ n ≤ 18446744073709551615
abbrev hdE : Enc Hd := Enc.map (.pair .u64 (.pair .i64 .unit)) fun h => (h.term, h.vote, ())
abbrev enE : Enc En := Enc.map (.pair .u64 (.pair .byts .unit)) fun h => (h.term, h.data, ())
abbrev snE : Enc Sn := Enc.map (.pair .u64 (.pair .u64 (.pair .byts .unit))) fun h => (h.index, h.term, h.state, ())
abbrev reE : Enc Rec := Enc.map (.pair .i64 (.pair hdE (.pair enE (.pair .u64 (.pair snE .unit))))) fun r => (r.kind, r.hard, r.ent, r.index, r.snap, ())
open Enc in
theorem hdE_opens : Opens 51 hdE :=
  (opens_struct Try.underlying51 (by kernel_rfl) (.cons rfl (by kernel_rfl) (opens_int Try.underlying49 wf_u64) (.cons rfl (by kernel_rfl) (opens_int Try.underlying3 wf_i64) (.nil _)))).map _ fun ⟨a, b, _⟩ => ⟨⟨a, b⟩, rfl⟩
open Enc in
theorem enE_opens : Opens 53 enE :=
  (opens_struct Try.underlying53 (by kernel_rfl) (.cons rfl (by kernel_rfl) (opens_int Try.underlying49 wf_u64) (.cons rfl (by kernel_rfl) (opens_bytes Try.underlying22 Try.underlying5 (by kernel_rfl)) (.nil _)))).map _ fun ⟨a, b, _⟩ => ⟨⟨a, b⟩, rfl⟩
open Enc in
theorem snE_opens : Opens 55 snE :=
  (opens_struct Try.underlying55 (by kernel_rfl) (.cons rfl (by kernel_rfl) (opens_int Try.underlying49 wf_u64) (.cons rfl (by kernel_rfl) (opens_int Try.underlying49 wf_u64) (.cons rfl (by kernel_rfl) (opens_bytes Try.underlying22 Try.underlying5 (by kernel_rfl)) (.nil _))))).map _ fun ⟨a, b, c, _⟩ => ⟨⟨a, b, c⟩, rfl⟩
open Enc in
theorem reE_opens : Opens 57 reE :=
  (opens_struct Try.underlying57 (by kernel_rfl) (.cons rfl (by kernel_rfl) (opens_int Try.underlying3 wf_i64) (.cons rfl (by kernel_rfl) hdE_opens (.cons rfl (by kernel_rfl) enE_opens
    (.cons rfl (by kernel_rfl) (opens_int Try.underlying49 wf_u64) (.cons rfl (by kernel_rfl) snE_opens (.nil _))))))).map _ fun ⟨a, b, c, d, e, _⟩ => ⟨⟨a, b, c, d, e⟩, rfl⟩
abbrev recells (r : Rec) (v1 v2 : Value) : List Value := [.int .i64 r.kind, .int .u64 r.hard.term, .int .i64 r.hard.vote, .int .u64 r.ent.term, v1, .int .u64 r.index, .int .u64 r.snap.index, .int .u64 r.snap.term, v2]
theorem re_rep {w : World} {X : Avoid} {cs : List Value} {r : Rec} : reE.rep w X cs r ↔ ∃ v1 v2, cs = recells r v1 v2 ∧ r.wide ∧ Enc.BsX w X v1 r.ent.data ∧ Enc.BsX w X v2 r.snap.state := by
  constructor
  · rintro ⟨c1, c2, rfl, ⟨rfl, h1⟩, c3, c4, rfl, ⟨a1, a2, rfl, ⟨rfl, h2⟩, a3, a4, rfl, ⟨rfl, h3⟩, rfl⟩, c5, c6, rfl, ⟨b1, b2, rfl, ⟨rfl, h4⟩, b3, b4, rfl, ⟨v1, rfl, h5⟩, rfl⟩, c7, c8, rfl, ⟨rfl, h6⟩, c9, c10, rfl,
      ⟨d1, d2, rfl, ⟨rfl, h7⟩, d3, d4, rfl, ⟨rfl, h8⟩, d5, d6, rfl, ⟨v2, rfl, h9⟩, rfl⟩, rfl⟩
    exact ⟨v1, v2, rfl, ⟨h1.1, h1.2, h2.1, h2.2, h3.1, h3.2, h4.1, h4.2, h6.1, h6.2, h7.1, h7.2, h8.1, h8.2⟩, h5, h9⟩
  · rintro ⟨v1, v2, rfl, ⟨k0, k1, t0, t1, u0, u1, e0, e1, i0, i1, n0, n1, s0, s1⟩, h5, h9⟩
    exact ⟨[_], [_, _, _, _, _, _, _, _], rfl, ⟨rfl, k0, k1⟩, [_, _], [_, _, _, _, _, _], rfl, ⟨[_], [_], rfl, ⟨rfl, t0, t1⟩, [_], [], rfl, ⟨rfl, u0, u1⟩, rfl⟩, [_, _], [_, _, _, _], rfl, ⟨[_], [_], rfl, ⟨rfl, e0, e1⟩, [_], [], rfl, ⟨_, rfl, h5⟩, rfl⟩,
      [_], [_, _, _], rfl, ⟨rfl, i0, i1⟩, [_, _, _], [], rfl, ⟨[_], [_, _], rfl, ⟨rfl, n0, n1⟩, [_], [_], rfl, ⟨rfl, s0, s1⟩, [_], [], rfl, ⟨_, rfl, h9⟩, rfl⟩, rfl⟩
theorem elt_re : Elt 57 reE (.agg #[.int .i64 0, .int .u64 0, .int .i64 0, .int .u64 0, .slice none 0 0, .int .u64 0, .int .u64 0, .int .u64 0, .slice none 0 0]) 104 := ⟨by kernel_rfl, rfl, by decide⟩
set_option maxHeartbeats 800000 in
theorem may_b (r : Rec) (v1 v2 : Value) (w : World) : Calls Try.prog 29 #[.agg (recells r v1 v2).toArray] w fun e w' => e = .returned (.bool (may r)) ∧ Ext w w' := by
  have hx : Ext w (w.alloc (.cells (recells r v1 v2).toArray 57)) := (Ext.rfl' w).alloc' _
  by_cases h1 : r.kind = 1
  · by_cases h2 : 0 ≤ r.hard.vote
    · by_cases h3 : r.hard.vote ≤ 7
      · have HM : Hid (may r = true) := by unfold Hid may; simp [h1, h2, h3]
        rw [HM.out]
        go_enter Try.func29, Try.ntmps29
        go_wp2
        go_ret
        exact ⟨rfl, hx⟩
      · have HM : Hid (may r = false) := by unfold Hid may; simp [h1, h3]
        rw [HM.out]
        go_enter Try.func29, Try.ntmps29
        go_wp2
        go_ret
        exact ⟨rfl, hx⟩
    · have HM : Hid (may r = false) := by unfold Hid may; simp [h1]; omega
      rw [HM.out]
      go_enter Try.func29, Try.ntmps29
      go_wp2
      go_ret
      exact ⟨rfl, hx⟩
  · by_cases h2 : 1 < r.kind
    · by_cases h3 : r.kind ≤ 4
      · have HM : Hid (may r = true) := by unfold Hid may; simp [h1, h2, h3]
        rw [HM.out]
        go_enter Try.func29, Try.ntmps29
        go_wp2
        go_ret
        exact ⟨rfl, hx⟩
      · have HM : Hid (may r = false) := by unfold Hid may; simp [h1, h3]
        rw [HM.out]
        go_enter Try.func29, Try.ntmps29
        go_wp2
        go_ret
        exact ⟨rfl, hx⟩
    · have HM : Hid (may r = false) := by unfold Hid may; simp [h1, h2]
      rw [HM.out]
      go_enter Try.func29, Try.ntmps29
      go_wp2
      go_ret
      exact ⟨rfl, hx⟩
end Go.Proofs.Ytlhokicnedkieaa
