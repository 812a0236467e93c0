/- Entries and snapshots: how values of them read. -/
import Derived.Test.YtccpbchcfgggmaaLogP
import Derived.Test.YtccpbchcfgggmaaOwn
import Derived.Test.YtccpbchcfgggmaaNum
namespace Go.Proofs.Ytccpbchcfgggmaa
set_option linter.unusedVariables false
set_option linter.unusedSimpArgs false
set_option linter.unnecessarySimpa false
set_option maxRecDepth 100000
open Go.RowKit
abbrev enE : Enc En := Enc.map (.pair .u64 (.pair .byts .unit)) fun h => (h.term, h.data, ())
abbrev snE : Enc Sn := Enc.map (.pair .u64 (.pair .u64 (.pair .byts .unit))) fun h => (h.index, h.term, h.state, ())
open Enc in
theorem enE_opens : Opens 69 enE :=
  (opens_struct Try.underlying69 (by kernel_rfl) (.cons rfl (by kernel_rfl) (opens_int Try.underlying22 wf_u64) (.cons rfl (by kernel_rfl) (opens_bytes Try.underlying25 Try.underlying5 (by kernel_rfl)) (.nil _)))).map _ fun ⟨a, b, _⟩ => ⟨⟨a, b⟩, rfl⟩
open Enc in
theorem snE_opens : Opens 40 snE :=
  (opens_struct Try.underlying40 (by kernel_rfl) (.cons rfl (by kernel_rfl) (opens_int Try.underlying22 wf_u64) (.cons rfl (by kernel_rfl) (opens_int Try.underlying22 wf_u64) (.cons rfl (by kernel_rfl) (opens_bytes Try.underlying25 Try.underlying5 (by kernel_rfl)) (.nil _))))).map _ fun ⟨a, b, c, _⟩ => ⟨⟨a, b, c⟩, rfl⟩
abbrev encells (e : En) (v : Value) : List Value := [.int .u64 e.term, v]
abbrev sncells (s : Sn) (v : Value) : List Value := [.int .u64 s.index, .int .u64 s.term, v]
theorem en_rep {w : World} {X : Avoid} {cs : List Value} {e : En} : enE.rep w X cs e ↔ ∃ v, cs = encells e v ∧ (0 ≤ e.term ∧ e.term ≤ 18446744073709551615) ∧ Enc.BsX w X v e.data := by
  constructor
  · rintro ⟨b1, b2, rfl, ⟨rfl, h4⟩, b3, b4, rfl, ⟨v1, rfl, h5⟩, rfl⟩
    exact ⟨v1, rfl, h4, h5⟩
  · rintro ⟨v, rfl, h4, h5⟩
    exact ⟨[_], [_], rfl, ⟨rfl, h4⟩, [_], [], rfl, ⟨_, rfl, h5⟩, rfl⟩
theorem en_at {w : World} {X : Avoid} {A : Option Addr} {n c k : Nat} {l : List En} (h : Enc.Sl enE w X (.slice A n c) l) (hk : k < l.length) : ∃ (ad : Addr) (e : En) (v : Value), A = some ad ∧ Hid (l[k]? = some e) ∧ ad.block < w.heap.size ∧
    w.cell? (ad.add (k * 2)) = some (.int .u64 e.term) ∧ w.cell? ⟨(ad.add (k * 2)).block, (ad.add (k * 2)).off + 1, none⟩ = some v ∧ (0 ≤ e.term ∧ e.term ≤ 18446744073709551615) ∧ Enc.BsX w X v e.data := by
  obtain ⟨ad, cs, rfl, hrep, hb, hcell⟩ := h.at_ hk
  obtain ⟨v, rfl, r1, r2⟩ := en_rep.1 hrep
  exact ⟨ad, _, v, rfl, hide (List.getElem?_eq_getElem hk), hb, Enc.cell0 hcell rfl, Enc.cellS hcell 0 rfl, r1, r2⟩
theorem sn_rep {w : World} {X : Avoid} {cs : List Value} {s : Sn} : snE.rep w X cs s ↔ ∃ v, cs = sncells s v ∧ (0 ≤ s.index ∧ s.index ≤ 18446744073709551615) ∧ (0 ≤ s.term ∧ s.term ≤ 18446744073709551615) ∧ Enc.BsX w X v s.state := by
  constructor
  · rintro ⟨b1, b2, rfl, ⟨rfl, h4⟩, b3, b4, rfl, ⟨rfl, h6⟩, b5, b6, rfl, ⟨v1, rfl, h5⟩, rfl⟩
    exact ⟨v1, rfl, h4, h6, h5⟩
  · rintro ⟨v, rfl, h4, h6, h5⟩
    exact ⟨[_], [_, _], rfl, ⟨rfl, h4⟩, [_], [_], rfl, ⟨rfl, h6⟩, [_], [], rfl, ⟨_, rfl, h5⟩, rfl⟩
theorem elt_en : Elt 69 enE (.agg #[.int .u64 0, .slice none 0 0]) 32 := ⟨by kernel_rfl, rfl, by decide⟩
end Go.Proofs.Ytccpbchcfgggmaa
