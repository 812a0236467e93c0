/- Elements of the state's slices, as a walk meets them. -/
import Derived.Test.YthlbnajecfjmdaaClone
namespace Go.Proofs.Ythlbnajecfjmdaa
set_option linter.unusedVariables false
set_option linter.unusedSimpArgs false
set_option linter.unnecessarySimpa false
set_option maxRecDepth 100000
open Go.RowKit
section
variable {w : World} {X : Avoid} {A : Option Addr} {n c k : Nat}
theorem se_at {l : List Se} (h : Enc.Sl seE w X (.slice A n c) l) (hk : k < l.length) : ∃ ad s v, A = some ad ∧ Hid (l[k]? = some s) ∧ ad.block < w.heap.size ∧ w.cell? (ad.add (k * 3)) = some (.int .i64 s.client) ∧
    w.cell? ⟨(ad.add (k * 3)).block, (ad.add (k * 3)).off + 1, none⟩ = some (.int .u64 s.high) ∧ w.cell? ⟨(ad.add (k * 3)).block, (ad.add (k * 3)).off + 2, none⟩ = some v ∧ I64 s.client ∧ U64 s.high ∧ Enc.Sl dnE w X v s.done := by
  obtain ⟨ad, cs, rfl, hrep, hb, hcell⟩ := h.at_ hk
  obtain ⟨v, rfl, r1, r2, r3⟩ := se_rep.1 hrep
  exact ⟨ad, _, v, rfl, hide (List.getElem?_eq_getElem hk), hb, Enc.cell0 hcell rfl, Enc.cellS hcell 0 rfl, Enc.cellS hcell 1 rfl, r1, r2, r3⟩
theorem dn_at {l : List Dn} (h : Enc.Sl dnE w X (.slice A n c) l) (hk : k < l.length) : ∃ ad s, A = some ad ∧ Hid (l[k]? = some s) ∧ ad.block < w.heap.size ∧ w.cell? (ad.add (k * 3)) = some (.int .u64 s.seq) ∧
    w.cell? ⟨(ad.add (k * 3)).block, (ad.add (k * 3)).off + 1, none⟩ = some (.int .i64 s.an.err) ∧ w.cell? ⟨(ad.add (k * 3)).block, (ad.add (k * 3)).off + 2, none⟩ = some (str s.an.text) ∧ U64 s.seq ∧ I64 s.an.err ∧ s.an.text.length ≤ maxLen := by
  obtain ⟨ad, cs, rfl, hrep, hb, hcell⟩ := h.at_ hk
  obtain ⟨rfl, r1, r2, r3⟩ := dn_rep.1 hrep
  exact ⟨ad, _, rfl, hide (List.getElem?_eq_getElem hk), hb, Enc.cell0 hcell rfl, Enc.cellS hcell 0 rfl, Enc.cellS hcell 1 rfl, r1, r2, r3⟩
theorem ln_at {l : List Ln} (h : Enc.Sl lnE w X (.slice A n c) l) (hk : k < l.length) : ∃ ad s, A = some ad ∧ Hid (l[k]? = some s) ∧ ad.block < w.heap.size ∧ w.cell? (ad.add (k * 4)) = some (str s.name) ∧
    w.cell? ⟨(ad.add (k * 4)).block, (ad.add (k * 4)).off + 1, none⟩ = some (str s.url) ∧ w.cell? ⟨(ad.add (k * 4)).block, (ad.add (k * 4)).off + 2, none⟩ = some (.int .u64 s.till) ∧
    w.cell? ⟨(ad.add (k * 4)).block, (ad.add (k * 4)).off + 3, none⟩ = some (.bool s.made) ∧ s.name.length ≤ maxLen ∧ s.url.length ≤ maxLen ∧ U64 s.till := by
  obtain ⟨ad, cs, rfl, hrep, hb, hcell⟩ := h.at_ hk
  obtain ⟨rfl, r1, r2, r3⟩ := ln_rep.1 hrep
  exact ⟨ad, _, rfl, hide (List.getElem?_eq_getElem hk), hb, Enc.cell0 hcell rfl, Enc.cellS hcell 0 rfl, Enc.cellS hcell 1 rfl, Enc.cellS hcell 2 rfl, r1, r2, r3⟩
end
end Go.Proofs.Ythlbnajecfjmdaa
