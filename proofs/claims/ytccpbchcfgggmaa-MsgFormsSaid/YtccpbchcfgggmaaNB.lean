/- Bytes in a block of their own: the block by its number. -/
import Derived.Test.YtccpbchcfgggmaaChg
import Derived.Test.YtccpbchcfgggmaaBitT
namespace Go.Proofs.Ytccpbchcfgggmaa
set_option linter.unusedVariables false
set_option linter.unusedSimpArgs false
set_option linter.unnecessarySimpa false
set_option maxRecDepth 100000
open Go.RowKit
/-- the block b begins with the bytes l, in a row of cp cells -/
def NB (w : World) (b cp : Nat) (l : Bytes) : Prop := ∃ cur : Array Value, Blk w b 5 cur ∧ cur.size = cp ∧ l.length ≤ cp ∧ cp ≤ maxLen ∧ cur.toList.take l.length = bv l
theorem Nw.nb {w w' : World} {v : Value} {l : Bytes} (h : Nw w w' v l) (hl : l ≠ []) : ∃ b cp, v = .slice (some ⟨b, 0, none⟩) l.length cp ∧ w.heap.size ≤ b ∧ b < w'.heap.size ∧ NB w' b cp l := by
  obtain ⟨h1, h2⟩ := h
  rcases h2 with ⟨-, h3⟩ | ⟨g, cap, cur, rfl, hb, hg, hn, hc, hs, ht⟩
  · exact absurd (List.eq_nil_of_length_eq_zero h3) hl
  · have hB : Blk w' g 5 cur := hg
    exact ⟨g, cap, rfl, hb, hB.lt, cur, hB, by omega, hn, hc, by simpa using ht⟩
theorem NB.own {w : World} {b cp base : Nat} {l : Bytes} (h : NB w b cp l) (hb : base ≤ b) : w.ownsRow base 5 1 (.slice (some ⟨b, 0, none⟩) l.length cp) l.length (bv l) := by
  obtain ⟨cur, h1, h2, h3, h4, h5⟩ := h
  exact ⟨by simp [bv], .inr ⟨b, cp, cur, rfl, hb, h1, h3, h4, by omega, by simpa using h5⟩⟩
theorem NB.bs {w : World} {b cp : Nat} {l : Bytes} (h : NB w b cp l) : Bs w (.slice (some ⟨b, 0, none⟩) l.length cp) l := Bs.own (h.own (base := 0) (Nat.zero_le _))
theorem NB.chg {S : List Nat} {w w' : World} {b cp : Nat} {l : Bytes} (h : NB w b cp l) (hc : Chg S w w') (hb : b ∉ S) : NB w' b cp l := by
  obtain ⟨cur, h1, h2⟩ := h
  exact ⟨cur, h1.chg hc hb, h2⟩
theorem NB.ext {w w' : World} {b cp : Nat} {l : Bytes} (h : NB w b cp l) (hx : Ext w w') : NB w' b cp l := by
  obtain ⟨cur, h1, h2⟩ := h
  exact ⟨cur, h1.ext hx, h2⟩
theorem NB.lt {w : World} {b cp : Nat} {l : Bytes} (h : NB w b cp l) : b < w.heap.size := by
  obtain ⟨cur, h1, -⟩ := h
  exact h1.lt
theorem NB.cell {w : World} {b cp : Nat} {l : Bytes} (h : NB w b cp l) (j : Nat) (x : UInt8) (hx : l[j]? = some x) : w.cell? ⟨b, j, none⟩ = some (.int .u8 (x.toNat : Nat)) := by
  obtain ⟨cur, h1, h2, h3, h4, h5⟩ := h
  obtain ⟨hj, hx'⟩ := List.getElem?_eq_some_iff.1 hx
  rw [h1.cell]
  have h6 := congrArg (·[j]?) h5
  simp only [List.getElem?_take_of_lt hj] at h6
  rw [← Array.getElem?_toList, h6]
  simp [bv, hx]
theorem NB.frozen {w : World} {b cp : Nat} {l : Bytes} (h : NB w b cp l) (j : Nat) : w.frozen? ⟨b, j, none⟩ = false := by
  obtain ⟨cur, h1, -⟩ := h
  exact h1.frozen j
theorem NB.set {w : World} {b cp : Nat} {l : Bytes} (h : NB w b cp l) (j : Nat) (x : UInt8) : NB (w.setCell ⟨b, j, none⟩ (.int .u8 (x.toNat : Nat))) b cp (l.set j x) := by
  obtain ⟨cur, h1, h2, h3, h4, h5⟩ := h
  refine ⟨cur.setIfInBounds j (.int .u8 (x.toNat : Nat)), h1.set_ j _, by simpa using h2, by simpa using h3, h4, ?_⟩
  rw [bv_set, ← h5, Array.toList_setIfInBounds, List.take_set, List.length_set]
end Go.Proofs.Ytccpbchcfgggmaa
