/- shortcutlaw21: do, same. -/
import Derived.Test.YtlhokicnedkieaaRefDisk2
import Derived.Test.YtlhokicnedkieaaDiskFront
import Derived.Test.YtlhokicnedkieaaSpoil
namespace Go.Proofs.Ytlhokicnedkieaa
set_option linter.unusedVariables false
set_option linter.unusedSimpArgs false
set_option linter.unnecessarySimpa false
set_option maxRecDepth 100000
open Go.RowKit
/-- the program's disk and the document's, as they stand side by side -/
structure Two (w : World) (g g2 : Nat) (v v2 : Value) (d r : Dk) : Prop where
  at_ : DiskAt w g v d
  ref : RefAt w g2 v2 r
  ne : g ≠ g2
  own : ∀ k, v.ownBlock = some k → k < w.heap.size ∧ k ≠ g2
  own2 : ∀ k, v2.ownBlock = some k → k < w.heap.size ∧ k ≠ g
  eqv : Eqv d r
/-- what they come to, with new blocks besides -/
def TwoTo (w w' : World) (g g2 : Nat) : Prop := ∃ v v2 d r, Two w' g g2 v v2 d r ∧ Chg [g, g2] w w'
theorem Two.off {w : World} {g g2 : Nat} {v v2 : Value} {d r : Dk} (h : Two w g g2 v v2 d r) : Off v [g2] := .of_own fun k hk => by simp; exact (h.own k hk).2
theorem Two.off2 {w : World} {g g2 : Nat} {v v2 : Value} {d r : Dk} (h : Two w g g2 v v2 d r) : Off v2 [g] := .of_own fun k hk => by simp; exact (h.own2 k hk).2
/-- one of them is turned -/
theorem Two.one {w w' : World} {g g2 : Nat} {v v2 v' : Value} {d r d' : Dk} (h : Two w g g2 v v2 d r) (h1 : DiskAt w' g v' d') (hc : Chg [g] w w') (hn : ∀ k, v'.ownBlock = some k → v.ownBlock = some k ∨ (w.heap.size ≤ k ∧ k < w'.heap.size)) :
    DiskAt w' g v' d' ∧ RefAt w' g2 v2 r ∧ (∀ k, v'.ownBlock = some k → k < w'.heap.size ∧ k ≠ g2) ∧ (∀ k, v2.ownBlock = some k → k < w'.heap.size ∧ k ≠ g) := by
  have hs := hc.size
  have hg2 := h.ref.blk.lt
  refine ⟨h1, h.ref.chg hc (by simp; exact fun e => h.ne e.symm) h.off2, fun k hk => ?_, fun k hk => ⟨Nat.lt_of_lt_of_le (h.own2 k hk).1 hs, (h.own2 k hk).2⟩⟩
  rcases hn k hk with h3 | h3
  · exact ⟨Nat.lt_of_lt_of_le (h.own k h3).1 hs, (h.own k h3).2⟩
  · exact ⟨h3.2, by omega⟩
theorem Two.two {w1 w2 : World} {g g2 : Nat} {v v2 v2' : Value} {d r r' : Dk} (ha : DiskAt w1 g v d) (hr : RefAt w1 g2 v2 r) (ho : ∀ k, v.ownBlock = some k → k < w1.heap.size ∧ k ≠ g2) (ho2 : ∀ k, v2.ownBlock = some k → k < w1.heap.size ∧ k ≠ g) (hne : g ≠ g2)
    (h2 : RefAt w2 g2 v2' r') (hc : Chg [g2] w1 w2) (hn : ∀ k, v2'.ownBlock = some k → v2.ownBlock = some k ∨ (w1.heap.size ≤ k ∧ k < w2.heap.size)) (he : Eqv d r') : Two w2 g g2 v v2' d r' := by
  have hs := hc.size
  have hg := ha.blk.lt
  refine ⟨ha.chg hc (by simpa using hne) (.of_own fun k hk => by simp; exact (ho k hk).2), h2, hne, fun k hk => ⟨Nat.lt_of_lt_of_le (ho k hk).1 hs, (ho k hk).2⟩, fun k hk => ?_, he⟩
  rcases hn k hk with h3 | h3
  · exact ⟨Nat.lt_of_lt_of_le (ho2 k h3).1 hs, (ho2 k h3).2⟩
  · exact ⟨h3.2, by omega⟩
theorem Two.ext {w w' : World} {g g2 : Nat} {v v2 : Value} {d r : Dk} (h : Two w g g2 v v2 d r) (hx : Ext w w') : Two w' g g2 v v2 d r :=
  ⟨h.at_.ext hx, h.ref.ext hx, h.ne, fun k hk => ⟨Nat.lt_of_lt_of_le (h.own k hk).1 hx.size, (h.own k hk).2⟩, fun k hk => ⟨Nat.lt_of_lt_of_le (h.own2 k hk).1 hx.size, (h.own2 k hk).2⟩, h.eqv⟩
/-- new blocks are written -/
theorem Two.chg {S : List Nat} {w w' : World} {g g2 : Nat} {v v2 : Value} {d r : Dk} (h : Two w g g2 v v2 d r) (hx : Chg S w w') (hs : ∀ k, k ∈ S → k ≠ g ∧ k ≠ g2 ∧ v.ownBlock ≠ some k ∧ v2.ownBlock ≠ some k) : Two w' g g2 v v2 d r :=
  ⟨h.at_.chg hx (fun hm => (hs g hm).1 rfl) (.of_own fun k hk hm => (hs k hm).2.2.1 hk), h.ref.chg hx (fun hm => (hs g2 hm).2.1 rfl) (.of_own fun k hk hm => (hs k hm).2.2.2 hk), h.ne,
    fun k hk => ⟨Nat.lt_of_lt_of_le (h.own k hk).1 hx.size, (h.own k hk).2⟩, fun k hk => ⟨Nat.lt_of_lt_of_le (h.own2 k hk).1 hx.size, (h.own2 k hk).2⟩, h.eqv⟩
/-! ### the two operations come to the same -/
theorem Eqv.crash {d r : Dk} (h : Eqv d r) (p : Int) : Eqv (d.crash p) (r.crash p) := by
  obtain ⟨h1, h2, h3, h4, h5, h6⟩ := h
  refine ⟨?_, h2, rfl, rfl, h5, fun h => by cases h⟩
  simp only [Dk.crash, Dk.cut, Dk.left, h1, h2]
theorem Eqv.power {d r : Dk} (h : Eqv d r) : Eqv d.power r.power := ⟨h.b, by show (d.b.length : Int) = _; rw [h.b]; rfl, h.ar, rfl, h.pt, h.at_⟩
theorem Eqv.last {d r : Dk} (h : Eqv d r) : Eqv d.last r.last := ⟨h.b, by show (d.b.length : Int) = _; rw [h.b]; rfl, h.ar, h.de, h.pt, h.at_⟩
theorem Eqv.arm {d r : Dk} (h : Eqv d r) (a p : Int) : Eqv (d.arm a p) (r.arm a p) := ⟨h.b, h.sy, rfl, h.de, rfl, fun _ => rfl⟩
theorem Eqv.app {d r : Dk} (h : Eqv d r) (m : Bytes) : Eqv (d.app m) (r.app m) := ⟨by show d.b ++ m = r.b ++ m; rw [h.b], h.sy, h.ar, h.de, h.pt, h.at_⟩
theorem Eqv.repl {d r : Dk} (h : Eqv d r) (m : Bytes) : Eqv (d.repl m) (r.repl m) := ⟨rfl, rfl, h.ar, h.de, h.pt, h.at_⟩
theorem Eqv.op {d r : Dk} (h : Eqv d r) (size : Int) (whole half : Dk → Dk) (hw : ∀ d r, Eqv d r → Eqv (whole d) (whole r)) (hh : ∀ d r : Dk, d.b = r.b → d.sy = r.sy → d.pt = r.pt → Eqv ((half d).crash (half d).pt) ((half r).crash (half r).pt)) :
    (d.op size whole half).2 = (r.rop size whole half).2 ∧ Eqv (d.op size whole half).1 (r.rop size whole half).1 := by
  unfold Dk.op Dk.rop
  rw [h.de]
  by_cases h1 : r.de = true
  · rw [if_pos h1, if_pos h1]; exact ⟨rfl, h⟩
  · rw [if_neg h1, if_neg h1]
    by_cases h2 : 200000 < size
    · rw [if_pos h2, if_pos h2]; exact ⟨rfl, h⟩
    · rw [if_neg h2, if_neg h2]
      by_cases h3 : d.ar = true
      · have h4 := h.at_ h3
        have h5 : r.ar = true := by rw [← h.ar]; exact h3
        rw [if_pos h5]
        by_cases h6 : d.at_ = 0
        · rw [if_pos ⟨h3, h6⟩, if_pos (by rw [← h4]; exact h6)]
          exact ⟨rfl, hh _ _ h.b h.sy h.pt⟩
        · rw [if_neg (fun hc => h6 hc.2), if_pos h3, if_neg (by rw [← h4]; exact h6)]
          exact ⟨rfl, hw _ _ ⟨h.b, h.sy, h.ar, by first | exact h.de | rfl, h.pt, fun _ => by show d.at_ - 1 = r.at_ - 1; rw [h4]⟩⟩
      · have h5 : ¬ r.ar = true := by rw [← h.ar]; exact h3
        rw [if_neg (fun hc => h3 hc.1), if_neg h3, if_neg h5]
        exact ⟨rfl, hw _ _ h⟩
theorem crash_same (d r : Dk) (p : Int) (h1 : d.b = r.b) (h2 : d.sy = r.sy) (h3 : d.pt = r.pt) : Eqv (d.crash p) (r.crash p) := by
  refine ⟨?_, h2, rfl, rfl, h3, fun h => by cases h⟩
  simp only [Dk.crash, Dk.cut, Dk.left, h1, h2]
theorem Eqv.opApp {d r : Dk} (h : Eqv d r) (m : Bytes) (size : Int) : (d.op size (Dk.app m) (Dk.app m)).2 = (r.rop size (Dk.app m) (Dk.app m)).2 ∧ Eqv (d.op size (Dk.app m) (Dk.app m)).1 (r.rop size (Dk.app m) (Dk.app m)).1 :=
  h.op size _ _ (fun d r h => h.app m) fun d r h1 h2 h3 => by
    have : (Dk.app m d).pt = (Dk.app m r).pt := h3
    rw [this]
    exact crash_same _ _ _ (by show d.b ++ m = r.b ++ m; rw [h1]) h2 h3
theorem Eqv.opId {d r : Dk} (h : Eqv d r) (size : Int) (whole : Dk → Dk) (hw : ∀ d r, Eqv d r → Eqv (whole d) (whole r)) : (d.op size whole id).2 = (r.rop size whole id).2 ∧ Eqv (d.op size whole id).1 (r.rop size whole id).1 :=
  h.op size _ _ hw fun d r h1 h2 h3 => by
    show Eqv (d.crash d.pt) (r.crash r.pt)
    rw [h3]
    exact crash_same _ _ _ h1 h2 h3
end Go.Proofs.Ytlhokicnedkieaa
