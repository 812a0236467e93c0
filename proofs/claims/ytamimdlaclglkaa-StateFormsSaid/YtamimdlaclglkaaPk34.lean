import Derived.Test.YtamimdlaclglkaaPk33
import Derived.Test.YtamimdlaclglkaaPk32
import Derived.Laws.Cover1
import Derived.RegionTactic
import Derived.Deep.DeepCutAuto
/- The document's links: small functions. -/
namespace Go.Proofs.Ytamimdlaclglkaa
set_option linter.unusedVariables false
set_option linter.unusedSimpArgs false
set_option linter.unnecessarySimpa false
set_option maxRecDepth 100000
open Go.RowKit
theorem two_alR (W : World) (T1 T2 : TypeId) (c1 c2 : Array Value) : Blk ((W.alloc (.cells c1 T1)).alloc (.cells c2 T2)) W.heap.size T1 c1 ∧ Blk ((W.alloc (.cells c1 T1)).alloc (.cells c2 T2)) (W.heap.size + 1) T2 c2 ∧ Ext W ((W.alloc (.cells c1 T1)).alloc (.cells c2 T2)) := by
  have h2 := Blk.new (W.alloc (.cells c1 T1)) T2 c2
  rw [show (W.alloc (.cells c1 T1)).heap.size = W.heap.size + 1 by simp] at h2
  exact ⟨(Blk.new W T1 c1).alloc _, h2, ((Ext.rfl' W).alloc' _).alloc' _⟩











































































/-- what the document's Find tells -/
def rfv (l : List Ln) (n : Bytes) : Ln × Bool := match rfind l n with
  | some x => (x, true)
  | none => (Ln0, false)













































































end Go.Proofs.Ytamimdlaclglkaa

/- The document's put: one more link. -/
namespace Go.Proofs.Ytamimdlaclglkaa
set_option linter.unusedVariables false
set_option linter.unusedSimpArgs false
set_option linter.unnecessarySimpa false
set_option maxRecDepth 100000
open Go.RowKit
theorem cntP_firstL {α : Type} (p : α → Bool) : ∀ (l : List α) (k : Nat), k ≤ l.length → (∀ (j : Nat) (x : α), j < k → l[j]? = some x → p x = true) → (∀ (x : α), l[k]? = some x → p x = false) → cntP p l = k
  | [], k, hk, _, _ => by simp [cntP] at *; omega
  | a :: l, 0, _, _, h => by simp [cntP, h a rfl]
  | a :: l, k + 1, hk, h1, h2 => by
    have ih := cntP_firstL p l k (by simpa using hk) (fun j x hj hx => h1 (j + 1) x (by omega) (by simpa using hx)) (fun x hx => h2 x (by simpa using hx))
    unfold cntP at *
    rw [List.takeWhile_cons, if_pos (h1 0 a (by omega) rfl)]
    simp [ih]
theorem three_al (W : World) (T1 T2 T3 : TypeId) (c1 c2 c3 : Array Value) : Blk (((W.alloc (.cells c1 T1)).alloc (.cells c2 T2)).alloc (.cells c3 T3)) W.heap.size T1 c1 ∧ Blk (((W.alloc (.cells c1 T1)).alloc (.cells c2 T2)).alloc (.cells c3 T3)) (W.heap.size + 1) T2 c2 ∧
    Blk (((W.alloc (.cells c1 T1)).alloc (.cells c2 T2)).alloc (.cells c3 T3)) (W.heap.size + 1 + 1) T3 c3 ∧ Ext W (((W.alloc (.cells c1 T1)).alloc (.cells c2 T2)).alloc (.cells c3 T3)) := by
  obtain ⟨h1, h2, hx⟩ := two_alR W T1 T2 c1 c2
  have h3 := Blk.new ((W.alloc (.cells c1 T1)).alloc (.cells c2 T2)) T3 c3
  rw [show ((W.alloc (.cells c1 T1)).alloc (.cells c2 T2)).heap.size = W.heap.size + 1 + 1 by simp] at h3
  exact ⟨h1.alloc _, h2.alloc _, h3, hx.alloc' _⟩

















































































































































end Go.Proofs.Ytamimdlaclglkaa

