import Derived.Test.YtamimdlaclglkaaPk34
import Derived.Test.YtamimdlaclglkaaPk28
/- The document's links: making, naming. -/
namespace Go.Proofs.Ytamimdlaclglkaa
set_option linter.unusedVariables false
set_option linter.unusedSimpArgs false
set_option linter.unnecessarySimpa false
set_option maxRecDepth 100000
open Go.RowKit
abbrev XQ (X : Avoid) (g : Nat) : Avoid := fun k => X k ∨ (g ≤ k ∧ k ≤ g + 1 + 1 + 1)
theorem four_al (W : World) (T1 T2 T3 T4 : TypeId) (c1 c2 c3 c4 : Array Value) : Blk ((((W.alloc (.cells c1 T1)).alloc (.cells c2 T2)).alloc (.cells c3 T3)).alloc (.cells c4 T4)) W.heap.size T1 c1 ∧ Blk ((((W.alloc (.cells c1 T1)).alloc (.cells c2 T2)).alloc (.cells c3 T3)).alloc (.cells c4 T4)) (W.heap.size + 1) T2 c2 ∧
    Blk ((((W.alloc (.cells c1 T1)).alloc (.cells c2 T2)).alloc (.cells c3 T3)).alloc (.cells c4 T4)) (W.heap.size + 1 + 1) T3 c3 ∧ Blk ((((W.alloc (.cells c1 T1)).alloc (.cells c2 T2)).alloc (.cells c3 T3)).alloc (.cells c4 T4)) (W.heap.size + 1 + 1 + 1) T4 c4 ∧ Ext W ((((W.alloc (.cells c1 T1)).alloc (.cells c2 T2)).alloc (.cells c3 T3)).alloc (.cells c4 T4)) := by
  obtain ⟨h1, h2, h3, hx⟩ := three_al W T1 T2 T3 c1 c2 c3
  have h4 := Blk.new (((W.alloc (.cells c1 T1)).alloc (.cells c2 T2)).alloc (.cells c3 T3)) T4 c4
  rw [show (((W.alloc (.cells c1 T1)).alloc (.cells c2 T2)).alloc (.cells c3 T3)).heap.size = W.heap.size + 1 + 1 + 1 by simp] at h4
  exact ⟨h1.alloc _, h2.alloc _, h3.alloc _, h4, hx.alloc' _⟩
theorem fin_do {X : Avoid} {w W : World} {g : Nat} {s : St} {v0 v1 v2 v3 : Value} {e : Int} {tx : Bytes} (hR : Blk W (g + 1 + 1) 26 #[.int .u64 0, .int .u64 0, .slice none 0 0, .slice none 0 0]) (hA : Blk W (g + 1 + 1 + 1) 36 #[.int .i64 0, str []])
    (hx : Ext w W) (hg : w.heap.size ≤ g) (hr : stE.rep W (XQ X g) [v0, v1, v2, v3] s) :
    Blk ((((((W.setCell ⟨g + 1 + 1, 0, none⟩ v0).setCell ⟨g + 1 + 1, 1, none⟩ v1).setCell ⟨g + 1 + 1, 2, none⟩ v2).setCell ⟨g + 1 + 1, 3, none⟩ v3).setCell ⟨g + 1 + 1 + 1, 0, none⟩ (.int .i64 e)).setCell ⟨g + 1 + 1 + 1, 1, none⟩ (str tx)) (g + 1 + 1) 26 #[v0, v1, v2, v3] ∧
    Blk ((((((W.setCell ⟨g + 1 + 1, 0, none⟩ v0).setCell ⟨g + 1 + 1, 1, none⟩ v1).setCell ⟨g + 1 + 1, 2, none⟩ v2).setCell ⟨g + 1 + 1, 3, none⟩ v3).setCell ⟨g + 1 + 1 + 1, 0, none⟩ (.int .i64 e)).setCell ⟨g + 1 + 1 + 1, 1, none⟩ (str tx)) (g + 1 + 1 + 1) 36 #[.int .i64 e, str tx] ∧
    stE.rep ((((((W.setCell ⟨g + 1 + 1, 0, none⟩ v0).setCell ⟨g + 1 + 1, 1, none⟩ v1).setCell ⟨g + 1 + 1, 2, none⟩ v2).setCell ⟨g + 1 + 1, 3, none⟩ v3).setCell ⟨g + 1 + 1 + 1, 0, none⟩ (.int .i64 e)).setCell ⟨g + 1 + 1 + 1, 1, none⟩ (str tx)) X [v0, v1, v2, v3] s ∧
    Ext w ((((((W.setCell ⟨g + 1 + 1, 0, none⟩ v0).setCell ⟨g + 1 + 1, 1, none⟩ v1).setCell ⟨g + 1 + 1, 2, none⟩ v2).setCell ⟨g + 1 + 1, 3, none⟩ v3).setCell ⟨g + 1 + 1 + 1, 0, none⟩ (.int .i64 e)).setCell ⟨g + 1 + 1 + 1, 1, none⟩ (str tx)) := by
  have h1 := Blk.four hR v0 v1 v2 v3
  have hcg : Chg [g + 1 + 1] W _ := (Chg.refl [g + 1 + 1] W).four (g := g + 1 + 1) (by simp) v0 v1 v2 v3
  have h2 := Blk.two_ (hA.chg hcg (by simp)) (.int .i64 e) (str tx)
  have hc2 : Chg [g + 1 + 1 + 1] _ _ := (Chg.refl [g + 1 + 1 + 1] ((((W.setCell ⟨g + 1 + 1, 0, none⟩ v0).setCell ⟨g + 1 + 1, 1, none⟩ v1).setCell ⟨g + 1 + 1, 2, none⟩ v2).setCell ⟨g + 1 + 1, 3, none⟩ v3)).two_ (g := g + 1 + 1 + 1) (by simp) (.int .i64 e) (str tx)
  exact ⟨h1.chg hc2 (by simp), h2, stE.mono (stE.chg (stE.chg hr hcg (fun j hj _ => by have := List.mem_singleton.1 hj; exact .inr (by omega))) hc2 (fun j hj _ => by have := List.mem_singleton.1 hj; exact .inr (by omega))) (fun _ _ h => .inl h), (hx.then_ hcg (by simp; omega)).then_ hc2 (by simp; omega)⟩
end Go.Proofs.Ytamimdlaclglkaa

