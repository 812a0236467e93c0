/- The walk is stopped where two values have been boxed: the world behind it is any world that has them. -/
import Derived.Test.YtccpbchcfgggmaaChg
namespace Go.Proofs.Ytccpbchcfgggmaa
set_option linter.unusedVariables false
set_option linter.unusedSimpArgs false
set_option linter.unnecessarySimpa false
set_option maxRecDepth 100000
open Go.RowKit
/-- p, where no walk goes on -/
def Stop (p : Prop) : Prop := p
theorem two_stop {P : Program} {ops : Array Oper} {Q : Exit → Act → World → Prop} {l : List Oper} {a : Act} {w : World} {c1 c2 : Array Value} {T1 T2 : TypeId}
    (h : Stop (∀ (W : World) (g : Nat), w.heap.size = g → Blk W g T1 c1 → Blk W (g + 1) T2 c2 → Ext w W → wpList P ops Q l a W)) :
    wpList P ops Q l a ((w.alloc (.cells c1 T1)).alloc (.cells c2 T2)) :=
  h _ _ rfl ((Blk.new w T1 c1).alloc _) (by have := Blk.new (w.alloc (.cells c1 T1)) T2 c2; simpa using this) (((Ext.rfl' w).alloc' _).alloc' _)
theorem one_stop {P : Program} {ops : Array Oper} {Q : Exit → Act → World → Prop} {l : List Oper} {a : Act} {w : World} {c1 : Array Value} {T1 : TypeId}
    (h : Stop (∀ (W : World) (g : Nat), w.heap.size = g → Blk W g T1 c1 → Ext w W → wpList P ops Q l a W)) :
    wpList P ops Q l a (w.alloc (.cells c1 T1)) :=
  h _ _ rfl (Blk.new w T1 c1) ((Ext.rfl' w).alloc' _)
end Go.Proofs.Ytccpbchcfgggmaa
