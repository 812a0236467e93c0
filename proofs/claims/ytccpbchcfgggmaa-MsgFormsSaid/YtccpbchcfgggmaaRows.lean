/-
  No cell of these rows narrows 'for every input' (looked for: loops, veiled, ifaces, maps, wideKeys, modest, calm, conditions, laid).
  DERIVED. THE GIVEN ROWS OF THIS SEAT. 8 by the template 'for every input the law returns true; each argument reads behind the call as it read before'; 0 by the template 'total and deterministic' (their statements: YtccpbchcfgggmaaTotals.lean).
  GIVEN WITH THE SEED: the statements are not yours to turn. If you find one false, say at which input.
  Laid BY PROGRAM, IN A SANDBOX (cutbox-rows.mjs): the forced cells as the released guide's own fill.sh prints them over the translation e6b052c3c1b21a42… (all of the seat's roots in one cut). By AI agents, Wed Nov 11 2026. No macro, syntax, notation, axiom, sorry.
-/
import Derived.Test.YtccpbchcfgggmaaChecked
import GoSem.Claim
import GoSem.ClaimJoined
import GoSem.ClaimMapViews
import Derived.JoinedTies
import Derived.KernelRfl
namespace Go.Proofs.Ytccpbchcfgggmaa
/- THE CELL 'sum', in the pinned program and in every row, IS THE sha256 OF THE DUMP (.gsa) THAT YtccpbchcfgggmaaProg.lean LOADS. Nothing in Lean hashes anything: it is a label: what it is worth is what the hold of that sum in a sandbox is worth. -/
noncomputable def Try.pinned : Pinned := { name := "ytccpbchcfgggmaa", sum := "e6b052c3c1b21a42580abf6c251c893ab340e7e90d25c7a6bdbc5f0a6899bec7", checked := Try.checked }
namespace Rows
def none {H : Type} : Left H := { results := [], args := [] }

/-- 'shortcutlaw17.CmdAll': WHATEVER THE INPUT: true; the input reads as it did. -/
def cmdAllSpec : ChangeSpec := { name := "cmdAll", fn := fun _ => fun
  | [d1, d2] => { results := [.lit (.bool true)], args := [d1, d2] }
  | _ => none }
def cmdAllRow : OpenClaim := { program := "ytccpbchcfgggmaa", sum := "e6b052c3c1b21a42580abf6c251c893ab340e7e90d25c7a6bdbc5f0a6899bec7", func := "shortcut/shortcutlaw17.CmdAll", spec := "cmdAll", apart := false }
def CmdAllSaid : Prop := cmdAllRow.holds Try.pinned (OpenSpec.ofChange cmdAllSpec)

/-- ITS FALSE NEIGHBOUR: 'it returns false'. Refute it at one input. -/
def cmdAllWrong : ChangeSpec := { name := "cmdAll", fn := fun _ => fun
  | [d1, d2] => { results := [.lit (.bool false)], args := [d1, d2] }
  | _ => none }
def CmdAllWrongFalsely : Prop := cmdAllRow.holds Try.pinned (OpenSpec.ofChange cmdAllWrong)

/-- 'shortcutlaw17.CmdBack': WHATEVER THE INPUT: true; the input reads as it did. -/
def cmdBackSpec : ChangeSpec := { name := "cmdBack", fn := fun _ => fun
  | [d1, d2, d3, d4] => { results := [.lit (.bool true)], args := [d1, d2, d3, d4] }
  | _ => none }
def cmdBackRow : OpenClaim := { program := "ytccpbchcfgggmaa", sum := "e6b052c3c1b21a42580abf6c251c893ab340e7e90d25c7a6bdbc5f0a6899bec7", func := "shortcut/shortcutlaw17.CmdBack", spec := "cmdBack", apart := false }
def CmdBackSaid : Prop := cmdBackRow.holds Try.pinned (OpenSpec.ofChange cmdBackSpec)

/-- ITS FALSE NEIGHBOUR: 'it returns false'. Refute it at one input. -/
def cmdBackWrong : ChangeSpec := { name := "cmdBack", fn := fun _ => fun
  | [d1, d2, d3, d4] => { results := [.lit (.bool false)], args := [d1, d2, d3, d4] }
  | _ => none }
def CmdBackWrongFalsely : Prop := cmdBackRow.holds Try.pinned (OpenSpec.ofChange cmdBackWrong)

/-- 'shortcutlaw17.CmdOne': WHATEVER THE INPUT: true; the input reads as it did. -/
def cmdOneSpec : ChangeSpec := { name := "cmdOne", fn := fun _ => fun
  | [d1, d2] => { results := [.lit (.bool true)], args := [d1, d2] }
  | _ => none }
def cmdOneRow : OpenClaim := { program := "ytccpbchcfgggmaa", sum := "e6b052c3c1b21a42580abf6c251c893ab340e7e90d25c7a6bdbc5f0a6899bec7", func := "shortcut/shortcutlaw17.CmdOne", spec := "cmdOne", apart := false }
def CmdOneSaid : Prop := cmdOneRow.holds Try.pinned (OpenSpec.ofChange cmdOneSpec)

/-- ITS FALSE NEIGHBOUR: 'it returns false'. Refute it at one input. -/
def cmdOneWrong : ChangeSpec := { name := "cmdOne", fn := fun _ => fun
  | [d1, d2] => { results := [.lit (.bool false)], args := [d1, d2] }
  | _ => none }
def CmdOneWrongFalsely : Prop := cmdOneRow.holds Try.pinned (OpenSpec.ofChange cmdOneWrong)

/-- 'shortcutlaw17.CmdForms': WHATEVER THE INPUT: true; the input reads as it did. -/
def cmdFormsSpec : ChangeSpec := { name := "cmdForms", fn := fun _ => fun
  | [] => { results := [.lit (.bool true)], args := [] }
  | _ => none }
def cmdFormsRow : OpenClaim := { program := "ytccpbchcfgggmaa", sum := "e6b052c3c1b21a42580abf6c251c893ab340e7e90d25c7a6bdbc5f0a6899bec7", func := "shortcut/shortcutlaw17.CmdForms", spec := "cmdForms", apart := false }
def CmdFormsSaid : Prop := cmdFormsRow.holds Try.pinned (OpenSpec.ofChange cmdFormsSpec)

/-- ITS FALSE NEIGHBOUR: 'it returns false'. Refute it at one input. -/
def cmdFormsWrong : ChangeSpec := { name := "cmdForms", fn := fun _ => fun
  | [] => { results := [.lit (.bool false)], args := [] }
  | _ => none }
def CmdFormsWrongFalsely : Prop := cmdFormsRow.holds Try.pinned (OpenSpec.ofChange cmdFormsWrong)

/-- 'shortcutlaw24.MsgAll': WHATEVER THE INPUT: true; the input reads as it did. -/
def msgAllSpec : ChangeSpec := { name := "msgAll", fn := fun _ => fun
  | [d1, d2, d3] => { results := [.lit (.bool true)], args := [d1, d2, d3] }
  | _ => none }
def msgAllRow : OpenClaim := { program := "ytccpbchcfgggmaa", sum := "e6b052c3c1b21a42580abf6c251c893ab340e7e90d25c7a6bdbc5f0a6899bec7", func := "shortcut/shortcutlaw24.MsgAll", spec := "msgAll", unfollowed := true, recurses := true, apart := false }
def MsgAllSaid : Prop := msgAllRow.holds Try.pinned (OpenSpec.ofChange msgAllSpec)

/-- ITS FALSE NEIGHBOUR: 'it returns false'. Refute it at one input. -/
def msgAllWrong : ChangeSpec := { name := "msgAll", fn := fun _ => fun
  | [d1, d2, d3] => { results := [.lit (.bool false)], args := [d1, d2, d3] }
  | _ => none }
def MsgAllWrongFalsely : Prop := msgAllRow.holds Try.pinned (OpenSpec.ofChange msgAllWrong)

/-- 'shortcutlaw24.MsgBack': WHATEVER THE INPUT: true; the input reads as it did. -/
def msgBackSpec : ChangeSpec := { name := "msgBack", fn := fun _ => fun
  | [d1, d2, d3, d4] => { results := [.lit (.bool true)], args := [d1, d2, d3, d4] }
  | _ => none }
def msgBackRow : OpenClaim := { program := "ytccpbchcfgggmaa", sum := "e6b052c3c1b21a42580abf6c251c893ab340e7e90d25c7a6bdbc5f0a6899bec7", func := "shortcut/shortcutlaw24.MsgBack", spec := "msgBack", unfollowed := true, recurses := true, apart := false }
def MsgBackSaid : Prop := msgBackRow.holds Try.pinned (OpenSpec.ofChange msgBackSpec)

/-- ITS FALSE NEIGHBOUR: 'it returns false'. Refute it at one input. -/
def msgBackWrong : ChangeSpec := { name := "msgBack", fn := fun _ => fun
  | [d1, d2, d3, d4] => { results := [.lit (.bool false)], args := [d1, d2, d3, d4] }
  | _ => none }
def MsgBackWrongFalsely : Prop := msgBackRow.holds Try.pinned (OpenSpec.ofChange msgBackWrong)

/-- 'shortcutlaw24.MsgSame': WHATEVER THE INPUT: true; the input reads as it did. -/
def msgSameSpec : ChangeSpec := { name := "msgSame", fn := fun _ => fun
  | [d1, d2] => { results := [.lit (.bool true)], args := [d1, d2] }
  | _ => none }
def msgSameRow : OpenClaim := { program := "ytccpbchcfgggmaa", sum := "e6b052c3c1b21a42580abf6c251c893ab340e7e90d25c7a6bdbc5f0a6899bec7", func := "shortcut/shortcutlaw24.MsgSame", spec := "msgSame", unfollowed := true, recurses := true, apart := false }
def MsgSameSaid : Prop := msgSameRow.holds Try.pinned (OpenSpec.ofChange msgSameSpec)

/-- ITS FALSE NEIGHBOUR: 'it returns false'. Refute it at one input. -/
def msgSameWrong : ChangeSpec := { name := "msgSame", fn := fun _ => fun
  | [d1, d2] => { results := [.lit (.bool false)], args := [d1, d2] }
  | _ => none }
def MsgSameWrongFalsely : Prop := msgSameRow.holds Try.pinned (OpenSpec.ofChange msgSameWrong)

/-- 'shortcutlaw24.MsgForms': WHATEVER THE INPUT: true; the input reads as it did. -/
def msgFormsSpec : ChangeSpec := { name := "msgForms", fn := fun _ => fun
  | [] => { results := [.lit (.bool true)], args := [] }
  | _ => none }
def msgFormsRow : OpenClaim := { program := "ytccpbchcfgggmaa", sum := "e6b052c3c1b21a42580abf6c251c893ab340e7e90d25c7a6bdbc5f0a6899bec7", func := "shortcut/shortcutlaw24.MsgForms", spec := "msgForms", unfollowed := true, recurses := true, apart := false }
def MsgFormsSaid : Prop := msgFormsRow.holds Try.pinned (OpenSpec.ofChange msgFormsSpec)

/-- ITS FALSE NEIGHBOUR: 'it returns false'. Refute it at one input. -/
def msgFormsWrong : ChangeSpec := { name := "msgForms", fn := fun _ => fun
  | [] => { results := [.lit (.bool false)], args := [] }
  | _ => none }
def MsgFormsWrongFalsely : Prop := msgFormsRow.holds Try.pinned (OpenSpec.ofChange msgFormsWrong)

/- THE SECOND FORM. 'bulk': how many values and letters a reading holds, each counted each time it is reached (what is shared counts as often as it is met; a slice's spare places count too). A statement '..UptoSaid' is the law's where the arguments, and the package variables that the reading takes, are together of bulk at most 1048576: NARROWER than '..Said'. Prove '..Said' where nothing that the law and all that it calls make is longer than what came in: it says more and counts as full. Else prove '..UptoSaid'. A law counts once. -/
mutual
def uptoBulk {H : Type} : DataW H → Nat
  | .lit (.string bytes) => bytes.length + 1
  | .lit _ => 1
  | .nil => 1
  | .ptr d => uptoBulk d + 1
  | .slice elems spare => uptoBulkAll elems + uptoBulkAll spare + 1
  | .agg parts => uptoBulkAll parts + 1
  | .iface _ d => uptoBulk d + 1
  | .map entries => uptoBulkEntries entries + 1
  | .held _ => 1
def uptoBulkAll {H : Type} : List (DataW H) → Nat
  | [] => 0
  | d :: r => uptoBulk d + uptoBulkAll r
def uptoBulkEntries {H : Type} : List (Lit × DataW H) → Nat
  | [] => 0
  | x :: r => uptoBulkEntry x + uptoBulkEntries r
def uptoBulkEntry {H : Type} : Lit × DataW H → Nat
  | (.string bytes, d) => bytes.length + uptoBulk d + 1
  | (_, d) => uptoBulk d + 1
 end
def uptoSmall : (H : Type) → List (DataW H) → Bool := fun _ ds => decide (uptoBulkAll ds ≤ 1048576)
def OpenSpec.upto (s : _root_.Go.ChangeSpec) : _root_.Go.OpenSpec := { _root_.Go.OpenSpec.ofChange s with cond := some uptoSmall }

/-- 'shortcutlaw17.CmdAll', WHERE WHAT IT READS IS OF BULK AT MOST 1048576: true; the input reads as it did. -/
def cmdAllUptoRow : OpenClaim := { program := "ytccpbchcfgggmaa", sum := "e6b052c3c1b21a42580abf6c251c893ab340e7e90d25c7a6bdbc5f0a6899bec7", func := "shortcut/shortcutlaw17.CmdAll", spec := "cmdAll", apart := false, narrowed := true }
def CmdAllUptoSaid : Prop := cmdAllUptoRow.holds Try.pinned (OpenSpec.upto cmdAllSpec)

/-- 'shortcutlaw17.CmdBack', WHERE WHAT IT READS IS OF BULK AT MOST 1048576: true; the input reads as it did. -/
def cmdBackUptoRow : OpenClaim := { program := "ytccpbchcfgggmaa", sum := "e6b052c3c1b21a42580abf6c251c893ab340e7e90d25c7a6bdbc5f0a6899bec7", func := "shortcut/shortcutlaw17.CmdBack", spec := "cmdBack", apart := false, narrowed := true }
def CmdBackUptoSaid : Prop := cmdBackUptoRow.holds Try.pinned (OpenSpec.upto cmdBackSpec)

/-- 'shortcutlaw17.CmdOne', WHERE WHAT IT READS IS OF BULK AT MOST 1048576: true; the input reads as it did. -/
def cmdOneUptoRow : OpenClaim := { program := "ytccpbchcfgggmaa", sum := "e6b052c3c1b21a42580abf6c251c893ab340e7e90d25c7a6bdbc5f0a6899bec7", func := "shortcut/shortcutlaw17.CmdOne", spec := "cmdOne", apart := false, narrowed := true }
def CmdOneUptoSaid : Prop := cmdOneUptoRow.holds Try.pinned (OpenSpec.upto cmdOneSpec)

/-- 'shortcutlaw17.CmdForms', WHERE WHAT IT READS IS OF BULK AT MOST 1048576: true; the input reads as it did. -/
def cmdFormsUptoRow : OpenClaim := { program := "ytccpbchcfgggmaa", sum := "e6b052c3c1b21a42580abf6c251c893ab340e7e90d25c7a6bdbc5f0a6899bec7", func := "shortcut/shortcutlaw17.CmdForms", spec := "cmdForms", apart := false, narrowed := true }
def CmdFormsUptoSaid : Prop := cmdFormsUptoRow.holds Try.pinned (OpenSpec.upto cmdFormsSpec)

/-- 'shortcutlaw24.MsgAll', WHERE WHAT IT READS IS OF BULK AT MOST 1048576: true; the input reads as it did. -/
def msgAllUptoRow : OpenClaim := { program := "ytccpbchcfgggmaa", sum := "e6b052c3c1b21a42580abf6c251c893ab340e7e90d25c7a6bdbc5f0a6899bec7", func := "shortcut/shortcutlaw24.MsgAll", spec := "msgAll", unfollowed := true, recurses := true, apart := false, narrowed := true }
def MsgAllUptoSaid : Prop := msgAllUptoRow.holds Try.pinned (OpenSpec.upto msgAllSpec)

/-- 'shortcutlaw24.MsgBack', WHERE WHAT IT READS IS OF BULK AT MOST 1048576: true; the input reads as it did. -/
def msgBackUptoRow : OpenClaim := { program := "ytccpbchcfgggmaa", sum := "e6b052c3c1b21a42580abf6c251c893ab340e7e90d25c7a6bdbc5f0a6899bec7", func := "shortcut/shortcutlaw24.MsgBack", spec := "msgBack", unfollowed := true, recurses := true, apart := false, narrowed := true }
def MsgBackUptoSaid : Prop := msgBackUptoRow.holds Try.pinned (OpenSpec.upto msgBackSpec)

/-- 'shortcutlaw24.MsgSame', WHERE WHAT IT READS IS OF BULK AT MOST 1048576: true; the input reads as it did. -/
def msgSameUptoRow : OpenClaim := { program := "ytccpbchcfgggmaa", sum := "e6b052c3c1b21a42580abf6c251c893ab340e7e90d25c7a6bdbc5f0a6899bec7", func := "shortcut/shortcutlaw24.MsgSame", spec := "msgSame", unfollowed := true, recurses := true, apart := false, narrowed := true }
def MsgSameUptoSaid : Prop := msgSameUptoRow.holds Try.pinned (OpenSpec.upto msgSameSpec)

/-- 'shortcutlaw24.MsgForms', WHERE WHAT IT READS IS OF BULK AT MOST 1048576: true; the input reads as it did. -/
def msgFormsUptoRow : OpenClaim := { program := "ytccpbchcfgggmaa", sum := "e6b052c3c1b21a42580abf6c251c893ab340e7e90d25c7a6bdbc5f0a6899bec7", func := "shortcut/shortcutlaw24.MsgForms", spec := "msgForms", unfollowed := true, recurses := true, apart := false, narrowed := true }
def MsgFormsUptoSaid : Prop := msgFormsUptoRow.holds Try.pinned (OpenSpec.upto msgFormsSpec)

end Rows
end Go.Proofs.Ytccpbchcfgggmaa
