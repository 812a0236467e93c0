/-
  No cell of these rows narrows 'for every input' (looked for: loops, veiled, ifaces, maps, wideKeys, modest, calm, conditions, laid).
  DERIVED. THE GIVEN ROWS OF THIS SEAT. 8 by the template 'for every input the law returns true; each argument reads behind the call as it read before'; 0 by the template 'total and deterministic' (their statements: YtggfemdgccgbpaaTotals.lean).
  GIVEN WITH THE SEED: the statements are not yours to turn. If you find one false, say at which input.
  Laid BY PROGRAM, IN A SANDBOX (cutbox-rows.mjs): the forced cells as the released guide's own fill.sh prints them over the translation da1532cef486fd99… (all of the seat's roots in one cut). By AI agents, Wed Nov 11 2026. No macro, syntax, notation, axiom, sorry.
-/
import Derived.Test.YtggfemdgccgbpaaChecked
import GoSem.Claim
import GoSem.ClaimJoined
import GoSem.ClaimMapViews
import Derived.JoinedTies
import Derived.KernelRfl
namespace Go.Proofs.Ytggfemdgccgbpaa
/- THE CELL 'sum', in the pinned program and in every row, IS THE sha256 OF THE DUMP (.gsa) THAT YtggfemdgccgbpaaProg.lean LOADS. Nothing in Lean hashes anything: it is a label: what it is worth is what the hold of that sum in a sandbox is worth. -/
noncomputable def Try.pinned : Pinned := { name := "ytggfemdgccgbpaa", sum := "da1532cef486fd99f053a8d46f52054d7e22067d4c91153d93fb19622b7c9d5d", checked := Try.checked }
namespace Rows
def none {H : Type} : Left H := { results := [], args := [] }

/-- 'shortcutlaw18.LinksAll': WHATEVER THE INPUT: true; the input reads as it did. -/
def linksAllSpec : ChangeSpec := { name := "linksAll", fn := fun _ => fun
  | [d] => { results := [.lit (.bool true)], args := [d] }
  | _ => none }
def linksAllRow : OpenClaim := { program := "ytggfemdgccgbpaa", sum := "da1532cef486fd99f053a8d46f52054d7e22067d4c91153d93fb19622b7c9d5d", func := "shortcut/shortcutlaw18.LinksAll", spec := "linksAll", inPlace := ["internal/bytealg.abigen_runtime_cmpstring", "slices.overlaps[shortcut/api.Link]"], unfollowed := true, recurses := true, apart := false }
def LinksAllSaid : Prop := linksAllRow.holds Try.pinned (OpenSpec.ofChange linksAllSpec)

/-- ITS FALSE NEIGHBOUR: 'it returns false'. Refute it at one input. -/
def linksAllWrong : ChangeSpec := { name := "linksAll", fn := fun _ => fun
  | [d] => { results := [.lit (.bool false)], args := [d] }
  | _ => none }
def LinksAllWrongFalsely : Prop := linksAllRow.holds Try.pinned (OpenSpec.ofChange linksAllWrong)

/-- 'shortcutlaw18.LinksNever': WHATEVER THE INPUT: true; the input reads as it did. -/
def linksNeverSpec : ChangeSpec := { name := "linksNever", fn := fun _ => fun
  | [d] => { results := [.lit (.bool true)], args := [d] }
  | _ => none }
def linksNeverRow : OpenClaim := { program := "ytggfemdgccgbpaa", sum := "da1532cef486fd99f053a8d46f52054d7e22067d4c91153d93fb19622b7c9d5d", func := "shortcut/shortcutlaw18.LinksNever", spec := "linksNever", inPlace := ["internal/bytealg.abigen_runtime_cmpstring", "slices.overlaps[shortcut/api.Link]"], unfollowed := true, recurses := true, apart := false }
def LinksNeverSaid : Prop := linksNeverRow.holds Try.pinned (OpenSpec.ofChange linksNeverSpec)

/-- ITS FALSE NEIGHBOUR: 'it returns false'. Refute it at one input. -/
def linksNeverWrong : ChangeSpec := { name := "linksNever", fn := fun _ => fun
  | [d] => { results := [.lit (.bool false)], args := [d] }
  | _ => none }
def LinksNeverWrongFalsely : Prop := linksNeverRow.holds Try.pinned (OpenSpec.ofChange linksNeverWrong)

/-- 'shortcutlaw18.LinksSame': WHATEVER THE INPUT: true; the input reads as it did. -/
def linksSameSpec : ChangeSpec := { name := "linksSame", fn := fun _ => fun
  | [d1, d2, d3] => { results := [.lit (.bool true)], args := [d1, d2, d3] }
  | _ => none }
def linksSameRow : OpenClaim := { program := "ytggfemdgccgbpaa", sum := "da1532cef486fd99f053a8d46f52054d7e22067d4c91153d93fb19622b7c9d5d", func := "shortcut/shortcutlaw18.LinksSame", spec := "linksSame", inPlace := ["internal/bytealg.abigen_runtime_cmpstring", "slices.overlaps[shortcut/api.Link]"], unfollowed := true, recurses := true, apart := false }
def LinksSameSaid : Prop := linksSameRow.holds Try.pinned (OpenSpec.ofChange linksSameSpec)

/-- ITS FALSE NEIGHBOUR: 'it returns false'. Refute it at one input. -/
def linksSameWrong : ChangeSpec := { name := "linksSame", fn := fun _ => fun
  | [d1, d2, d3] => { results := [.lit (.bool false)], args := [d1, d2, d3] }
  | _ => none }
def LinksSameWrongFalsely : Prop := linksSameRow.holds Try.pinned (OpenSpec.ofChange linksSameWrong)

/-- 'shortcutlaw18.LinksTaken': WHATEVER THE INPUT: true; the input reads as it did. -/
def linksTakenSpec : ChangeSpec := { name := "linksTaken", fn := fun _ => fun
  | [d1, d2, d3, d4] => { results := [.lit (.bool true)], args := [d1, d2, d3, d4] }
  | _ => none }
def linksTakenRow : OpenClaim := { program := "ytggfemdgccgbpaa", sum := "da1532cef486fd99f053a8d46f52054d7e22067d4c91153d93fb19622b7c9d5d", func := "shortcut/shortcutlaw18.LinksTaken", spec := "linksTaken", inPlace := ["internal/bytealg.abigen_runtime_cmpstring", "slices.overlaps[shortcut/api.Link]"], unfollowed := true, recurses := true, apart := false }
def LinksTakenSaid : Prop := linksTakenRow.holds Try.pinned (OpenSpec.ofChange linksTakenSpec)

/-- ITS FALSE NEIGHBOUR: 'it returns false'. Refute it at one input. -/
def linksTakenWrong : ChangeSpec := { name := "linksTaken", fn := fun _ => fun
  | [d1, d2, d3, d4] => { results := [.lit (.bool false)], args := [d1, d2, d3, d4] }
  | _ => none }
def LinksTakenWrongFalsely : Prop := linksTakenRow.holds Try.pinned (OpenSpec.ofChange linksTakenWrong)

/-- 'shortcutlaw18.LinksTime': WHATEVER THE INPUT: true; the input reads as it did. -/
def linksTimeSpec : ChangeSpec := { name := "linksTime", fn := fun _ => fun
  | [d1, d2] => { results := [.lit (.bool true)], args := [d1, d2] }
  | _ => none }
def linksTimeRow : OpenClaim := { program := "ytggfemdgccgbpaa", sum := "da1532cef486fd99f053a8d46f52054d7e22067d4c91153d93fb19622b7c9d5d", func := "shortcut/shortcutlaw18.LinksTime", spec := "linksTime", inPlace := ["internal/bytealg.abigen_runtime_cmpstring", "slices.overlaps[shortcut/api.Link]"], unfollowed := true, recurses := true, apart := false }
def LinksTimeSaid : Prop := linksTimeRow.holds Try.pinned (OpenSpec.ofChange linksTimeSpec)

/-- ITS FALSE NEIGHBOUR: 'it returns false'. Refute it at one input. -/
def linksTimeWrong : ChangeSpec := { name := "linksTime", fn := fun _ => fun
  | [d1, d2] => { results := [.lit (.bool false)], args := [d1, d2] }
  | _ => none }
def LinksTimeWrongFalsely : Prop := linksTimeRow.holds Try.pinned (OpenSpec.ofChange linksTimeWrong)

/-- 'shortcutlaw18.LinksFull': WHATEVER THE INPUT: true; the input reads as it did. -/
def linksFullSpec : ChangeSpec := { name := "linksFull", fn := fun _ => fun
  | [] => { results := [.lit (.bool true)], args := [] }
  | _ => none }
def linksFullRow : OpenClaim := { program := "ytggfemdgccgbpaa", sum := "da1532cef486fd99f053a8d46f52054d7e22067d4c91153d93fb19622b7c9d5d", func := "shortcut/shortcutlaw18.LinksFull", spec := "linksFull", inPlace := ["internal/bytealg.abigen_runtime_cmpstring", "slices.overlaps[shortcut/api.Link]"], unfollowed := true, recurses := true, apart := false }
def LinksFullSaid : Prop := linksFullRow.holds Try.pinned (OpenSpec.ofChange linksFullSpec)

/-- ITS FALSE NEIGHBOUR: 'it returns false'. Refute it at one input. -/
def linksFullWrong : ChangeSpec := { name := "linksFull", fn := fun _ => fun
  | [] => { results := [.lit (.bool false)], args := [] }
  | _ => none }
def LinksFullWrongFalsely : Prop := linksFullRow.holds Try.pinned (OpenSpec.ofChange linksFullWrong)

/-- 'shortcutlaw18.LinksForms': WHATEVER THE INPUT: true; the input reads as it did. -/
def linksFormsSpec : ChangeSpec := { name := "linksForms", fn := fun _ => fun
  | [] => { results := [.lit (.bool true)], args := [] }
  | _ => none }
def linksFormsRow : OpenClaim := { program := "ytggfemdgccgbpaa", sum := "da1532cef486fd99f053a8d46f52054d7e22067d4c91153d93fb19622b7c9d5d", func := "shortcut/shortcutlaw18.LinksForms", spec := "linksForms", inPlace := ["internal/bytealg.abigen_runtime_cmpstring", "slices.overlaps[shortcut/api.Link]"], unfollowed := true, recurses := true, apart := false }
def LinksFormsSaid : Prop := linksFormsRow.holds Try.pinned (OpenSpec.ofChange linksFormsSpec)

/-- ITS FALSE NEIGHBOUR: 'it returns false'. Refute it at one input. -/
def linksFormsWrong : ChangeSpec := { name := "linksForms", fn := fun _ => fun
  | [] => { results := [.lit (.bool false)], args := [] }
  | _ => none }
def LinksFormsWrongFalsely : Prop := linksFormsRow.holds Try.pinned (OpenSpec.ofChange linksFormsWrong)

/-- 'shortcutlaw18.LinksFind': WHATEVER THE INPUT: true; the input reads as it did. -/
def linksFindSpec : ChangeSpec := { name := "linksFind", fn := fun _ => fun
  | [d1, d2] => { results := [.lit (.bool true)], args := [d1, d2] }
  | _ => none }
def linksFindRow : OpenClaim := { program := "ytggfemdgccgbpaa", sum := "da1532cef486fd99f053a8d46f52054d7e22067d4c91153d93fb19622b7c9d5d", func := "shortcut/shortcutlaw18.LinksFind", spec := "linksFind", inPlace := ["internal/bytealg.abigen_runtime_cmpstring", "slices.overlaps[shortcut/api.Link]"], unfollowed := true, recurses := true, apart := false }
def LinksFindSaid : Prop := linksFindRow.holds Try.pinned (OpenSpec.ofChange linksFindSpec)

/-- ITS FALSE NEIGHBOUR: 'it returns false'. Refute it at one input. -/
def linksFindWrong : ChangeSpec := { name := "linksFind", fn := fun _ => fun
  | [d1, d2] => { results := [.lit (.bool false)], args := [d1, d2] }
  | _ => none }
def LinksFindWrongFalsely : Prop := linksFindRow.holds Try.pinned (OpenSpec.ofChange linksFindWrong)

/- THE SECOND FORM. 'bulk': how many values and letters a reading holds, each counted each time it is reached (what is shared counts as often as it is met; a slice's spare places count too). A statement '..UptoSaid' is the law's where the arguments, and the package variables that the reading takes, are together of bulk at most 1048576: NARROWER than '..Said'. Prove '..Said' where nothing that the law and all that it calls make is longer than what came in: it says more and counts as full. Else prove '..UptoSaid'. A law counts once. -/
mutual
def uptoBulk {H : Type} : DataW H → Nat
  | .lit (.string bytes) => bytes.length + 1
  | .lit _ => 1
  | .nil => 1
  | .ptr d => uptoBulk d + 1
  | .slice elems spare => uptoBulkAll elems + uptoBulkAll spare + 1
  | .agg parts => uptoBulkAll parts + 1
  | .iface _ d => uptoBulk d + 1
  | .map entries => uptoBulkEntries entries + 1
  | .held _ => 1
def uptoBulkAll {H : Type} : List (DataW H) → Nat
  | [] => 0
  | d :: r => uptoBulk d + uptoBulkAll r
def uptoBulkEntries {H : Type} : List (Lit × DataW H) → Nat
  | [] => 0
  | x :: r => uptoBulkEntry x + uptoBulkEntries r
def uptoBulkEntry {H : Type} : Lit × DataW H → Nat
  | (.string bytes, d) => bytes.length + uptoBulk d + 1
  | (_, d) => uptoBulk d + 1
 end
def uptoSmall : (H : Type) → List (DataW H) → Bool := fun _ ds => decide (uptoBulkAll ds ≤ 1048576)
def OpenSpec.upto (s : _root_.Go.ChangeSpec) : _root_.Go.OpenSpec := { _root_.Go.OpenSpec.ofChange s with cond := some uptoSmall }

/-- 'shortcutlaw18.LinksAll', WHERE WHAT IT READS IS OF BULK AT MOST 1048576: true; the input reads as it did. -/
def linksAllUptoRow : OpenClaim := { program := "ytggfemdgccgbpaa", sum := "da1532cef486fd99f053a8d46f52054d7e22067d4c91153d93fb19622b7c9d5d", func := "shortcut/shortcutlaw18.LinksAll", spec := "linksAll", inPlace := ["internal/bytealg.abigen_runtime_cmpstring", "slices.overlaps[shortcut/api.Link]"], unfollowed := true, recurses := true, apart := false, narrowed := true }
def LinksAllUptoSaid : Prop := linksAllUptoRow.holds Try.pinned (OpenSpec.upto linksAllSpec)

/-- 'shortcutlaw18.LinksNever', WHERE WHAT IT READS IS OF BULK AT MOST 1048576: true; the input reads as it did. -/
def linksNeverUptoRow : OpenClaim := { program := "ytggfemdgccgbpaa", sum := "da1532cef486fd99f053a8d46f52054d7e22067d4c91153d93fb19622b7c9d5d", func := "shortcut/shortcutlaw18.LinksNever", spec := "linksNever", inPlace := ["internal/bytealg.abigen_runtime_cmpstring", "slices.overlaps[shortcut/api.Link]"], unfollowed := true, recurses := true, apart := false, narrowed := true }
def LinksNeverUptoSaid : Prop := linksNeverUptoRow.holds Try.pinned (OpenSpec.upto linksNeverSpec)

/-- 'shortcutlaw18.LinksSame', WHERE WHAT IT READS IS OF BULK AT MOST 1048576: true; the input reads as it did. -/
def linksSameUptoRow : OpenClaim := { program := "ytggfemdgccgbpaa", sum := "da1532cef486fd99f053a8d46f52054d7e22067d4c91153d93fb19622b7c9d5d", func := "shortcut/shortcutlaw18.LinksSame", spec := "linksSame", inPlace := ["internal/bytealg.abigen_runtime_cmpstring", "slices.overlaps[shortcut/api.Link]"], unfollowed := true, recurses := true, apart := false, narrowed := true }
def LinksSameUptoSaid : Prop := linksSameUptoRow.holds Try.pinned (OpenSpec.upto linksSameSpec)

/-- 'shortcutlaw18.LinksTaken', WHERE WHAT IT READS IS OF BULK AT MOST 1048576: true; the input reads as it did. -/
def linksTakenUptoRow : OpenClaim := { program := "ytggfemdgccgbpaa", sum := "da1532cef486fd99f053a8d46f52054d7e22067d4c91153d93fb19622b7c9d5d", func := "shortcut/shortcutlaw18.LinksTaken", spec := "linksTaken", inPlace := ["internal/bytealg.abigen_runtime_cmpstring", "slices.overlaps[shortcut/api.Link]"], unfollowed := true, recurses := true, apart := false, narrowed := true }
def LinksTakenUptoSaid : Prop := linksTakenUptoRow.holds Try.pinned (OpenSpec.upto linksTakenSpec)

/-- 'shortcutlaw18.LinksTime', WHERE WHAT IT READS IS OF BULK AT MOST 1048576: true; the input reads as it did. -/
def linksTimeUptoRow : OpenClaim := { program := "ytggfemdgccgbpaa", sum := "da1532cef486fd99f053a8d46f52054d7e22067d4c91153d93fb19622b7c9d5d", func := "shortcut/shortcutlaw18.LinksTime", spec := "linksTime", inPlace := ["internal/bytealg.abigen_runtime_cmpstring", "slices.overlaps[shortcut/api.Link]"], unfollowed := true, recurses := true, apart := false, narrowed := true }
def LinksTimeUptoSaid : Prop := linksTimeUptoRow.holds Try.pinned (OpenSpec.upto linksTimeSpec)

/-- 'shortcutlaw18.LinksFull', WHERE WHAT IT READS IS OF BULK AT MOST 1048576: true; the input reads as it did. -/
def linksFullUptoRow : OpenClaim := { program := "ytggfemdgccgbpaa", sum := "da1532cef486fd99f053a8d46f52054d7e22067d4c91153d93fb19622b7c9d5d", func := "shortcut/shortcutlaw18.LinksFull", spec := "linksFull", inPlace := ["internal/bytealg.abigen_runtime_cmpstring", "slices.overlaps[shortcut/api.Link]"], unfollowed := true, recurses := true, apart := false, narrowed := true }
def LinksFullUptoSaid : Prop := linksFullUptoRow.holds Try.pinned (OpenSpec.upto linksFullSpec)

/-- 'shortcutlaw18.LinksForms', WHERE WHAT IT READS IS OF BULK AT MOST 1048576: true; the input reads as it did. -/
def linksFormsUptoRow : OpenClaim := { program := "ytggfemdgccgbpaa", sum := "da1532cef486fd99f053a8d46f52054d7e22067d4c91153d93fb19622b7c9d5d", func := "shortcut/shortcutlaw18.LinksForms", spec := "linksForms", inPlace := ["internal/bytealg.abigen_runtime_cmpstring", "slices.overlaps[shortcut/api.Link]"], unfollowed := true, recurses := true, apart := false, narrowed := true }
def LinksFormsUptoSaid : Prop := linksFormsUptoRow.holds Try.pinned (OpenSpec.upto linksFormsSpec)

/-- 'shortcutlaw18.LinksFind', WHERE WHAT IT READS IS OF BULK AT MOST 1048576: true; the input reads as it did. -/
def linksFindUptoRow : OpenClaim := { program := "ytggfemdgccgbpaa", sum := "da1532cef486fd99f053a8d46f52054d7e22067d4c91153d93fb19622b7c9d5d", func := "shortcut/shortcutlaw18.LinksFind", spec := "linksFind", inPlace := ["internal/bytealg.abigen_runtime_cmpstring", "slices.overlaps[shortcut/api.Link]"], unfollowed := true, recurses := true, apart := false, narrowed := true }
def LinksFindUptoSaid : Prop := linksFindUptoRow.holds Try.pinned (OpenSpec.upto linksFindSpec)

end Rows
end Go.Proofs.Ytggfemdgccgbpaa
