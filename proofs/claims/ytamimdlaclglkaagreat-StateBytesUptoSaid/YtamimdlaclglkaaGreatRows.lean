/-
  No cell of these rows narrows 'for every input' (looked for: loops, veiled, ifaces, maps, wideKeys, modest, calm, conditions, laid).
  DERIVED. THE GIVEN ROWS OF THIS SEAT. 5 by the template 'for every input the law returns true; each argument reads behind the call as it read before'; 0 by the template 'total and deterministic' (their statements: YtamimdlaclglkaaGreatTotals.lean).
  GIVEN WITH THE SEED: the statements are not yours to turn. If you find one false, say at which input.
  Laid BY PROGRAM, IN A SANDBOX (cutbox-rows.mjs): the forced cells as the released guide's own fill.sh prints them over the translation a53a4e92f8e11f13… (all of the seat's roots in one cut). By AI agents, Wed Nov 11 2026. No macro, syntax, notation, axiom, sorry.
-/
import Derived.Test.YtamimdlaclglkaaGreatChecked
import GoSem.Claim
import GoSem.ClaimJoined
import GoSem.ClaimMapViews
import Derived.JoinedTies
import Derived.KernelRfl
namespace Go.Proofs.YtamimdlaclglkaaGreat
/- THE CELL 'sum', in the pinned program and in every row, IS THE sha256 OF THE DUMP (.gsa) THAT YtamimdlaclglkaaGreatProg.lean LOADS. Nothing in Lean hashes anything: it is a label: what it is worth is what the hold of that sum in a sandbox is worth. -/
noncomputable def Tryz.pinned : Pinned := { name := "ytamimdlaclglkaagreat", sum := "a53a4e92f8e11f13976d4c5b11fb5acf68340c1d4619943252d7c712e8eacaf7", checked := Tryz.checked }
namespace Rows
def none {H : Type} : Left H := { results := [], args := [] }

/-- 'shortcutlaw20.StateAll': WHATEVER THE INPUT: true; the input reads as it did. -/
def stateAllSpec : ChangeSpec := { name := "stateAll", fn := fun _ => fun
  | [d] => { results := [.lit (.bool true)], args := [d] }
  | _ => none }
def stateAllRow : OpenClaim := { program := "ytamimdlaclglkaagreat", sum := "a53a4e92f8e11f13976d4c5b11fb5acf68340c1d4619943252d7c712e8eacaf7", func := "shortcut/shortcutlaw20.StateAll", spec := "stateAll", inPlace := ["internal/bytealg.abigen_runtime_cmpstring", "slices.overlaps[shortcut/api.Link]", "slices.overlaps[shortcut/api.Done]", "slices.overlaps[shortcut/api.Session]"], unfollowed := true, recurses := true, apart := false }
def StateAllSaid : Prop := stateAllRow.holds Tryz.pinned (OpenSpec.ofChange stateAllSpec)

/-- ITS FALSE NEIGHBOUR: 'it returns false'. Refute it at one input. -/
def stateAllWrong : ChangeSpec := { name := "stateAll", fn := fun _ => fun
  | [d] => { results := [.lit (.bool false)], args := [d] }
  | _ => none }
def StateAllWrongFalsely : Prop := stateAllRow.holds Tryz.pinned (OpenSpec.ofChange stateAllWrong)

/-- 'shortcutlaw20.StateOnce': WHATEVER THE INPUT: true; the input reads as it did. -/
def stateOnceSpec : ChangeSpec := { name := "stateOnce", fn := fun _ => fun
  | [d] => { results := [.lit (.bool true)], args := [d] }
  | _ => none }
def stateOnceRow : OpenClaim := { program := "ytamimdlaclglkaagreat", sum := "a53a4e92f8e11f13976d4c5b11fb5acf68340c1d4619943252d7c712e8eacaf7", func := "shortcut/shortcutlaw20.StateOnce", spec := "stateOnce", inPlace := ["internal/bytealg.abigen_runtime_cmpstring", "slices.overlaps[shortcut/api.Link]", "slices.overlaps[shortcut/api.Done]", "slices.overlaps[shortcut/api.Session]"], unfollowed := true, recurses := true, apart := false }
def StateOnceSaid : Prop := stateOnceRow.holds Tryz.pinned (OpenSpec.ofChange stateOnceSpec)

/-- ITS FALSE NEIGHBOUR: 'it returns false'. Refute it at one input. -/
def stateOnceWrong : ChangeSpec := { name := "stateOnce", fn := fun _ => fun
  | [d] => { results := [.lit (.bool false)], args := [d] }
  | _ => none }
def StateOnceWrongFalsely : Prop := stateOnceRow.holds Tryz.pinned (OpenSpec.ofChange stateOnceWrong)

/-- 'shortcutlaw20.StateBytes': WHATEVER THE INPUT: true; the input reads as it did. -/
def stateBytesSpec : ChangeSpec := { name := "stateBytes", fn := fun _ => fun
  | [d1, d2] => { results := [.lit (.bool true)], args := [d1, d2] }
  | _ => none }
def stateBytesRow : OpenClaim := { program := "ytamimdlaclglkaagreat", sum := "a53a4e92f8e11f13976d4c5b11fb5acf68340c1d4619943252d7c712e8eacaf7", func := "shortcut/shortcutlaw20.StateBytes", spec := "stateBytes", inPlace := ["internal/bytealg.abigen_runtime_cmpstring", "slices.overlaps[shortcut/api.Link]", "slices.overlaps[shortcut/api.Done]", "slices.overlaps[shortcut/api.Session]"], unfollowed := true, recurses := true, apart := false }
def StateBytesSaid : Prop := stateBytesRow.holds Tryz.pinned (OpenSpec.ofChange stateBytesSpec)

/-- ITS FALSE NEIGHBOUR: 'it returns false'. Refute it at one input. -/
def stateBytesWrong : ChangeSpec := { name := "stateBytes", fn := fun _ => fun
  | [d1, d2] => { results := [.lit (.bool false)], args := [d1, d2] }
  | _ => none }
def StateBytesWrongFalsely : Prop := stateBytesRow.holds Tryz.pinned (OpenSpec.ofChange stateBytesWrong)

/-- 'shortcutlaw20.StateBack': WHATEVER THE INPUT: true; the input reads as it did. -/
def stateBackSpec : ChangeSpec := { name := "stateBack", fn := fun _ => fun
  | [d1, d2, d3] => { results := [.lit (.bool true)], args := [d1, d2, d3] }
  | _ => none }
def stateBackRow : OpenClaim := { program := "ytamimdlaclglkaagreat", sum := "a53a4e92f8e11f13976d4c5b11fb5acf68340c1d4619943252d7c712e8eacaf7", func := "shortcut/shortcutlaw20.StateBack", spec := "stateBack", inPlace := ["internal/bytealg.abigen_runtime_cmpstring", "slices.overlaps[shortcut/api.Link]", "slices.overlaps[shortcut/api.Done]", "slices.overlaps[shortcut/api.Session]"], unfollowed := true, recurses := true, apart := false }
def StateBackSaid : Prop := stateBackRow.holds Tryz.pinned (OpenSpec.ofChange stateBackSpec)

/-- ITS FALSE NEIGHBOUR: 'it returns false'. Refute it at one input. -/
def stateBackWrong : ChangeSpec := { name := "stateBack", fn := fun _ => fun
  | [d1, d2, d3] => { results := [.lit (.bool false)], args := [d1, d2, d3] }
  | _ => none }
def StateBackWrongFalsely : Prop := stateBackRow.holds Tryz.pinned (OpenSpec.ofChange stateBackWrong)

/-- 'shortcutlaw20.StateKeeps': WHATEVER THE INPUT: true; the input reads as it did. -/
def stateKeepsSpec : ChangeSpec := { name := "stateKeeps", fn := fun _ => fun
  | [d1, d2] => { results := [.lit (.bool true)], args := [d1, d2] }
  | _ => none }
def stateKeepsRow : OpenClaim := { program := "ytamimdlaclglkaagreat", sum := "a53a4e92f8e11f13976d4c5b11fb5acf68340c1d4619943252d7c712e8eacaf7", func := "shortcut/shortcutlaw20.StateKeeps", spec := "stateKeeps", inPlace := ["internal/bytealg.abigen_runtime_cmpstring", "slices.overlaps[shortcut/api.Link]", "slices.overlaps[shortcut/api.Done]", "slices.overlaps[shortcut/api.Session]"], unfollowed := true, recurses := true, apart := false }
def StateKeepsSaid : Prop := stateKeepsRow.holds Tryz.pinned (OpenSpec.ofChange stateKeepsSpec)

/-- ITS FALSE NEIGHBOUR: 'it returns false'. Refute it at one input. -/
def stateKeepsWrong : ChangeSpec := { name := "stateKeeps", fn := fun _ => fun
  | [d1, d2] => { results := [.lit (.bool false)], args := [d1, d2] }
  | _ => none }
def StateKeepsWrongFalsely : Prop := stateKeepsRow.holds Tryz.pinned (OpenSpec.ofChange stateKeepsWrong)

/- THE SECOND FORM. 'bulk': how many values and letters a reading holds, each counted each time it is reached (what is shared counts as often as it is met; a slice's spare places count too). A statement '..UptoSaid' is the law's where the arguments, and the package variables that the reading takes, are together of bulk at most 1048576: NARROWER than '..Said'. Prove '..Said' where nothing that the law and all that it calls make is longer than what came in: it says more and counts as full. Else prove '..UptoSaid'. A law counts once. -/
mutual
def uptoBulk {H : Type} : DataW H → Nat
  | .lit (.string bytes) => bytes.length + 1
  | .lit _ => 1
  | .nil => 1
  | .ptr d => uptoBulk d + 1
  | .slice elems spare => uptoBulkAll elems + uptoBulkAll spare + 1
  | .agg parts => uptoBulkAll parts + 1
  | .iface _ d => uptoBulk d + 1
  | .map entries => uptoBulkEntries entries + 1
  | .held _ => 1
def uptoBulkAll {H : Type} : List (DataW H) → Nat
  | [] => 0
  | d :: r => uptoBulk d + uptoBulkAll r
def uptoBulkEntries {H : Type} : List (Lit × DataW H) → Nat
  | [] => 0
  | x :: r => uptoBulkEntry x + uptoBulkEntries r
def uptoBulkEntry {H : Type} : Lit × DataW H → Nat
  | (.string bytes, d) => bytes.length + uptoBulk d + 1
  | (_, d) => uptoBulk d + 1
 end
def uptoSmall : (H : Type) → List (DataW H) → Bool := fun _ ds => decide (uptoBulkAll ds ≤ 1048576)
def OpenSpec.upto (s : _root_.Go.ChangeSpec) : _root_.Go.OpenSpec := { _root_.Go.OpenSpec.ofChange s with cond := some uptoSmall }

/-- 'shortcutlaw20.StateAll', WHERE WHAT IT READS IS OF BULK AT MOST 1048576: true; the input reads as it did. -/
def stateAllUptoRow : OpenClaim := { program := "ytamimdlaclglkaagreat", sum := "a53a4e92f8e11f13976d4c5b11fb5acf68340c1d4619943252d7c712e8eacaf7", func := "shortcut/shortcutlaw20.StateAll", spec := "stateAll", inPlace := ["internal/bytealg.abigen_runtime_cmpstring", "slices.overlaps[shortcut/api.Link]", "slices.overlaps[shortcut/api.Done]", "slices.overlaps[shortcut/api.Session]"], unfollowed := true, recurses := true, apart := false, narrowed := true }
def StateAllUptoSaid : Prop := stateAllUptoRow.holds Tryz.pinned (OpenSpec.upto stateAllSpec)

/-- 'shortcutlaw20.StateOnce', WHERE WHAT IT READS IS OF BULK AT MOST 1048576: true; the input reads as it did. -/
def stateOnceUptoRow : OpenClaim := { program := "ytamimdlaclglkaagreat", sum := "a53a4e92f8e11f13976d4c5b11fb5acf68340c1d4619943252d7c712e8eacaf7", func := "shortcut/shortcutlaw20.StateOnce", spec := "stateOnce", inPlace := ["internal/bytealg.abigen_runtime_cmpstring", "slices.overlaps[shortcut/api.Link]", "slices.overlaps[shortcut/api.Done]", "slices.overlaps[shortcut/api.Session]"], unfollowed := true, recurses := true, apart := false, narrowed := true }
def StateOnceUptoSaid : Prop := stateOnceUptoRow.holds Tryz.pinned (OpenSpec.upto stateOnceSpec)

/-- 'shortcutlaw20.StateBytes', WHERE WHAT IT READS IS OF BULK AT MOST 1048576: true; the input reads as it did. -/
def stateBytesUptoRow : OpenClaim := { program := "ytamimdlaclglkaagreat", sum := "a53a4e92f8e11f13976d4c5b11fb5acf68340c1d4619943252d7c712e8eacaf7", func := "shortcut/shortcutlaw20.StateBytes", spec := "stateBytes", inPlace := ["internal/bytealg.abigen_runtime_cmpstring", "slices.overlaps[shortcut/api.Link]", "slices.overlaps[shortcut/api.Done]", "slices.overlaps[shortcut/api.Session]"], unfollowed := true, recurses := true, apart := false, narrowed := true }
def StateBytesUptoSaid : Prop := stateBytesUptoRow.holds Tryz.pinned (OpenSpec.upto stateBytesSpec)

/-- 'shortcutlaw20.StateBack', WHERE WHAT IT READS IS OF BULK AT MOST 1048576: true; the input reads as it did. -/
def stateBackUptoRow : OpenClaim := { program := "ytamimdlaclglkaagreat", sum := "a53a4e92f8e11f13976d4c5b11fb5acf68340c1d4619943252d7c712e8eacaf7", func := "shortcut/shortcutlaw20.StateBack", spec := "stateBack", inPlace := ["internal/bytealg.abigen_runtime_cmpstring", "slices.overlaps[shortcut/api.Link]", "slices.overlaps[shortcut/api.Done]", "slices.overlaps[shortcut/api.Session]"], unfollowed := true, recurses := true, apart := false, narrowed := true }
def StateBackUptoSaid : Prop := stateBackUptoRow.holds Tryz.pinned (OpenSpec.upto stateBackSpec)

/-- 'shortcutlaw20.StateKeeps', WHERE WHAT IT READS IS OF BULK AT MOST 1048576: true; the input reads as it did. -/
def stateKeepsUptoRow : OpenClaim := { program := "ytamimdlaclglkaagreat", sum := "a53a4e92f8e11f13976d4c5b11fb5acf68340c1d4619943252d7c712e8eacaf7", func := "shortcut/shortcutlaw20.StateKeeps", spec := "stateKeeps", inPlace := ["internal/bytealg.abigen_runtime_cmpstring", "slices.overlaps[shortcut/api.Link]", "slices.overlaps[shortcut/api.Done]", "slices.overlaps[shortcut/api.Session]"], unfollowed := true, recurses := true, apart := false, narrowed := true }
def StateKeepsUptoSaid : Prop := stateKeepsUptoRow.holds Tryz.pinned (OpenSpec.upto stateKeepsSpec)

end Rows
end Go.Proofs.YtamimdlaclglkaaGreat
