/-
  No cell of these rows narrows 'for every input' (looked for: loops, veiled, ifaces, maps, wideKeys, modest, calm, conditions, laid).
  DERIVED. THE GIVEN ROWS OF THIS SEAT. 7 by the template 'for every input the law returns true; each argument reads behind the call as it read before'; 0 by the template 'total and deterministic' (their statements: YtboncnlcomeahaaTotals.lean).
  GIVEN WITH THE SEED: the statements are not yours to turn. If you find one false, say at which input.
  Laid BY PROGRAM, IN A SANDBOX (cutbox-rows.mjs): the forced cells as the released guide's own fill.sh prints them over the translation 2932d0fbe2a1190d… (all of the seat's roots in one cut). By AI agents, Wed Nov 11 2026. No macro, syntax, notation, axiom, sorry.
-/
import Derived.Test.YtboncnlcomeahaaChecked
import GoSem.Claim
import GoSem.ClaimJoined
import GoSem.ClaimMapViews
import Derived.JoinedTies
import Derived.KernelRfl
namespace Go.Proofs.Ytboncnlcomeahaa
/- THE CELL 'sum', in the pinned program and in every row, IS THE sha256 OF THE DUMP (.gsa) THAT YtboncnlcomeahaaProg.lean LOADS. Nothing in Lean hashes anything: it is a label: what it is worth is what the hold of that sum in a sandbox is worth. -/
noncomputable def Try.pinned : Pinned := { name := "ytboncnlcomeahaa", sum := "2932d0fbe2a1190d46f14188d9b35d627c3e3a81c72bb5a6158cd4a4f6e97812", checked := Try.checked }
namespace Rows
def none {H : Type} : Left H := { results := [], args := [] }

/-- 'shortcutlaw23.StoreFolds': WHATEVER THE INPUT: true; the input reads as it did. -/
def storeFoldsSpec : ChangeSpec := { name := "storeFolds", fn := fun _ => fun
  | [d] => { results := [.lit (.bool true)], args := [d] }
  | _ => none }
def storeFoldsRow : OpenClaim := { program := "ytboncnlcomeahaa", sum := "2932d0fbe2a1190d46f14188d9b35d627c3e3a81c72bb5a6158cd4a4f6e97812", func := "shortcut/shortcutlaw23.StoreFolds", spec := "storeFolds", unfollowed := true, recurses := true, apart := false }
def StoreFoldsSaid : Prop := storeFoldsRow.holds Try.pinned (OpenSpec.ofChange storeFoldsSpec)

/-- ITS FALSE NEIGHBOUR: 'it returns false'. Refute it at one input. -/
def storeFoldsWrong : ChangeSpec := { name := "storeFolds", fn := fun _ => fun
  | [d] => { results := [.lit (.bool false)], args := [d] }
  | _ => none }
def StoreFoldsWrongFalsely : Prop := storeFoldsRow.holds Try.pinned (OpenSpec.ofChange storeFoldsWrong)

/-- 'shortcutlaw23.StoreRecords': WHATEVER THE INPUT: true; the input reads as it did. -/
def storeRecordsSpec : ChangeSpec := { name := "storeRecords", fn := fun _ => fun
  | [d] => { results := [.lit (.bool true)], args := [d] }
  | _ => none }
def storeRecordsRow : OpenClaim := { program := "ytboncnlcomeahaa", sum := "2932d0fbe2a1190d46f14188d9b35d627c3e3a81c72bb5a6158cd4a4f6e97812", func := "shortcut/shortcutlaw23.StoreRecords", spec := "storeRecords", unfollowed := true, recurses := true, apart := false }
def StoreRecordsSaid : Prop := storeRecordsRow.holds Try.pinned (OpenSpec.ofChange storeRecordsSpec)

/-- ITS FALSE NEIGHBOUR: 'it returns false'. Refute it at one input. -/
def storeRecordsWrong : ChangeSpec := { name := "storeRecords", fn := fun _ => fun
  | [d] => { results := [.lit (.bool false)], args := [d] }
  | _ => none }
def StoreRecordsWrongFalsely : Prop := storeRecordsRow.holds Try.pinned (OpenSpec.ofChange storeRecordsWrong)

/-- 'shortcutlaw23.StoreTails': WHATEVER THE INPUT: true; the input reads as it did. -/
def storeTailsSpec : ChangeSpec := { name := "storeTails", fn := fun _ => fun
  | [d1, d2, d3] => { results := [.lit (.bool true)], args := [d1, d2, d3] }
  | _ => none }
def storeTailsRow : OpenClaim := { program := "ytboncnlcomeahaa", sum := "2932d0fbe2a1190d46f14188d9b35d627c3e3a81c72bb5a6158cd4a4f6e97812", func := "shortcut/shortcutlaw23.StoreTails", spec := "storeTails", unfollowed := true, recurses := true, apart := false }
def StoreTailsSaid : Prop := storeTailsRow.holds Try.pinned (OpenSpec.ofChange storeTailsSpec)

/-- ITS FALSE NEIGHBOUR: 'it returns false'. Refute it at one input. -/
def storeTailsWrong : ChangeSpec := { name := "storeTails", fn := fun _ => fun
  | [d1, d2, d3] => { results := [.lit (.bool false)], args := [d1, d2, d3] }
  | _ => none }
def StoreTailsWrongFalsely : Prop := storeTailsRow.holds Try.pinned (OpenSpec.ofChange storeTailsWrong)

/-- 'shortcutlaw23.StoreForms': WHATEVER THE INPUT: true; the input reads as it did. -/
def storeFormsSpec : ChangeSpec := { name := "storeForms", fn := fun _ => fun
  | [] => { results := [.lit (.bool true)], args := [] }
  | _ => none }
def storeFormsRow : OpenClaim := { program := "ytboncnlcomeahaa", sum := "2932d0fbe2a1190d46f14188d9b35d627c3e3a81c72bb5a6158cd4a4f6e97812", func := "shortcut/shortcutlaw23.StoreForms", spec := "storeForms", unfollowed := true, recurses := true, apart := false }
def StoreFormsSaid : Prop := storeFormsRow.holds Try.pinned (OpenSpec.ofChange storeFormsSpec)

/-- ITS FALSE NEIGHBOUR: 'it returns false'. Refute it at one input. -/
def storeFormsWrong : ChangeSpec := { name := "storeForms", fn := fun _ => fun
  | [] => { results := [.lit (.bool false)], args := [] }
  | _ => none }
def StoreFormsWrongFalsely : Prop := storeFormsRow.holds Try.pinned (OpenSpec.ofChange storeFormsWrong)

/-- 'shortcutlaw23.StoreAll': WHATEVER THE INPUT: true; the input reads as it did. -/
def storeAllSpec : ChangeSpec := { name := "storeAll", fn := fun _ => fun
  | [d] => { results := [.lit (.bool true)], args := [d] }
  | _ => none }
def storeAllRow : OpenClaim := { program := "ytboncnlcomeahaa", sum := "2932d0fbe2a1190d46f14188d9b35d627c3e3a81c72bb5a6158cd4a4f6e97812", func := "shortcut/shortcutlaw23.StoreAll", spec := "storeAll", unfollowed := true, recurses := true, apart := false }
def StoreAllSaid : Prop := storeAllRow.holds Try.pinned (OpenSpec.ofChange storeAllSpec)

/-- ITS FALSE NEIGHBOUR: 'it returns false'. Refute it at one input. -/
def storeAllWrong : ChangeSpec := { name := "storeAll", fn := fun _ => fun
  | [d] => { results := [.lit (.bool false)], args := [d] }
  | _ => none }
def StoreAllWrongFalsely : Prop := storeAllRow.holds Try.pinned (OpenSpec.ofChange storeAllWrong)

/-- 'shortcutlaw23.StoreLasts': WHATEVER THE INPUT: true; the input reads as it did. -/
def storeLastsSpec : ChangeSpec := { name := "storeLasts", fn := fun _ => fun
  | [d1, d2, d3] => { results := [.lit (.bool true)], args := [d1, d2, d3] }
  | _ => none }
def storeLastsRow : OpenClaim := { program := "ytboncnlcomeahaa", sum := "2932d0fbe2a1190d46f14188d9b35d627c3e3a81c72bb5a6158cd4a4f6e97812", func := "shortcut/shortcutlaw23.StoreLasts", spec := "storeLasts", unfollowed := true, recurses := true, apart := false }
def StoreLastsSaid : Prop := storeLastsRow.holds Try.pinned (OpenSpec.ofChange storeLastsSpec)

/-- ITS FALSE NEIGHBOUR: 'it returns false'. Refute it at one input. -/
def storeLastsWrong : ChangeSpec := { name := "storeLasts", fn := fun _ => fun
  | [d1, d2, d3] => { results := [.lit (.bool false)], args := [d1, d2, d3] }
  | _ => none }
def StoreLastsWrongFalsely : Prop := storeLastsRow.holds Try.pinned (OpenSpec.ofChange storeLastsWrong)

/-- 'shortcutlaw23.StoreAgain': WHATEVER THE INPUT: true; the input reads as it did. -/
def storeAgainSpec : ChangeSpec := { name := "storeAgain", fn := fun _ => fun
  | [d1, d2] => { results := [.lit (.bool true)], args := [d1, d2] }
  | _ => none }
def storeAgainRow : OpenClaim := { program := "ytboncnlcomeahaa", sum := "2932d0fbe2a1190d46f14188d9b35d627c3e3a81c72bb5a6158cd4a4f6e97812", func := "shortcut/shortcutlaw23.StoreAgain", spec := "storeAgain", unfollowed := true, recurses := true, apart := false }
def StoreAgainSaid : Prop := storeAgainRow.holds Try.pinned (OpenSpec.ofChange storeAgainSpec)

/-- ITS FALSE NEIGHBOUR: 'it returns false'. Refute it at one input. -/
def storeAgainWrong : ChangeSpec := { name := "storeAgain", fn := fun _ => fun
  | [d1, d2] => { results := [.lit (.bool false)], args := [d1, d2] }
  | _ => none }
def StoreAgainWrongFalsely : Prop := storeAgainRow.holds Try.pinned (OpenSpec.ofChange storeAgainWrong)

/- THE SECOND FORM. 'bulk': how many values and letters a reading holds, each counted each time it is reached (what is shared counts as often as it is met; a slice's spare places count too). A statement '..UptoSaid' is the law's where the arguments, and the package variables that the reading takes, are together of bulk at most 1048576: NARROWER than '..Said'. Prove '..Said' where nothing that the law and all that it calls make is longer than what came in: it says more and counts as full. Else prove '..UptoSaid'. A law counts once. -/
mutual
def uptoBulk {H : Type} : DataW H → Nat
  | .lit (.string bytes) => bytes.length + 1
  | .lit _ => 1
  | .nil => 1
  | .ptr d => uptoBulk d + 1
  | .slice elems spare => uptoBulkAll elems + uptoBulkAll spare + 1
  | .agg parts => uptoBulkAll parts + 1
  | .iface _ d => uptoBulk d + 1
  | .map entries => uptoBulkEntries entries + 1
  | .held _ => 1
def uptoBulkAll {H : Type} : List (DataW H) → Nat
  | [] => 0
  | d :: r => uptoBulk d + uptoBulkAll r
def uptoBulkEntries {H : Type} : List (Lit × DataW H) → Nat
  | [] => 0
  | x :: r => uptoBulkEntry x + uptoBulkEntries r
def uptoBulkEntry {H : Type} : Lit × DataW H → Nat
  | (.string bytes, d) => bytes.length + uptoBulk d + 1
  | (_, d) => uptoBulk d + 1
 end
def uptoSmall : (H : Type) → List (DataW H) → Bool := fun _ ds => decide (uptoBulkAll ds ≤ 1048576)
def OpenSpec.upto (s : _root_.Go.ChangeSpec) : _root_.Go.OpenSpec := { _root_.Go.OpenSpec.ofChange s with cond := some uptoSmall }

/-- 'shortcutlaw23.StoreFolds', WHERE WHAT IT READS IS OF BULK AT MOST 1048576: true; the input reads as it did. -/
def storeFoldsUptoRow : OpenClaim := { program := "ytboncnlcomeahaa", sum := "2932d0fbe2a1190d46f14188d9b35d627c3e3a81c72bb5a6158cd4a4f6e97812", func := "shortcut/shortcutlaw23.StoreFolds", spec := "storeFolds", unfollowed := true, recurses := true, apart := false, narrowed := true }
def StoreFoldsUptoSaid : Prop := storeFoldsUptoRow.holds Try.pinned (OpenSpec.upto storeFoldsSpec)

/-- 'shortcutlaw23.StoreRecords', WHERE WHAT IT READS IS OF BULK AT MOST 1048576: true; the input reads as it did. -/
def storeRecordsUptoRow : OpenClaim := { program := "ytboncnlcomeahaa", sum := "2932d0fbe2a1190d46f14188d9b35d627c3e3a81c72bb5a6158cd4a4f6e97812", func := "shortcut/shortcutlaw23.StoreRecords", spec := "storeRecords", unfollowed := true, recurses := true, apart := false, narrowed := true }
def StoreRecordsUptoSaid : Prop := storeRecordsUptoRow.holds Try.pinned (OpenSpec.upto storeRecordsSpec)

/-- 'shortcutlaw23.StoreTails', WHERE WHAT IT READS IS OF BULK AT MOST 1048576: true; the input reads as it did. -/
def storeTailsUptoRow : OpenClaim := { program := "ytboncnlcomeahaa", sum := "2932d0fbe2a1190d46f14188d9b35d627c3e3a81c72bb5a6158cd4a4f6e97812", func := "shortcut/shortcutlaw23.StoreTails", spec := "storeTails", unfollowed := true, recurses := true, apart := false, narrowed := true }
def StoreTailsUptoSaid : Prop := storeTailsUptoRow.holds Try.pinned (OpenSpec.upto storeTailsSpec)

/-- 'shortcutlaw23.StoreForms', WHERE WHAT IT READS IS OF BULK AT MOST 1048576: true; the input reads as it did. -/
def storeFormsUptoRow : OpenClaim := { program := "ytboncnlcomeahaa", sum := "2932d0fbe2a1190d46f14188d9b35d627c3e3a81c72bb5a6158cd4a4f6e97812", func := "shortcut/shortcutlaw23.StoreForms", spec := "storeForms", unfollowed := true, recurses := true, apart := false, narrowed := true }
def StoreFormsUptoSaid : Prop := storeFormsUptoRow.holds Try.pinned (OpenSpec.upto storeFormsSpec)

/-- 'shortcutlaw23.StoreAll', WHERE WHAT IT READS IS OF BULK AT MOST 1048576: true; the input reads as it did. -/
def storeAllUptoRow : OpenClaim := { program := "ytboncnlcomeahaa", sum := "2932d0fbe2a1190d46f14188d9b35d627c3e3a81c72bb5a6158cd4a4f6e97812", func := "shortcut/shortcutlaw23.StoreAll", spec := "storeAll", unfollowed := true, recurses := true, apart := false, narrowed := true }
def StoreAllUptoSaid : Prop := storeAllUptoRow.holds Try.pinned (OpenSpec.upto storeAllSpec)

/-- 'shortcutlaw23.StoreLasts', WHERE WHAT IT READS IS OF BULK AT MOST 1048576: true; the input reads as it did. -/
def storeLastsUptoRow : OpenClaim := { program := "ytboncnlcomeahaa", sum := "2932d0fbe2a1190d46f14188d9b35d627c3e3a81c72bb5a6158cd4a4f6e97812", func := "shortcut/shortcutlaw23.StoreLasts", spec := "storeLasts", unfollowed := true, recurses := true, apart := false, narrowed := true }
def StoreLastsUptoSaid : Prop := storeLastsUptoRow.holds Try.pinned (OpenSpec.upto storeLastsSpec)

/-- 'shortcutlaw23.StoreAgain', WHERE WHAT IT READS IS OF BULK AT MOST 1048576: true; the input reads as it did. -/
def storeAgainUptoRow : OpenClaim := { program := "ytboncnlcomeahaa", sum := "2932d0fbe2a1190d46f14188d9b35d627c3e3a81c72bb5a6158cd4a4f6e97812", func := "shortcut/shortcutlaw23.StoreAgain", spec := "storeAgain", unfollowed := true, recurses := true, apart := false, narrowed := true }
def StoreAgainUptoSaid : Prop := storeAgainUptoRow.holds Try.pinned (OpenSpec.upto storeAgainSpec)

end Rows
end Go.Proofs.Ytboncnlcomeahaa
