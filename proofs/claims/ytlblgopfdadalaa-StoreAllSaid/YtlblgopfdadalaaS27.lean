/- A part of the proof of 'StoreAll'. -/
import Derived.Test.YtlblgopfdadalaaS21
import Derived.Test.YtlblgopfdadalaaS5
import Derived.Deep.QuietTactic
import Derived.BigQuiet
namespace Go.Proofs.Ytlblgopfdadalaa
set_option linter.unusedVariables false
set_option linter.unusedSimpArgs false
set_option linter.unnecessarySimpa false
set_option maxRecDepth 100000
open Go.RowKit
theorem RetDisk.at_ {w w' : World} {e : Ending} {g : Nat} {v : Value} {r : Dk × Int} {d : Dk} {k : Int} (h : RetDisk w w' e g v r) (E : r = (d, k)) : e = .returned (.int .i64 k) ∧ DiskTo w w' g v d := by
  subst E; exact h
end Go.Proofs.Ytlblgopfdadalaa
namespace Go.Proofs.Ytlblgopfdadalaa
set_option linter.unusedVariables false
set_option linter.unusedSimpArgs false
set_option linter.unnecessarySimpa false
set_option maxRecDepth 100000
open Go.RowKit
end Go.Proofs.Ytlblgopfdadalaa
