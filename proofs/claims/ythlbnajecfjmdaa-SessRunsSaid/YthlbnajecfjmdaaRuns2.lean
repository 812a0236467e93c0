/- The arrays of SessRuns. -/
import Derived.Test.YthlbnajecfjmdaaPair
import Derived.Test.YthlbnajecfjmdaaKeepX
namespace Go.Proofs.Ythlbnajecfjmdaa
set_option linter.unusedVariables false
set_option linter.unusedSimpArgs false
set_option linter.unnecessarySimpa false
set_option maxRecDepth 100000
open Go.RowKit
def hcells (hi : Int → Int) : Array Value := #[.int .u64 (hi 0), .int .u64 (hi 1), .int .u64 (hi 2), .int .u64 (hi 3)]
theorem four {w : Int} (h0 : 0 ≤ w) (h4 : w < 4) : w = 0 ∨ w = 1 ∨ w = 2 ∨ w = 3 := by omega
theorem hcells_at (hi : Int → Int) {w : Int} (h0 : 0 ≤ w) (h4 : w < 4) : (hcells hi)[w.toNat]? = some (.int .u64 (hi w)) := by
  rcases four h0 h4 with rfl | rfl | rfl | rfl <;> rfl
theorem hcells_set (hi : Int → Int) {w : Int} (h0 : 0 ≤ w) (h4 : w < 4) (v : Int) : (hcells hi).setIfInBounds w.toNat (.int .u64 v) = hcells (upd1 hi w v) := by
  rcases four h0 h4 with rfl | rfl | rfl | rfl <;> simp [hcells, upd1]
structure DnAt (c : Array Value) (dn : Int → Int → Bool) : Prop where
  size : c.size = 256
  at_ : ∀ w q : Int, 0 ≤ w → w < 4 → 0 ≤ q → q < 64 → c[w.toNat * 64 + q.toNat]? = some (.bool (dn w q))
theorem DnAt.set {c : Array Value} {dn : Int → Int → Bool} (h : DnAt c dn) {w q : Int} (h0 : 0 ≤ w) (h4 : w < 4) (q0 : 0 ≤ q) (q4 : q < 64) : DnAt (c.setIfInBounds (w.toNat * 64 + q.toNat) (.bool true)) (upd2 dn w q) := by
  refine ⟨by simp [h.size], fun w' q' a0 a4 b0 b4 => ?_⟩
  rw [Array.getElem?_setIfInBounds]
  unfold upd2
  by_cases he : w' = w ∧ q' = q
  · obtain ⟨rfl, rfl⟩ := he
    have := h.size
    rw [if_pos rfl, if_pos (by omega), if_pos ⟨rfl, rfl⟩]
  · rw [if_neg he, if_neg (by omega)]
    exact h.at_ w' q' a0 a4 b0 b4
theorem zeros_all : ((Try.zeroCells42).size == 256 && (List.range 256).all fun i => match (Try.zeroCells42)[i]? with | some (.bool false) => true | _ => false) = true := by kernel_rfl
theorem DnAt.zero : DnAt Try.zeroCells42 (fun _ _ => false) := by
  have h := zeros_all
  simp only [Bool.and_eq_true, beq_iff_eq, List.all_eq_true, List.mem_range] at h
  refine ⟨h.1, fun w q a0 a4 b0 b4 => ?_⟩
  have h1 := h.2 (w.toNat * 64 + q.toNat) (by omega)
  split at h1
  · rename_i he
    exact he
  · cases h1
end Go.Proofs.Ythlbnajecfjmdaa
