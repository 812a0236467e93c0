/- What a law's row hands over, in the walks' words: bytes that came in, numbers in their bounds. -/
import Derived.Test.YtccpbchcfgggmaaBase
import Derived.Test.YtccpbchcfgggmaaRows
import Derived.ProofKit
import Derived.OpenShut
import Derived.ShutString
import Derived.ChangeOld
import Derived.Below
namespace Go.Proofs.Ytccpbchcfgggmaa
set_option linter.unusedVariables false
set_option linter.unusedSimpArgs false
set_option linter.unnecessarySimpa false
set_option maxRecDepth 100000
open Go.ChangeShapes Go.WideShapes Go.ChangeAt Go.RowKit
theorem own : ownKnob Try.prog.godebug = none := by kernel_rfl
theorem laidOut : laidOutB Try.prog = true := by kernel_rfl
theorem bs_of_ints {W : World} {x : Addr} {len cap : Nat} {zs : List Int} (hl : len ≤ cap) (hm : cap ≤ maxLen) (hz : zs.length = cap)
    (hcell : ∀ i, i < zs.length → W.cell? (x.add i) = some (.int .u8 (zs.getD i 0))) (hw : ∀ n ∈ zs, (Lit.int .u8 n).wf = true) : ∃ b, Bs W (.slice (some x) len cap) b := by
  have hb : ∀ n ∈ zs, 0 ≤ n ∧ n ≤ 255 := by
    intro n hn
    have := hw n hn
    simp [Lit.wf, IntKind.min, IntKind.max, IntKind.bits, IntKind.signed] at this
    exact this
  refine ⟨(zs.take len).map fun n => UInt8.ofNat n.toNat, Bs.mk' (by simp; omega) hl hm ⟨by simp; omega, fun hn => ⟨x, rfl, ?_, fun j u hu => ?_⟩⟩⟩
  · have h0 := hcell 0 (by omega)
    have := World.block_lt_of_cell? W _ h0
    rwa [block_of_add] at this
  · rw [bv, List.map_map, List.getElem?_map, Option.map_eq_some_iff] at hu
    obtain ⟨n, hn, rfl⟩ := hu
    rw [List.getElem?_take] at hn
    split at hn
    · have hj : j < zs.length := (List.getElem?_eq_some_iff.1 hn).1
      rw [hcell j hj, List.getD_eq_getElem?_getD, hn]
      have := hb n (List.mem_of_getElem? hn)
      simp only [Function.comp_apply, Option.getD_some, UInt8.toNat_ofNat']
      congr 2
      omega
    · cases hn
theorem bs_none {W : World} : Bs W (.slice none 0 0) [] := Bs.nil W
end Go.Proofs.Ytccpbchcfgggmaa
