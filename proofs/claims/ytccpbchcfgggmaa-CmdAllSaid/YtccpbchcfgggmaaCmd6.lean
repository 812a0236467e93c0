/- law17's begun and may. -/
import Derived.Test.YtccpbchcfgggmaaCmd5
namespace Go.Proofs.Ytccpbchcfgggmaa
set_option linter.unusedVariables false
set_option linter.unusedSimpArgs false
set_option linter.unnecessarySimpa false
set_option maxRecDepth 100000
open Go.RowKit
def Cm.one : Cm := ⟨3, 0, 0, [97], [], 0⟩
theorem one_ok : Cm.one.ok := by constructor <;> simp [Cm.one]
theorem one_len : (cput Cm.one).length = 27 := by rfl
theorem zero_take : ctake [0] = (Cm.zero, 2) := by rfl
set_option maxHeartbeats 800000 in
theorem begun17_b (w : World) : Calls Try.prog 11 #[] w fun e w' => e = .returned (.bool true) ∧ Ext w w' := by
  have hp := cput_b Cm.one one_ok (by simp [Cm.one]) (by simp [Cm.one])
  have E1 := ctake_put Cm.one one_ok (by simp [Cm.one])
  have HP := hide hp
  clear hp
  go_enter Try.func11, Try.ntmps11
  go_wp2_with fail
  refine (HP.out w).mono ?_
  rintro e W1 ⟨m, A, c, hm, rfl, hb, hx1⟩
  have hml : m.length = 27 := by rw [hm.out]; exact one_len
  rw [hml] at hb ⊢
  have ht := ctake_b _ m W1 (by omega) hb
  rw [hm.out, E1] at ht
  have HT := hide ht
  clear ht
  go_wp2_with fail
  refine HT.out.mono ?_
  rintro e W2 ⟨rfl, hx2⟩
  obtain ⟨g, hg⟩ : ∃ g, W2.heap.size = g := ⟨_, rfl⟩
  have hB := Blk.new W2 24 (ccells Cm.one)
  rw [hg] at hB
  go_wp2_with fail
  have hz := Bs.lit (w := W2.alloc (.cells (ccells Cm.one) 24)) 5 [0] (g + 1) (by simp [hg]) (by simp [maxLen]) (0, 0)
  have ht2 := ctake_b _ [0] _ (by simp) hz
  rw [zero_take] at ht2
  refine ht2.mono ?_
  rintro e W3 ⟨rfl, hx3⟩
  have hB3 := (hB.alloc (.cells (bv [0]).toArray 5)).ext hx3
  have hB4 := hB3.alloc (.cells (ccells Cm.zero) 24)
  have x3 := (hB4.cell 3).trans rfl
  go_wp2
  go_ret
  exact ⟨rfl, (((((hx1.trans' hx2).alloc' _).alloc' _).trans' hx3).alloc' _)⟩
def Cm.may (c : Cm) : Bool := decide (0 ≤ c.kind ∧ c.kind < 256 ∧ 0 ≤ c.client ∧ c.client < 256 ∧ c.name.length ≤ 100 ∧ c.url.length ≤ 500)
end Go.Proofs.Ytccpbchcfgggmaa
