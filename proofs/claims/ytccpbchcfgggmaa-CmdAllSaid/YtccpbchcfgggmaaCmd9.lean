/- CmdForms. -/
import Derived.Test.YtccpbchcfgggmaaCmd8
namespace Go.Proofs.Ytccpbchcfgggmaa
set_option linter.unusedVariables false
set_option linter.unusedSimpArgs false
set_option linter.unnecessarySimpa false
set_option maxRecDepth 100000
open Go.RowKit
def Cm.two : Cm := ⟨2, 2, 3, [110], [117], 4⟩
theorem two_ok : Cm.two.ok := by constructor <;> simp [Cm.two]
def want17 : Bytes := [2, 2, 0, 0, 0, 0, 0, 0, 0, 3, 0, 0, 0, 1, 110, 0, 0, 0, 1, 117, 0, 0, 0, 0, 0, 0, 0, 4]
theorem two_put : cput Cm.two = want17 := by rfl
theorem f_01 : ctake [0, 1] = (Cm.zero, 2) := by rfl
theorem f_1 : ctake [1] = (Cm.zero, 3) := by rfl
theorem lit_at (W : World) (l : Bytes) (hm : l.length ≤ maxLen) : Bs (W.alloc (.cells (bv l).toArray 5)) (.slice (some ⟨W.heap.size, 0, none⟩) l.length l.length) l := Bs.lit 5 l W.heap.size rfl hm (0, 0)
set_option maxHeartbeats 800000 in
theorem cmdForms_walk (w : World) : Calls Try.prog 6 #[] w fun e w' => e = .returned (.bool true) ∧ Ext w w' := by
  have HP := hide (cput_b Cm.two two_ok (by simp [Cm.two]) (by simp [Cm.two]))
  go_enter Try.func6, Try.ntmps6
  go_wp2_with fail
  refine (begun17_b _).mono ?_
  rintro e W1 ⟨rfl, hx1⟩
  go_wp2_with fail
  refine (ctake_b _ [] W1 (by simp) (Bs.nil _)).mono ?_
  rintro e W2 ⟨rfl, hx2⟩
  obtain ⟨g1, hg1⟩ : ∃ g, W2.heap.size = g := ⟨_, rfl⟩
  have hA := Blk.new W2 24 (ccells Cm.zero)
  rw [hg1] at hA
  go_wp2_with fail
  have ht := ctake_b _ [0, 1] _ (by simp) (Bs.lit (w := W2.alloc (.cells (ccells Cm.zero) 24)) 5 [0, 1] (g1 + 1) (by simp [hg1]) (by simp [maxLen]) (0, 0))
  rw [f_01] at ht
  refine ht.mono ?_
  rintro e W3 ⟨rfl, hx3⟩
  have hA3 := (hA.alloc (.cells (bv [0, 1]).toArray 5)).ext hx3
  obtain ⟨g3, hg3⟩ : ∃ g, W3.heap.size = g := ⟨_, rfl⟩
  go_wp2_with fail
  have ht := ctake_b _ [1] _ (by simp) (Bs.lit (w := W3.alloc (.cells (ccells Cm.zero) 24)) 5 [1] (g3 + 1) (by simp [hg3]) (by simp [maxLen]) (0, 0))
  rw [f_1] at ht
  refine ht.mono ?_
  rintro e W4 ⟨rfl, hx4⟩
  have hA4 := ((hA3.alloc (.cells (ccells Cm.zero) 24)).alloc (.cells (bv [1]).toArray 5)).ext hx4
  go_wp2_with fail
  refine (HP.out _).mono ?_
  rintro e W5 ⟨m, A, c, hm, rfl, hb, hx5⟩
  have hml : m = want17 := hm.out.trans two_put
  subst hml
  have hA5 := (hA4.alloc (.cells (ccells Cm.zero) 24)).ext hx5
  obtain ⟨Ac, cc, W6, hrun, hbs, hx6⟩ := conv_bytes W5 want17 (by decide)
  replace hrun : (convert 9 25 (.string ⟨#[2, 2, 0, 0, 0, 0, 0, 0, 0, 3, 0, 0, 0, 1, 110, 0, 0, 0, 1, 117, 0, 0, 0, 0, 0, 0, 0, 4]⟩)).run Try.prog W5 = .ok (.slice Ac 28 cc) W6 := hrun
  have hl : want17.length = 28 := rfl
  rw [hl] at hb ⊢
  have hA6 := hA5.ext hx6
  have hb6 := hb.ext hx6
  go_wp2_with fail
  have ht := ctake_b _ want17 W6 (by decide) hbs
  rw [← two_put, ctake_put Cm.two two_ok (by simp [Cm.two])] at ht
  refine Calls.mono (by simpa [two_put, hl] using ht) ?_
  rintro e W7 ⟨rfl, hx7⟩
  have hA7 := (hA6.ext hx7).alloc (.cells (ccells Cm.two) 24)
  have hB7 := Blk.new W7 24 (ccells Cm.two)
  have hb7 := (hb6.ext hx7).ext ((Ext.rfl' W7).alloc' (.cells (ccells Cm.two) 24))
  have hs := run_str (P := Try.prog) hb7 Try.underlying25 Try.underlying5 Try.underlying9
  have x0 := (hA7.cell 0).trans rfl
  have x1 := (hA7.cell 1).trans rfl
  have x2 := (hA7.cell 2).trans rfl
  have x3 := (hA7.cell 3).trans rfl
  have x4 := (hA7.cell 4).trans rfl
  have x5 := (hA7.cell 5).trans rfl
  go_wp2
  go_ret
  have y1 := ((hx1.trans' hx2).alloc' (.cells (ccells Cm.zero) 24)).alloc' (.cells (bv [0, 1]).toArray 5)
  have y2 := ((y1.trans' hx3).alloc' (.cells (ccells Cm.zero) 24)).alloc' (.cells (bv [1]).toArray 5)
  have y3 := (y2.trans' hx4).alloc' (.cells (ccells Cm.zero) 24)
  have y4 := ((y3.trans' hx5).trans' hx6).trans' hx7
  exact ⟨rfl, y4.alloc' _⟩
end Go.Proofs.Ytccpbchcfgggmaa
