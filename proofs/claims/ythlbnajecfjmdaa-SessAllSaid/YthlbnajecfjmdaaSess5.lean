/- law19's begun. -/
import Derived.Test.YthlbnajecfjmdaaSess4
namespace Go.Proofs.Ythlbnajecfjmdaa
set_option linter.unusedVariables false
set_option linter.unusedSimpArgs false
set_option linter.unnecessarySimpa false
set_option maxRecDepth 100000
open Go.RowKit
def St0 : St := ⟨0, 0, [], []⟩
theorem st0_rep (w : World) (X : Avoid) : stE.rep w X [.int .u64 0, .int .u64 0, .slice none 0 0, .slice none 0 0] St0 :=
  st_rep.2 ⟨.slice none 0 0, .slice none 0 0, rfl, ⟨by show (0 : Int) ≤ 0; omega, by show (0 : Int) ≤ _; omega⟩, ⟨by show (0 : Int) ≤ 0; omega, by show (0 : Int) ≤ _; omega⟩, Enc.Sl.nil _ _ _, Enc.Sl.nil _ _ _⟩
/-- a state's value, taken apart -/
theorem st_open {w : World} {X : Avoid} {cs : List Value} {s : St} (h : stE.rep w X cs s) : ∃ Al cl As cs', cs = [.int .u64 s.now, .int .u64 s.count, .slice Al s.links.length cl, .slice As s.sess.length cs'] ∧ U64 s.now ∧ U64 s.count ∧ Enc.Sl lnE w X (.slice Al s.links.length cl) s.links ∧ Enc.Sl seE w X (.slice As s.sess.length cs') s.sess := by
  obtain ⟨vl, vs, rfl, h1, h2, h3, h4⟩ := st_rep.1 h
  obtain ⟨Al, cl, rfl, -, -⟩ := h3.form
  obtain ⟨As, cs', rfl, -, -⟩ := h4.form
  exact ⟨Al, cl, As, cs', rfl, h1, h2, h3, h4⟩
def cmQ (k c q : Int) : Cm := ⟨k, c, q, [], [], 0⟩
theorem cmQ_wide {k c q : Int} (hk : I64 k) (hc : I64 c) (hq : U64 q) : (cmQ k c q).wide := by
  constructor <;> simp [cmQ, hk.1, hk.2, hc.1, hc.2, hq.1, hq.2]
theorem rises0 : RiseS ([] : List Se) := .nil
def StX : St := ⟨0, 0, [], [⟨0, 1, [⟨1, ⟨0, [120]⟩⟩]⟩]⟩
theorem keepX : keep St0 0 1 ⟨0, [120]⟩ = StX := by rfl
theorem askX0 : ask St0 0 1 = (⟨0, []⟩, false) := by rfl
theorem askX1 : ask StX 0 1 = (⟨0, [120]⟩, true) := by rfl
theorem askX2 : ask StX 0 0 = (⟨1, []⟩, true) := by rfl
theorem riseX : RiseS StX.sess := by simp [StX, RiseS]
set_option maxHeartbeats 1600000 in
theorem begun19_b (w : World) : Calls Try.prog 10 #[] w fun e w' => e = .returned (.bool true) ∧ Ext w w' := by
  have H1 := hide (fun W => sask_b St0 _ (cmQ 1 0 1) W (st0_rep W _) (cmQ_wide ⟨by omega, by omega⟩ ⟨by omega, by omega⟩ ⟨by omega, by omega⟩) rises0 (by simp [St0]))
  have H2 := hide (fun W => skeep_b St0 _ (cmQ 1 0 1) ⟨0, [120]⟩ W (st0_rep W _) (cmQ_wide ⟨by omega, by omega⟩ ⟨by omega, by omega⟩ ⟨by omega, by omega⟩) ⟨⟨by simp, by simp⟩, by simp [maxLen]⟩ rises0 (by simp [St0]) (by simp [St0]) (by simp [St0]))
  have H3 := hide (fun W cs h => sask_b StX cs (cmQ 1 0 1) W h (cmQ_wide ⟨by omega, by omega⟩ ⟨by omega, by omega⟩ ⟨by omega, by omega⟩) riseX (by simp [StX]))
  have H4 := hide (fun W cs h => sask_b StX cs (cmQ 1 0 0) W h (cmQ_wide ⟨by omega, by omega⟩ ⟨by omega, by omega⟩ ⟨by omega, by omega⟩) riseX (by simp [StX]))
  have hC := Blk.new w 28 (ccells (cmQ 1 0 1))
  have hx0 : Ext w (w.alloc (.cells (ccells (cmQ 1 0 1)) 28)) := (Ext.rfl' w).alloc' _
  go_enter Try.func10, Try.ntmps10
  go_wp2_with fail
  refine (H1.out _).mono ?_
  rintro e W1 ⟨rfl, hx1⟩
  rw [show ask St0 (cmQ 1 0 1).client (cmQ 1 0 1).seq = (⟨0, []⟩, false) from askX0]
  have hC1 := hC.ext hx1
  obtain ⟨g1, hg1⟩ : ∃ g, W1.heap.size = g := ⟨_, rfl⟩
  have hC1' := hC1.alloc (.cells (acells ⟨0, []⟩).toArray 31)
  have hx1' := (hx0.trans' hx1).alloc' (.cells (acells ⟨0, []⟩).toArray 31)
  have c0 := (hC1'.cell 0).trans rfl
  have c1 := (hC1'.cell 1).trans rfl
  have c2 := (hC1'.cell 2).trans rfl
  have c3 := (hC1'.cell 3).trans rfl
  have c4 := (hC1'.cell 4).trans rfl
  have c5 := (hC1'.cell 5).trans rfl
  have l1 := hC1.lt
  have d0 := (hC1.cell 0).trans rfl
  have d1 := (hC1.cell 1).trans rfl
  have d2 := (hC1.cell 2).trans rfl
  have d3 := (hC1.cell 3).trans rfl
  have d4 := (hC1.cell 4).trans rfl
  have d5 := (hC1.cell 5).trans rfl
  go_wp2_with fail
  refine (H2.out _).mono ?_
  rintro e W2 ⟨cs, rfl, hrep, hx2⟩
  rw [show keep St0 (cmQ 1 0 1).client (cmQ 1 0 1).seq ⟨0, [120]⟩ = StX from keepX] at hrep
  obtain ⟨Al, cl, As, cs', rfl, -, -, hl, hs⟩ := st_open hrep
  have hC2 := (hC1'.ext hx2)
  obtain ⟨g2, hg2⟩ : ∃ g, W2.heap.size = g := ⟨_, rfl⟩
  have hS := Blk.new W2 26 [.int .u64 StX.now, .int .u64 StX.count, .slice Al StX.links.length cl, .slice As StX.sess.length cs'].toArray
  rw [hg2] at hS
  have hx2' := (hx1'.trans' hx2).alloc' (.cells [.int .u64 StX.now, .int .u64 StX.count, .slice Al StX.links.length cl, .slice As StX.sess.length cs'].toArray 26)
  have hrep2 := stE.ext hrep ((Ext.rfl' W2).alloc' (.cells [.int .u64 StX.now, .int .u64 StX.count, .slice Al StX.links.length cl, .slice As StX.sess.length cs'].toArray 26))
  have l2 := hC2.lt
  have hC2' := hC2.alloc (.cells [.int .u64 StX.now, .int .u64 StX.count, .slice Al StX.links.length cl, .slice As StX.sess.length cs'].toArray 26)
  have e0 := (hC2'.cell 0).trans rfl
  have e1 := (hC2'.cell 1).trans rfl
  have e2 := (hC2'.cell 2).trans rfl
  have e3 := (hC2'.cell 3).trans rfl
  have e4 := (hC2'.cell 4).trans rfl
  have e5 := (hC2'.cell 5).trans rfl
  go_wp2_with fail
  refine (H3.out _ _ hrep2).mono ?_
  rintro e W3 ⟨rfl, hx3⟩
  rw [show ask StX (cmQ 1 0 1).client (cmQ 1 0 1).seq = (⟨0, [120]⟩, true) from askX1]
  have hS3 := hS.ext hx3
  have hrep3 := (stE.ext hrep2 hx3)
  obtain ⟨g3, hg3⟩ : ∃ g, W3.heap.size = g := ⟨_, rfl⟩
  have hA := Blk.new W3 31 (acells ⟨0, [120]⟩).toArray
  rw [hg3] at hA
  have hx3' := (hx2'.trans' hx3).alloc' (.cells (acells ⟨0, [120]⟩).toArray 31)
  have hrep3' := stE.ext hrep3 ((Ext.rfl' W3).alloc' (.cells (acells ⟨0, [120]⟩).toArray 31))
  have l3 := hS3.lt
  have hS3' := hS3.alloc (.cells (acells ⟨0, [120]⟩).toArray 31)
  have k0 := (hS3'.cell 0).trans rfl
  have k1 := (hS3'.cell 1).trans rfl
  have k2 := (hS3'.cell 2).trans rfl
  have k3 := (hS3'.cell 3).trans rfl
  go_wp2_with fail
  refine (H4.out _ _ hrep3').mono ?_
  rintro e W4 ⟨rfl, hx4⟩
  rw [show ask StX (cmQ 1 0 0).client (cmQ 1 0 0).seq = (⟨1, []⟩, true) from askX2]
  have hA4 := hA.ext hx4
  have l4 := hA4.lt
  have m1 := (hA4.cell 1).trans rfl
  go_wp2
  go_ret
  exact ⟨rfl, (hx3'.trans' hx4).alloc' _⟩
end Go.Proofs.Ythlbnajecfjmdaa
