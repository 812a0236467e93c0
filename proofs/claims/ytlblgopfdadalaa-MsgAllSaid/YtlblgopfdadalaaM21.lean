/- A part of the proof of 'MsgAll'. -/
import Derived.Test.YtlblgopfdadalaaM15
import Derived.Test.YtlblgopfdadalaaM20
import Derived.Test.YtlblgopfdadalaaM19
namespace Go.Proofs.Ytlblgopfdadalaa
set_option linter.unusedVariables false
set_option linter.unusedSimpArgs false
set_option linter.unnecessarySimpa false
set_option maxRecDepth 100000
open Go.RowKit
set_option maxHeartbeats 3200000 in
theorem begun24_b (w : World) : Calls Try.prog 5 #[] w fun e w' => e = .returned (.bool true) ∧ Ext w w' := by
  have hB0 := Blk.new w 33 (mgcells Mg0 (.slice none 0 0) (.slice none 0 0)).toArray
  have HP := hide (fun W => mput_b mg0 (.slice none 0 0) (.slice none 0 0) W mg0_wide mg0_light (Enc.Sl.nil _ _ _) (Bs.nil _))
  go_enter Try.func5, Try.ntmps5
  go_wp2_with (refine st_stop rfl 33 _ _ rfl w.heap.size (mgcells mg0 (.slice none 0 0) (.slice none 0 0)).toArray rfl rfl 33 _ hB0 (by kernel_rfl) (by simp) (mg_one _ _ _ _ _ _ _) ?_)
  intro W1 hB1 hc1
  have hxa : Ext w W1 := ((Ext.rfl' w).alloc' _).then_ hc1 (by simp)
  generalize w.heap.size = g at *
  clear hc1 hB0
  go_wp2_with (refine ld_row rfl 33 _ rfl g rfl 33 _ _ hB1 Try.underlying33 rfl (by kernel_rfl) ?_)
  refine (HP.out _).mono ?_
  rintro e W2 ⟨m, Am, cm, hm, rfl, hz, hx2⟩
  have hlen : Hid ((m.length : Int) = 77) := hide (by rw [hm.out, mg0_len]; rfl)
  have HT : Hid (∀ W x, Bs W x m → Calls Try.prog 8 #[x] W fun e w' => ∃ ve vs, e = .returned (.tuple #[.agg (mgcells mg0 ve vs).toArray, .int .i64 0]) ∧ Enc.Sl enE w' noneAt ve mg0.ents ∧ Bs w' vs mg0.snap.state ∧ Ext W w') := hide (by
    intro W x hx
    have h := mtake_b x m W (by have := hlen.out; omega) hx
    rw [hm.out, mtake_put mg0_ok] at h
    exact h)
  have hxw2 := hxa.trans' hx2
  have hB2 := hB1.ext hx2
  clear hB1 hx2 hxa
  go_wp2_with fail
  refine (HT.out _ _ hz).mono ?_
  rintro e W3 ⟨ve, vs, rfl, h1, h2, hx3⟩
  have hxw3 := hxw2.trans' hx3
  have hB3 := hB2.ext hx3
  clear hB2 hxw2 hx3
  obtain ⟨Ae, ce, rfl, -, -⟩ := h1.form
  obtain ⟨As, cs, rfl, -, -, -⟩ := id h2
  have hN := Blk.new W3 33 (mgcells Mg0 (.slice none 0 0) (.slice none 0 0)).toArray
  go_wp2_with (refine st_stop rfl 33 _ _ rfl W3.heap.size (mgcells mg0 (.slice Ae mg0.ents.length ce) (.slice As mg0.snap.state.length cs)).toArray rfl rfl 33 _ hN (by kernel_rfl) (by simp) (mg_one _ _ _ _ _ _ _) ?_)
  intro W4 hB4 hc4
  have hx34 : Ext W3 W4 := ((Ext.rfl' W3).alloc' _).then_ hc4 (by simp)
  have hxw4 := hxw3.trans' hx34
  have hB5 := hB3.ext hx34
  replace h1 := h1.ext hx34
  replace h2 := h2.ext hx34
  clear hN hc4 hx34 hB3 hxw3
  generalize W3.heap.size = g3 at *
  have x2 : W4.cell? ⟨g3, 2, none⟩ = some (.int .i64 (-2)) := (hB4.cell 2).trans rfl
  have hl := hlen.out
  have HS1 := hide (fun W (hx : Ext W4 W) => msame_b mg0 mg0 _ _ (.slice none 0 0) (.slice none 0 0) W (h1.ext hx) (h2.ext hx) (Enc.Sl.nil _ _ _) (Bs.nil _))
  have HS2 := hide (fun W (hx : Ext W4 W) => msame_b mg0 Mg0 _ _ (.slice none 0 0) (.slice none 0 0) W (h1.ext hx) (h2.ext hx) (Enc.Sl.nil _ _ _) (Bs.nil _))
  go_wp2_with (first | refine ld_row rfl 33 _ rfl g3 rfl 33 _ _ hB4 Try.underlying33 rfl (by kernel_rfl) ?_ | refine ld_row rfl 33 _ rfl g rfl 33 _ _ hB5 Try.underlying33 rfl (by kernel_rfl) ?_)
  refine (HS1.out _ (Ext.rfl' _)).mono ?_
  rintro e W5 ⟨⟨r, rfl, hr⟩, hx5⟩
  obtain rfl : r = true := hr.2 (by first | trivial | rfl)
  replace hB4 := hB4.ext hx5
  go_wp2_with (first | refine ld_row rfl 33 _ rfl g3 rfl 33 _ _ hB4 Try.underlying33 rfl (by kernel_rfl) ?_ | fail)
  refine (HS2.out _ hx5).mono ?_
  rintro e W6 ⟨⟨r, rfl, hr⟩, hx6⟩
  obtain rfl : r = false := by
    cases r with
    | false => rfl
    | true =>
      have h := congrArg Mg.kind (hr.1 rfl)
      exact absurd h (by decide)
  go_wp2_with fail
  go_ret
  exact ⟨rfl, hxw4.trans' (hx5.trans' hx6)⟩
end Go.Proofs.Ytlblgopfdadalaa
