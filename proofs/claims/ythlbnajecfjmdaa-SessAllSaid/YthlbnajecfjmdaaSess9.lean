/- SessApart. -/
import Derived.Test.YthlbnajecfjmdaaSess8
import Derived.Test.YthlbnajecfjmdaaSame
namespace Go.Proofs.Ythlbnajecfjmdaa
set_option linter.unusedVariables false
set_option linter.unusedSimpArgs false
set_option linter.unnecessarySimpa false
set_option maxRecDepth 100000
open Go.RowKit
theorem new2 (w : World) (T1 T2 : TypeId) (c1 c2 : Array Value) : Blk ((w.alloc (.cells c1 T1)).alloc (.cells c2 T2)) w.heap.size T1 c1 ∧ Blk ((w.alloc (.cells c1 T1)).alloc (.cells c2 T2)) (w.heap.size + 1) T2 c2 ∧ Ext w ((w.alloc (.cells c1 T1)).alloc (.cells c2 T2)) := by
  have h2 := Blk.new (w.alloc (.cells c1 T1)) T2 c2
  rw [show (w.alloc (.cells c1 T1)).heap.size = w.heap.size + 1 by simp] at h2
  exact ⟨(Blk.new w T1 c1).alloc _, h2, ((Ext.rfl' w).alloc' _).alloc' _⟩
set_option maxHeartbeats 6400000 in
theorem sessApart_walk (ss : Array Value) (s : St) (cc : Array Value) (c : Cm) (o : Int) (q : Int) (w : World) (hs : stE.rep w noneAt ss.toList s) (hc : cmE.rep w noneAt cc.toList c) (ho : -9223372036854775808 ≤ o ∧ o ≤ 9223372036854775807) (hq : 0 ≤ q ∧ q ≤ 18446744073709551615) :
    Calls Try.prog 5 #[.agg ss, .agg cc, .int .i64 o, .int .u64 q] w fun e w' => e = .returned (.bool true) ∧ Ext w w' := by
  obtain ⟨rfl, wc⟩ := cmE_rep hc
  obtain ⟨Al, cl, As, cs', hss, -, -, -, hS4⟩ := st_open hs
  obtain ⟨ss⟩ := ss
  simp only at hss hs
  subst hss
  clear hc
  obtain ⟨hB, hC, hx0⟩ := new2 w 26 28 #[.int .u64 s.now, .int .u64 s.count, .slice Al s.links.length cl, .slice As s.sess.length cs'] (ccells c)
  obtain ⟨g, hg⟩ : ∃ g, w.heap.size = g := ⟨_, rfl⟩
  go_enter Try.func5, Try.ntmps5
  go_wp2_with fail
  refine (begun19_b _).mono ?_
  rintro e W1 ⟨rfl, hx1⟩
  rw [hg] at hB hC
  replace hB := hB.ext hx1
  replace hC := hC.ext hx1
  replace hx0 := hx0.trans' hx1
  clear hx1
  have b0 := (hB.cell 0).trans rfl
  have b1 := (hB.cell 1).trans rfl
  have b2 := (hB.cell 2).trans rfl
  have b3 := (hB.cell 3).trans rfl
  have HS := hide (fun W (h : Ext w W) => stE.ext hs h)
  have HL := hide (fun W cs h => light_b s cs W h)
  clear hs
  go_wp2_with fail
  refine (HL.out _ _ (HS.out _ hx0)).mono ?_
  rintro e W2 ⟨b, rfl, hx2, hb⟩
  clear b0 b1 b2 b3
  replace hB := hB.ext hx2
  replace hC := hC.ext hx2
  replace hx0 := hx0.trans' hx2
  clear hx2 HL
  have c1 := (hC.cell 1).trans rfl
  cases b with
  | false =>
    go_wp2
    go_ret
    exact ⟨rfl, hx0⟩
  | true =>
    have LT := hb rfl
    clear hb
    have RS := hide LT.2.2.1.rises
    by_cases hoc : o = c.client
    · have hoc1 : (o == c.client) = true := by simpa using hoc
      clear hoc
      go_wp2
      go_ret
      exact ⟨rfl, hx0⟩
    · have hoc1 : (o == c.client) = false := by simpa using hoc
      have HOC := hide hoc
      clear hoc
      have HASK := hide (fun W cs (d : Cm) (hd : d.wide) h => sask_b s cs d W h hd RS.out (by have := LT.2.1; omega))
      have b0 := (hB.cell 0).trans rfl
      have b1 := (hB.cell 1).trans rfl
      have b2 := (hB.cell 2).trans rfl
      have b3 := (hB.cell 3).trans rfl
      have c0 := (hC.cell 0).trans rfl
      have c2 := (hC.cell 2).trans rfl
      have c3 := (hC.cell 3).trans rfl
      have c4 := (hC.cell 4).trans rfl
      have c5 := (hC.cell 5).trans rfl
      go_wp2_with fail
      refine (HASK.out _ _ c wc (HS.out _ hx0)).mono ?_
      rintro e W3 ⟨rfl, hx3⟩
      clear b0 b1 b2 b3 c0 c1 c2 c3 c4 c5
      obtain ⟨x0, k0, hask⟩ : ∃ x0 k0, ask s c.client c.seq = (x0, k0) := ⟨_, _, rfl⟩
      rw [hask]
      have hx4 := hx3.alloc' (.cells (acells x0).toArray 31)
      cases k0 with
      | true =>
        go_wp2
        go_ret
        exact ⟨rfl, hx0.trans' hx4⟩
      | false =>
        clear hask
        replace hB := hB.ext hx4
        replace hC := hC.ext hx4
        replace hx0 := hx0.trans' hx4
        clear hx4 hx3
        have HKEEP := hide (fun W cs h => skeep_b s cs c ⟨0, [120]⟩ W h wc ⟨⟨by simp, by simp⟩, by simp [maxLen]⟩ RS.out (by have := LT.2.1; omega) (by have := LT.1; omega) LT.dones)
        have HAK := hide (ask_keep s RS.out c.client c.seq ⟨0, [120]⟩)
        have HTL : Hid ((keep s c.client c.seq ⟨0, [120]⟩).sess.length ≤ 100000) := hide (by have := swith_len s.sess (skeep (sown s.sess c.client) c.seq ⟨0, [120]⟩); have := LT.2.1; show (swith _ _).length ≤ _; omega)
        have HTR : Hid (RiseS (keep s c.client c.seq ⟨0, [120]⟩).sess) := hide (swith_rise RS.out _)
        have HTN : Hid ((keep s c.client c.seq ⟨0, [120]⟩).now = s.now ∧ (keep s c.client c.seq ⟨0, [120]⟩).count = s.count ∧ (keep s c.client c.seq ⟨0, [120]⟩).links = s.links) := hide ⟨rfl, rfl, rfl⟩
        have b0 := (hB.cell 0).trans rfl
        have b1 := (hB.cell 1).trans rfl
        have b2 := (hB.cell 2).trans rfl
        have b3 := (hB.cell 3).trans rfl
        have c0 := (hC.cell 0).trans rfl
        have c1 := (hC.cell 1).trans rfl
        have c2 := (hC.cell 2).trans rfl
        have c3 := (hC.cell 3).trans rfl
        have c4 := (hC.cell 4).trans rfl
        have c5 := (hC.cell 5).trans rfl
        clear LT
        go_wp2_with fail
        refine (HKEEP.out _ _ (HS.out _ hx0)).mono ?_
        rintro e W5 ⟨ct, rfl, hrt, hx5⟩
        clear b0 b1 b2 b3 c0 c1 c2 c3 c4 c5 HKEEP hC
        obtain ⟨T, hT⟩ : ∃ T, keep s c.client c.seq ⟨0, [120]⟩ = T := ⟨_, rfl⟩
        rw [hT] at hrt HAK HTL HTR HTN
        clear hT
        obtain ⟨Tn, Tc, TL, TS⟩ := T
        obtain ⟨rfl, rfl, rfl⟩ := HTN.out
        clear HTN
        obtain ⟨Am, cm, At, ct', rfl, u1, u2, hTl, -⟩ := st_open hrt
        simp only at u1 u2 hTl
        obtain ⟨hT, hD, hxT⟩ := new2 W5 26 28 #[.int .u64 s.now, .int .u64 s.count, .slice Am s.links.length cm, .slice At TS.length ct'] #[.int .i64 1, .int .i64 o, .int .u64 q, str [], str [], .int .u64 0]
        obtain ⟨gt, hgt⟩ : ∃ g, W5.heap.size = g := ⟨_, rfl⟩
        rw [hgt] at hT hD
        have HTS := hide (fun W (h : Ext W5 W) => stE.ext hrt h)
        clear hrt
        replace hB := (hB.ext hx5).ext hxT
        replace hx0 := (hx0.trans' hx5).trans' hxT
        clear hx5
        have HASKT := hide (fun W cs (d : Cm) (hd : d.wide) h => sask_b ⟨s.now, s.count, s.links, TS⟩ cs d W h hd HTR.out HTL.out)
        have wd : (cmQ 1 o q).wide := cmQ_wide ⟨by omega, by omega⟩ ho hq
        have b0 := (hB.cell 0).trans rfl
        have b1 := (hB.cell 1).trans rfl
        have b2 := (hB.cell 2).trans rfl
        have b3 := (hB.cell 3).trans rfl
        go_wp2_with fail
        refine (HASK.out _ _ (cmQ 1 o q) wd (HS.out _ hx0)).mono ?_
        rintro e W9 ⟨rfl, hx9⟩
        clear b0 b1 b2 b3
        obtain ⟨y, was, hy⟩ : ∃ y was, ask s o q = (y, was) := ⟨_, _, rfl⟩
        rw [show ask s (cmQ 1 o q).client (cmQ 1 o q).seq = (y, was) from hy]
        have HY := hide hy
        clear hy
        obtain ⟨g9, hg9⟩ : ∃ g, W9.heap.size = g := ⟨_, rfl⟩
        have hY := Blk.new W9 31 (acells y).toArray
        rw [hg9] at hY
        have hxY := (Ext.rfl' W9).alloc' (.cells (acells y).toArray 31)
        replace hB := (hB.ext hx9).ext hxY
        replace hT := (hT.ext hx9).ext hxY
        replace hD := (hD.ext hx9).ext hxY
        replace hx0 := (hx0.trans' hx9).trans' hxY
        replace hxT := (hxT.trans' hx9).trans' hxY
        clear hx9 hxY
        have b0 := (hT.cell 0).trans rfl
        have b1 := (hT.cell 1).trans rfl
        have b2 := (hT.cell 2).trans rfl
        have b3 := (hT.cell 3).trans rfl
        have c0 := (hD.cell 0).trans rfl
        have c1 := (hD.cell 1).trans rfl
        have c2 := (hD.cell 2).trans rfl
        have c3 := (hD.cell 3).trans rfl
        have c4 := (hD.cell 4).trans rfl
        have c5 := (hD.cell 5).trans rfl
        go_wp2_with fail
        refine (HASKT.out _ _ (cmQ 1 o q) wd (HTS.out _ hxT)).mono ?_
        rintro e W11 ⟨rfl, hx11⟩
        clear b0 b1 b2 b3 c0 c1 c2 c3 c4 c5
        have hz : ask ⟨s.now, s.count, s.links, TS⟩ o q = (y, was) := by
          have h2 := HAK.out o q
          rw [if_neg HOC.out] at h2
          by_cases h3 : o < 0 ∨ 4 ≤ o ∨ q = 0
          · rw [if_pos h3] at h2
            rw [h2, ← HY.out, ask_bad h3]
          · rw [if_neg h3] at h2
            rw [h2, HY.out]
        rw [show ask ⟨s.now, s.count, s.links, TS⟩ (cmQ 1 o q).client (cmQ 1 o q).seq = (y, was) from hz]
        clear hz
        obtain ⟨hZ, hU, hxU⟩ := new2 W11 31 26 (acells y).toArray #[.int .u64 s.now, .int .u64 s.count, .slice Am s.links.length cm, .slice As s.sess.length cs']
        obtain ⟨g11, hg11⟩ : ∃ g, W11.heap.size = g := ⟨_, rfl⟩
        rw [hg11] at hZ hU
        have hx1a := hx11.alloc' (.cells (acells y).toArray 31)
        have hx1U := hx11.trans' hxU
        have b3' := ((hB.ext hx1a).cell 3).trans rfl
        have t0' := ((hT.ext hx1a).cell 0).trans rfl
        have t1' := ((hT.ext hx1a).cell 1).trans rfl
        have t2' := ((hT.ext hx1a).cell 2).trans rfl
        have t3' := ((hT.ext hx1a).cell 3).trans rfl
        have hBU := hB.ext hx1U
        have b3u : ∀ o1, ((W11.alloc (.cells (acells y).toArray 31)).alloc o1).cell? ⟨g, 3, none⟩ = some (.slice As s.sess.length cs') := fun o1 => (((hB.ext hx1a).alloc o1).cell 3).trans rfl
        have b0 := (hBU.cell 0).trans rfl
        have b1 := (hBU.cell 1).trans rfl
        have b2 := (hBU.cell 2).trans rfl
        have b3 := (hBU.cell 3).trans rfl
        have y0 := ((hY.ext hx1U).cell 0).trans rfl
        have y1 := ((hY.ext hx1U).cell 1).trans rfl
        have z0 := (hZ.cell 0).trans rfl
        have z1 := (hZ.cell 1).trans rfl
        have hu := st_rep.2 ⟨.slice Am s.links.length cm, .slice As s.sess.length cs', rfl, u1, u2, hTl.ext (hxT.trans' hx1U), hS4.ext (hx0.trans' hx1U)⟩
        have HU := hide hu
        clear hu
        go_wp2_with fail
        refine (same_eq s _ _ _ (HS.out _ (hx0.trans' hx1U)) HU.out).mono ?_
        rintro e W13 ⟨rfl, hx13⟩
        go_wp2
        go_ret
        exact ⟨rfl, (hx0.trans' hx1U).trans' hx13⟩
end Go.Proofs.Ythlbnajecfjmdaa
