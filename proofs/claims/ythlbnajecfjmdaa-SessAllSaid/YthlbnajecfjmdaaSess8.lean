/- SessKeeps. -/
import Derived.Test.YthlbnajecfjmdaaSess7
import Derived.Test.YthlbnajecfjmdaaSess5
namespace Go.Proofs.Ythlbnajecfjmdaa
set_option linter.unusedVariables false
set_option linter.unusedSimpArgs false
set_option linter.unnecessarySimpa false
set_option maxRecDepth 100000
open Go.RowKit
theorem swith_len (l : List Se) (x : Se) : (swith l x).length ≤ l.length + 1 := by
  unfold swith
  split
  · simp
  · simp; omega
theorem LightS.dones {s : St} (h : LightS s) : ∀ x ∈ s.sess, RiseD x.done ∧ x.done.length ≤ 1000 := fun x hx => by
  obtain ⟨i, hi⟩ := List.mem_iff_getElem?.1 hx
  exact ⟨h.2.2.1.rised x hx, by have := (h.2.2.2 i x hi).1; omega⟩
theorem eq_an (a b : An) : ∃ r : Bool, (r = true ↔ a = b) ∧ ∀ W, (Op.equalIn 10000 31 (.agg #[.int .i64 a.err, str a.text]) (.agg #[.int .i64 b.err, str b.text])).run Try.prog W = .ok r W := by
  obtain ⟨e, x⟩ := a
  obtain ⟨e', x'⟩ := b
  refine ⟨decide (e = e') && decide (x = x'), by simp, fun W => ?_⟩
  have hS : Try.prog.underlying 31 = some (.struct (Try.prog.fieldsOf 31)) := by kernel_rfl
  have hp : Try.prog.stoodInHeld 31 = false := by kernel_rfl
  have u1 := Try.underlying29
  have u3 := Try.underlying9
  rw [show (10000 : Nat) = 9999 + 1 from rfl, run_equalIn_agg W 9999 31 _ _ hS hp]
  simp only [Program.fieldsOf, Try.underlying31]
  go_simp
  by_cases h1 : e = e' <;> by_cases h4 : x = x' <;> simp [h1, h4]
set_option maxHeartbeats 6400000 in
theorem sessKeeps_walk (ss : Array Value) (s : St) (cc : Array Value) (c : Cm) (aa : Array Value) (a : An) (q : Int) (w : World) (hs : stE.rep w noneAt ss.toList s) (hc : cmE.rep w noneAt cc.toList c) (ha : anE.rep w noneAt aa.toList a) (hq : 0 ≤ q ∧ q ≤ 18446744073709551615) :
    Calls Try.prog 7 #[.agg ss, .agg cc, .agg aa, .int .u64 q] w fun e w' => e = .returned (.bool true) ∧ Ext w w' := by
  obtain ⟨rfl, wc⟩ := cmE_rep hc
  obtain ⟨Al, cl, As, cs', hss, -, -, -, -⟩ := st_open hs
  obtain ⟨haa, ha1, ha2⟩ := an_rep.1 ha
  obtain ⟨ss⟩ := ss
  obtain ⟨aa⟩ := aa
  simp only at hss haa hs
  subst hss haa
  clear hc ha
  obtain ⟨hB, hC, hA, hx0⟩ := new3 w 26 28 31 #[.int .u64 s.now, .int .u64 s.count, .slice Al s.links.length cl, .slice As s.sess.length cs'] (ccells c) (acells a).toArray
  obtain ⟨g, hg⟩ : ∃ g, w.heap.size = g := ⟨_, rfl⟩
  go_enter Try.func7, Try.ntmps7
  go_wp2_with fail
  refine (begun19_b _).mono ?_
  rintro e W1 ⟨rfl, hx1⟩
  rw [hg] at hB hC hA
  replace hB := hB.ext hx1
  replace hC := hC.ext hx1
  replace hA := hA.ext hx1
  replace hx0 := hx0.trans' hx1
  clear hx1
  have b0 := (hB.cell 0).trans rfl
  have b1 := (hB.cell 1).trans rfl
  have b2 := (hB.cell 2).trans rfl
  have b3 := (hB.cell 3).trans rfl
  have a1 := (hA.cell 1).trans rfl
  have HS := hide (fun W (h : Ext w W) => stE.ext hs h)
  have HL := hide (fun W cs h => light_b s cs W h)
  clear hs
  go_wp2_with fail
  refine (HL.out _ _ (HS.out _ hx0)).mono ?_
  rintro e W2 ⟨b, rfl, hx2, hb⟩
  clear b0 b1 b2 b3 a1
  replace hB := hB.ext hx2
  replace hC := hC.ext hx2
  replace hA := hA.ext hx2
  replace hx0 := hx0.trans' hx2
  clear hx2 HL
  have a1 := (hA.cell 1).trans rfl
  cases b with
  | false =>
    go_wp2
    go_ret
    exact ⟨rfl, hx0⟩
  | true =>
    have LT := hb rfl
    clear hb
    have RS := hide LT.2.2.1.rises
    by_cases h100 : 100 < a.text.length
    · go_wp2
      go_ret
      exact ⟨rfl, hx0⟩
    · have HASK := hide (fun W cs (d : Cm) (hd : d.wide) h => sask_b s cs d W h hd RS.out (by have := LT.2.1; omega))
      have b0 := (hB.cell 0).trans rfl
      have b1 := (hB.cell 1).trans rfl
      have b2 := (hB.cell 2).trans rfl
      have b3 := (hB.cell 3).trans rfl
      have c0 := (hC.cell 0).trans rfl
      have c1 := (hC.cell 1).trans rfl
      have c2 := (hC.cell 2).trans rfl
      have c3 := (hC.cell 3).trans rfl
      have c4 := (hC.cell 4).trans rfl
      have c5 := (hC.cell 5).trans rfl
      go_wp2_with fail
      refine (HASK.out _ _ c wc (HS.out _ hx0)).mono ?_
      rintro e W3 ⟨rfl, hx3⟩
      clear b0 b1 b2 b3 a1 c0 c1 c2 c3 c4 c5
      obtain ⟨x0, k0, hask⟩ : ∃ x0 k0, ask s c.client c.seq = (x0, k0) := ⟨_, _, rfl⟩
      rw [hask]
      have hx4 := hx3.alloc' (.cells (acells x0).toArray 31)
      cases k0 with
      | true =>
        go_wp2
        go_ret
        exact ⟨rfl, hx0.trans' hx4⟩
      | false =>
        have HOK := hide (ask_ok hask)
        clear hask
        replace hB := hB.ext hx4
        replace hC := hC.ext hx4
        replace hA := hA.ext hx4
        replace hx0 := hx0.trans' hx4
        clear hx4 hx3
        have HKEEP := hide (fun W cs h => skeep_b s cs c a W h wc ⟨ha1, ha2⟩ RS.out (by have := LT.2.1; omega) (by have := LT.1; omega) LT.dones)
        have HAK := hide (ask_keep s RS.out c.client c.seq a)
        have HTL : Hid ((keep s c.client c.seq a).sess.length ≤ 100000) := hide (by have := swith_len s.sess (skeep (sown s.sess c.client) c.seq a); have := LT.2.1; show (swith _ _).length ≤ _; omega)
        have HTR : Hid (RiseS (keep s c.client c.seq a).sess) := hide (swith_rise RS.out _)
        have b0 := (hB.cell 0).trans rfl
        have b1 := (hB.cell 1).trans rfl
        have b2 := (hB.cell 2).trans rfl
        have b3 := (hB.cell 3).trans rfl
        have c0 := (hC.cell 0).trans rfl
        have c1 := (hC.cell 1).trans rfl
        have c2 := (hC.cell 2).trans rfl
        have c3 := (hC.cell 3).trans rfl
        have c4 := (hC.cell 4).trans rfl
        have c5 := (hC.cell 5).trans rfl
        have a0 := (hA.cell 0).trans rfl
        have a1 := (hA.cell 1).trans rfl
        clear LT
        go_wp2_with fail
        refine (HKEEP.out _ _ (HS.out _ hx0)).mono ?_
        rintro e W5 ⟨ct, rfl, hrt, hx5⟩
        clear b0 b1 b2 b3 a0 a1 c0 c1 c2 c3 c4 c5 HKEEP
        obtain ⟨T, hT⟩ : ∃ T, keep s c.client c.seq a = T := ⟨_, rfl⟩
        rw [hT] at hrt HAK HTL HTR
        clear hT
        obtain ⟨Am, cm, At, ct', rfl, -, -, -, -⟩ := st_open hrt
        have hxT := (Ext.rfl' W5).alloc' (.cells #[.int .u64 T.now, .int .u64 T.count, .slice Am T.links.length cm, .slice At T.sess.length ct'] 26)
        have hT := Blk.new W5 26 #[.int .u64 T.now, .int .u64 T.count, .slice Am T.links.length cm, .slice At T.sess.length ct']
        obtain ⟨gt, hgt⟩ : ∃ g, W5.heap.size = g := ⟨_, rfl⟩
        rw [hgt] at hT
        have HTS := hide (fun W (h : Ext W5 W) => stE.ext hrt h)
        clear hrt
        replace hB := (hB.ext hx5).ext hxT
        replace hC := (hC.ext hx5).ext hxT
        replace hA := (hA.ext hx5).ext hxT
        replace hx0 := (hx0.trans' hx5).trans' hxT
        clear hx5
        have HASKT := hide (fun W cs (d : Cm) (hd : d.wide) h => sask_b T cs d W h hd HTR.out HTL.out)
        have c0 := (hC.cell 0).trans rfl
        have c1 := (hC.cell 1).trans rfl
        have c2 := (hC.cell 2).trans rfl
        have c3 := (hC.cell 3).trans rfl
        have c4 := (hC.cell 4).trans rfl
        have c5 := (hC.cell 5).trans rfl
        go_wp2_with fail
        refine (HASKT.out _ _ c wc (HTS.out _ hxT)).mono ?_
        rintro e W7 ⟨rfl, hx7⟩
        rw [show ask T c.client c.seq = (a, true) by rw [HAK.out, if_neg HOK.out, if_pos rfl, if_pos rfl]]
        clear c0 c1 c2 c3 c4 c5
        have hx8 := hx7.alloc' (.cells (acells a).toArray 31)
        obtain ⟨g7, hg7⟩ : ∃ g, W7.heap.size = g := ⟨_, rfl⟩
        have hX := Blk.new W7 31 (acells a).toArray
        rw [hg7] at hX
        replace hB := hB.ext hx8
        replace hC := hC.ext hx8
        replace hA := hA.ext hx8
        replace hT := hT.ext hx8
        replace hx0 := hx0.trans' hx8
        replace hxT := hxT.trans' hx8
        have hs8 : (W7.alloc (.cells (acells a).toArray 31)).heap.size = g7 + 1 := by simp [hg7]
        clear hx7 hx8
        have c0 := (hC.cell 0).trans rfl
        have c1 := (hC.cell 1).trans rfl
        have c2 := (hC.cell 2).trans rfl
        have c3 := (hC.cell 3).trans rfl
        have c4 := (hC.cell 4).trans rfl
        have c5 := (hC.cell 5).trans rfl
        have wd : (⟨c.kind, c.client, q, c.name, c.url, c.till⟩ : Cm).wide := by
          obtain ⟨k0, k1, c0, c1, q0, q1, n1, u1, t0, t1⟩ := wc
          exact ⟨k0, k1, c0, c1, hq.1, hq.2, n1, u1, t0, t1⟩
        have hxD := (Ext.rfl' (W7.alloc (.cells (acells a).toArray 31))).alloc' (.cells (ccells ⟨c.kind, c.client, q, c.name, c.url, c.till⟩) 28)
        have hD := Blk.new (W7.alloc (.cells (acells a).toArray 31)) 28 (ccells ⟨c.kind, c.client, q, c.name, c.url, c.till⟩)
        rw [hs8] at hD
        replace hB := hB.ext hxD
        replace hA := hA.ext hxD
        replace hT := hT.ext hxD
        replace hX := hX.ext hxD
        replace hx0 := hx0.trans' hxD
        replace hxT := hxT.trans' hxD
        have b0 := (hB.cell 0).trans rfl
        have b1 := (hB.cell 1).trans rfl
        have b2 := (hB.cell 2).trans rfl
        have b3 := (hB.cell 3).trans rfl
        go_wp2_with fail
        refine (HASK.out _ _ ⟨c.kind, c.client, q, c.name, c.url, c.till⟩ wd (HS.out _ hx0)).mono ?_
        rintro e W9 ⟨rfl, hx9⟩
        clear b0 b1 b2 b3 c0 c1 c2 c3 c4 c5
        obtain ⟨y, was, hy⟩ : ∃ y was, ask s c.client q = (y, was) := ⟨_, _, rfl⟩
        rw [show ask s (⟨c.kind, c.client, q, c.name, c.url, c.till⟩ : Cm).client (⟨c.kind, c.client, q, c.name, c.url, c.till⟩ : Cm).seq = (y, was) from hy]
        have HY := hide hy
        clear hy
        replace hC := (hC.ext hxD).ext hx9
        obtain ⟨g9, hg9⟩ : ∃ g, W9.heap.size = g := ⟨_, rfl⟩
        have hY := Blk.new W9 31 (acells y).toArray
        rw [hg9] at hY
        have hxY := (Ext.rfl' W9).alloc' (.cells (acells y).toArray 31)
        replace hC := hC.ext hxY
        replace hA := (hA.ext hx9).ext hxY
        replace hT := (hT.ext hx9).ext hxY
        replace hX := (hX.ext hx9).ext hxY
        replace hD := (hD.ext hx9).ext hxY
        replace hx0 := (hx0.trans' hx9).trans' hxY
        replace hxT := (hxT.trans' hx9).trans' hxY
        clear hx9 hxY hxD hB
        have b0 := (hT.cell 0).trans rfl
        have b1 := (hT.cell 1).trans rfl
        have b2 := (hT.cell 2).trans rfl
        have b3 := (hT.cell 3).trans rfl
        have c0 := (hD.cell 0).trans rfl
        have c1 := (hD.cell 1).trans rfl
        have c2 := (hD.cell 2).trans rfl
        have c3 := (hD.cell 3).trans rfl
        have c4 := (hD.cell 4).trans rfl
        have c5 := (hD.cell 5).trans rfl
        go_wp2_with fail
        refine (HASKT.out _ _ ⟨c.kind, c.client, q, c.name, c.url, c.till⟩ wd (HTS.out _ hxT)).mono ?_
        rintro e W11 ⟨rfl, hx11⟩
        clear b0 b1 b2 b3 c0 c1 c2 c3 c4 c5
        obtain ⟨z, now, hz⟩ : ∃ z now, ask T c.client q = (z, now) := ⟨_, _, rfl⟩
        rw [show ask T (⟨c.kind, c.client, q, c.name, c.url, c.till⟩ : Cm).client (⟨c.kind, c.client, q, c.name, c.url, c.till⟩ : Cm).seq = (z, now) from hz]
        have LAW : q = c.seq ∨ (z = y ∧ now = was) ∨ (now = true ∧ z = ⟨14, []⟩) := by
          by_cases h1 : q = c.seq
          · exact .inl h1
          · have h2 := HAK.out c.client q
            rw [hz] at h2
            by_cases h3 : c.client < 0 ∨ 4 ≤ c.client ∨ q = 0
            · rw [if_pos h3] at h2
              have h4 := HY.out
              rw [ask_bad h3] at h4
              cases h2
              cases h4
              exact .inr (.inl ⟨rfl, rfl⟩)
            · rw [if_neg h3, if_pos rfl, if_neg h1] at h2
              split at h2
              · cases h2
                exact .inr (.inr ⟨rfl, rfl⟩)
              · have h4 := HY.out
                rw [← h2] at h4
                cases h4
                exact .inr (.inl ⟨rfl, rfl⟩)
        clear hz
        have hxZ := hx11.alloc' (.cells (acells z).toArray 31)
        replace hC := hC.ext hxZ
        replace hA := hA.ext hxZ
        replace hX := hX.ext hxZ
        replace hY := hY.ext hxZ
        replace hx0 := hx0.trans' hxZ
        clear hx11 hxZ hT hD hxT
        have c2 := (hC.cell 2).trans rfl
        have a0 := (hA.cell 0).trans rfl
        have a1 := (hA.cell 1).trans rfl
        have x0 := (hX.cell 0).trans rfl
        have x1 := (hX.cell 1).trans rfl
        have y0 := (hY.cell 0).trans rfl
        have y1 := (hY.cell 1).trans rfl
        by_cases h1 : q = c.seq
        · have h2 : (q == c.seq) = true := by simpa using h1
          clear h1 LAW
          go_wp2
          go_ret
          exact ⟨rfl, hx0⟩
        · have h2 : (q == c.seq) = false := by simpa using h1
          replace LAW := LAW.resolve_left h1
          clear h1
          rcases LAW with ⟨rfl, rfl⟩ | ⟨rfl, rfl⟩
          · go_wp2
            go_ret
            exact ⟨rfl, hx0⟩
          · obtain ⟨ye, yt⟩ := y
            by_cases e1 : ye = 14
            · subst e1
              cases yt with
              | nil =>
                cases was
                · go_wp2
                  go_ret
                  exact ⟨rfl, hx0⟩
                · go_wp2
                  go_ret
                  exact ⟨rfl, hx0⟩
              | cons t0 tl =>
                go_wp2
                go_ret
                exact ⟨rfl, hx0⟩
            · have e2 : ((14 : Int) == ye) = false := by simpa using fun h => e1 h.symm
              have e3 : ¬ (14 : Int) = ye := fun h => e1 h.symm
              go_wp2
              go_ret
              exact ⟨rfl, hx0⟩
end Go.Proofs.Ythlbnajecfjmdaa
