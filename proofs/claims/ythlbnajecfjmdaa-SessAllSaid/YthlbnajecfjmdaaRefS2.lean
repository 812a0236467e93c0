/- shortcutref17.Ask. -/
import Derived.Test.YthlbnajecfjmdaaRefS
namespace Go.Proofs.Ythlbnajecfjmdaa
set_option linter.unusedVariables false
set_option linter.unusedSimpArgs false
set_option linter.unnecessarySimpa false
set_option maxRecDepth 100000
open Go.RowKit
theorem sown_sat_no {l : List Se} {c : Int} {i : Nat} (h : sat l c = (i, false)) : sown l c = ⟨c, 0, []⟩ := by
  unfold sat at h
  unfold sown
  obtain ⟨h1, h2⟩ := Prod.mk.inj h
  cases hx : l[cntP (ltC c) l]? with
  | none => rfl
  | some x =>
    rw [hx] at h2
    have h3 : ¬ x.client = c := by simpa using h2
    simp [h3]
theorem sown_sat_yes {l : List Se} {c : Int} {i : Nat} (h : sat l c = (i, true)) : ∃ x, l[i]? = some x ∧ x.client = c ∧ sown l c = x := by
  unfold sat at h
  unfold sown
  obtain ⟨h1, h2⟩ := Prod.mk.inj h
  subst h1
  cases hx : l[cntP (ltC c) l]? with
  | none => rw [hx] at h2; cases h2
  | some x =>
    rw [hx] at h2
    have h3 : x.client = c := by simpa using h2
    exact ⟨x, rfl, h3, by simp [h3]⟩
set_option maxHeartbeats 3200000 in
theorem rask_b (s : St) (cs : List Value) (c : Cm) (w : World) (hs : stE.rep w noneAt cs s) (hc : c.wide) (hr : RiseS s.sess) (hl : s.sess.length ≤ 100000) :
    Calls Try.prog 13 #[.agg cs.toArray, cv c] w fun e w' => RetAsk (ask s c.client c.seq) w w' e := by
  obtain ⟨vl, vs, rfl, s1, s2, s3, s4⟩ := st_rep.1 hs
  obtain ⟨Al, cl, rfl, -, -⟩ := s3.form
  obtain ⟨As, cs', rfl, -, -⟩ := s4.form
  obtain ⟨kind, client, seq, name, url, till⟩ := c
  obtain ⟨k0, k1, c0, c1, q0, q1, n1, u1, t0, t1⟩ := hc
  simp only at k0 k1 c0 c1 q0 q1 n1 u1 t0 t1
  obtain ⟨hB, hC, hR, hx0⟩ := new3 w 26 28 31 #[.int .u64 s.now, .int .u64 s.count, .slice Al s.links.length cl, .slice As s.sess.length cs'] (ccells ⟨kind, client, seq, name, url, till⟩) #[.int .i64 0, str []]
  obtain ⟨S, hS⟩ : ∃ S, sown s.sess client = S := ⟨_, rfl⟩
  have HASK : Hid (ask s client seq = if client < 0 ∨ 4 ≤ client ∨ seq = 0 then (⟨1, []⟩, true) else match kept S.done seq with | some a => (a, true) | none => if stale seq S.high = true then (⟨14, []⟩, true) else (⟨0, []⟩, false)) := by
    unfold Hid; rw [← hS]; rfl
  have HS := hide hS
  clear hS
  by_cases hbad : client < 0 ∨ 4 ≤ client ∨ seq = 0
  · have HA : Hid (ask s client seq = (⟨1, []⟩, true)) := by unfold Hid; rw [HASK.out, if_pos hbad]
    show Calls Try.prog 13 _ w fun e w' => RetAsk (ask s client seq) w w' e
    rw [HA.out]
    have key : ∀ W1, Ext (((w.alloc (.cells #[.int .u64 s.now, .int .u64 s.count, .slice Al s.links.length cl, .slice As s.sess.length cs'] 26)).alloc (.cells (ccells ⟨kind, client, seq, name, url, till⟩) 28)).alloc (.cells #[.int .i64 0, str []] 31)) W1 →
        Blk ((W1.setCell ⟨w.heap.size + 2, 0, none⟩ (.int .i64 1)).setCell ⟨w.heap.size + 2, 1, none⟩ (str [])) (w.heap.size + 2) 31 #[.int .i64 1, str []] ∧ Ext w ((W1.setCell ⟨w.heap.size + 2, 0, none⟩ (.int .i64 1)).setCell ⟨w.heap.size + 2, 1, none⟩ (str [])) := fun W1 hx =>
      ⟨((hR.ext hx).set_ 0 _).set_ 1 _, (hx0.trans' hx).then_ (((Chg.refl [w.heap.size + 2] W1).set (by simp) _).set (by simp) _) (by simp)⟩
    have HK := hide key
    clear key
    by_cases b1 : client < 0
    · go_enter Try.func13, Try.ntmps13
      go_wp2_with fail
      refine (rfails_b 1 _).mono ?_
      rintro e W1 ⟨rfl, hx1⟩
      have hR1 := hR.ext hx1
      have y0 := (hR1.cell 0).trans rfl
      have y1 := (hR1.cell 1).trans rfl
      have z0 := hR1.frozen 0
      have z1 := hR1.frozen 1
      go_wp2
      try simp only [Exit.inBlock, Exit.then]
      refine bodyPost_ret (results_cell2 rfl _ _ (w.heap.size + 2) 31 #[.int .i64 1, str []] (0, 0) _ rfl (HK.out W1 hx1).1 Try.underlying31 rfl (by kernel_rfl)) rfl ?_
      exact ⟨rfl, (HK.out W1 hx1).2⟩
    · by_cases b2 : 4 ≤ client
      · go_enter Try.func13, Try.ntmps13
        go_wp2_with fail
        refine (rfails_b 1 _).mono ?_
        rintro e W1 ⟨rfl, hx1⟩
        have hR1 := hR.ext hx1
        have y0 := (hR1.cell 0).trans rfl
        have y1 := (hR1.cell 1).trans rfl
        have z0 := hR1.frozen 0
        have z1 := hR1.frozen 1
        go_wp2
        try simp only [Exit.inBlock, Exit.then]
        refine bodyPost_ret (results_cell2 rfl _ _ (w.heap.size + 2) 31 #[.int .i64 1, str []] (0, 0) _ rfl (HK.out W1 hx1).1 Try.underlying31 rfl (by kernel_rfl)) rfl ?_
        exact ⟨rfl, (HK.out W1 hx1).2⟩
      · obtain rfl : seq = 0 := by omega
        go_enter Try.func13, Try.ntmps13
        go_wp2_with fail
        refine (rfails_b 1 _).mono ?_
        rintro e W1 ⟨rfl, hx1⟩
        have hR1 := hR.ext hx1
        have y0 := (hR1.cell 0).trans rfl
        have y1 := (hR1.cell 1).trans rfl
        have z0 := hR1.frozen 0
        have z1 := hR1.frozen 1
        go_wp2
        try simp only [Exit.inBlock, Exit.then]
        refine bodyPost_ret (results_cell2 rfl _ _ (w.heap.size + 2) 31 #[.int .i64 1, str []] (0, 0) _ rfl (HK.out W1 hx1).1 Try.underlying31 rfl (by kernel_rfl)) rfl ?_
        exact ⟨rfl, (HK.out W1 hx1).2⟩
  · have b1 : ¬ client < 0 := fun h => hbad (.inl h)
    have b2 : ¬ 4 ≤ client := fun h => hbad (.inr (.inl h))
    have b3 : (seq == 0) = false := by simp; exact fun h => hbad (.inr (.inr h))
    have HA : Hid (ask s client seq = match kept S.done seq with | some a => (a, true) | none => if stale seq S.high = true then (⟨14, []⟩, true) else (⟨0, []⟩, false)) := by unfold Hid; rw [HASK.out, if_neg hbad]
    show Calls Try.prog 13 _ w fun e w' => RetAsk (ask s client seq) w w' e
    have key : ∀ W1 (a b : Value), Ext (((w.alloc (.cells #[.int .u64 s.now, .int .u64 s.count, .slice Al s.links.length cl, .slice As s.sess.length cs'] 26)).alloc (.cells (ccells ⟨kind, client, seq, name, url, till⟩) 28)).alloc (.cells #[.int .i64 0, str []] 31)) W1 →
        Blk ((W1.setCell ⟨w.heap.size + 2, 0, none⟩ a).setCell ⟨w.heap.size + 2, 1, none⟩ b) (w.heap.size + 2) 31 #[a, b] ∧ Ext w ((W1.setCell ⟨w.heap.size + 2, 0, none⟩ a).setCell ⟨w.heap.size + 2, 1, none⟩ b) := fun W1 a b hx =>
      ⟨((hR.ext hx).set_ 0 _).set_ 1 _, (hx0.trans' hx).then_ (((Chg.refl [w.heap.size + 2] W1).set (by simp) _).set (by simp) _) (by simp)⟩
    have HK := hide key
    clear key hbad HASK
    have HSES := hide (fun W cs h => rsession_b s cs client W h ⟨c0, c1⟩)
    have hse := stE.ext hs hx0
    go_enter Try.func13, Try.ntmps13
    go_wp2_with fail
    refine (HSES.out _ _ hse).mono ?_
    rintro e W1 ⟨rfl, hx1⟩
    clear hse hs
    obtain ⟨i, is, hsat⟩ : ∃ i is, sat s.sess client = (i, is) := ⟨_, _, rfl⟩
    rw [hsat]
    cases is with
    | false =>
      have hS0 : S = ⟨client, 0, []⟩ := HS.out.symm.trans (sown_sat_no hsat)
      have HF : Hid (ask s client seq = (⟨0, []⟩, false)) := by
        unfold Hid
        rw [HA.out, hS0]
        simp [kept, stale]
      clear hS0 hsat
      have hR1 := hR.ext hx1
      have y0 := (hR1.cell 0).trans rfl
      have y1 := (hR1.cell 1).trans rfl
      have z0 := hR1.frozen 0
      have z1 := hR1.frozen 1
      go_wp2
      try simp only [Exit.inBlock, Exit.then]
      refine bodyPost_ret (results_cell2 rfl _ _ (w.heap.size + 2) 31 #[.int .i64 0, str []] (0, 0) _ rfl (HK.out _ _ _ hx1).1 Try.underlying31 rfl (by kernel_rfl)) rfl ?_
      rw [HF.out]
      exact ⟨rfl, (HK.out _ _ _ hx1).2⟩
    | true =>
      obtain ⟨x, hxi, hxc, hown⟩ := sown_sat_yes hsat
      obtain rfl : S = x := HS.out.symm.trans hown
      clear hsat hown
      have hil := (List.getElem?_eq_some_iff.1 hxi).1
      obtain ⟨ad, x', v, rfl, hxi', hbk, p0, p1, p2, r1, r2, r3⟩ := se_at (s4.ext (hx0.trans' hx1)) (k := i) hil
      obtain rfl : S = x' := Option.some.inj (hxi.symm.trans hxi'.out)
      clear hxi hxi' hxc
      obtain ⟨Av, cv', rfl, m1, m2⟩ := r3.form
      have hdl : S.done.length ≤ 9223372036854775807 := Nat.le_trans m1 m2
      clear m1 m2
      obtain ⟨g6, hg6⟩ : ∃ g, W1.heap.size = g := ⟨_, rfl⟩
      have hO := Blk.new W1 47 (secells S (.slice Av S.done.length cv')).toArray
      rw [hg6] at hO
      have hxo : Ext W1 (W1.alloc (.cells (secells S (.slice Av S.done.length cv')).toArray 47)) := (Ext.rfl' W1).alloc' _
      have hB1 := hB.ext hx1
      have b3 := (hB1.cell 3).trans rfl
      have hC1 := (hC.ext hx1).ext hxo
      have hR1 := (hR.ext hx1).ext hxo
      have r3' := r3.ext hxo
      have hx1' := hx1.trans' hxo
      have hiL : (i : Int) < s.sess.length := by omega
      go_wp2_with fail
      clear b3 hB1 p0 p1 p2 hiL
      go_loopw [9] (fun i wr => ∃ a : Nat, a ≤ S.done.length ∧ i = .int .i64 a ∧ Hid (∀ m x, m < a → S.done[m]? = some x → decide (x.seq = seq) = false) ∧ Ext (W1.alloc (.cells (secells S (.slice Av S.done.length cv')).toArray 47)) wr) (fun i _ => (S.done.length - intOf i).toNat)
      case atStart => exact ⟨0, Nat.zero_le _, rfl, hide fun m x h => by omega, Ext.rfl' _⟩
      case round =>
        obtain ⟨a, hal, rfl, hlo, hxr⟩ := hrel
        have hCr := hC1.ext hxr
        have hRr := hR1.ext hxr
        have hOr := hO.ext hxr
        have w2 := (hCr.cell 2).trans rfl
        have v2 := (hOr.cell 2).trans rfl
        have l1 := hCr.lt
        have l2 := hRr.lt
        have l3 := hOr.lt
        by_cases hlt : a < S.done.length
        · obtain ⟨ad, d, rfl, hd, hbk, p0, p1, p2, d1, d2, d3⟩ := dn_at (r3'.ext hxr) (k := a) hlt
          have y0 := (hRr.cell 0).trans rfl
          have y1 := (hRr.cell 1).trans rfl
          have z0 := hRr.frozen 0
          have z1 := hRr.frozen 1
          by_cases heq : d.seq = seq
          · have he2 : (d.seq == seq) = true := by simpa using heq
            have HF : Hid (ask s client seq = (d.an, true)) := by
              unfold Hid; rw [HA.out, kept_some a d hd.out heq hlo.out]
            go_wp2_with fail
            go_region
            go_wp2
            try simp only [Exit.inBlock, Exit.then]
            refine bodyPost_ret (results_cell2 rfl _ _ (w.heap.size + 2) 31 (acells d.an).toArray (0, 0) _ rfl (HK.out wr.drew _ _ (hx1'.trans' hxr.drew')).1 Try.underlying31 rfl (by kernel_rfl)) rfl ?_
            rw [HF.out]
            exact ⟨rfl, (HK.out wr.drew _ _ (hx1'.trans' hxr.drew')).2⟩
          · have he2 : (d.seq == seq) = false := by simpa using heq
            go_wp2_with fail
            go_region
            go_wp2
            go_roundw
            case rel =>
              refine ⟨a + 1, by omega, by first | rfl | go_num, hide fun m x hm hx => ?_, hxr.drew'⟩
              by_cases hma : m < a
              · exact hlo.out m x hma hx
              · obtain rfl : m = a := by omega
                rw [hd.out] at hx
                obtain rfl := Option.some.inj hx
                simpa using heq
            case measure => simp [intOf]; omega
        · obtain rfl : a = S.done.length := by omega
          have hkn := kept_none hlo.out
          have HF : Hid (ask s client seq = if stale seq S.high = true then (⟨14, []⟩, true) else (⟨0, []⟩, false)) := by
            unfold Hid; rw [HA.out, hkn]
          clear hkn
          have v1 := (hOr.cell 1).trans rfl
          go_wp2_with fail
          refine (rstale_b seq S.high _ ⟨q0, q1⟩ r2).mono ?_
          rintro e w' ⟨rfl, rfl⟩
          rcases Bool.eq_false_or_eq_true (stale seq S.high) with hst | hst
          · have HT := hide hst
            rw [HT.out]
            clear hst
            have hRx := hRr
            go_wp2_with fail
            refine (rfails_b 14 _).mono ?_
            rintro e W9 ⟨rfl, hx9⟩
            have hR9 := hRr.ext hx9
            have y0 := (hR9.cell 0).trans rfl
            have y1 := (hR9.cell 1).trans rfl
            have z0 := hR9.frozen 0
            have z1 := hR9.frozen 1
            go_wp2
            try simp only [Exit.inBlock, Exit.then]
            refine bodyPost_ret (results_cell2 rfl _ _ (w.heap.size + 2) 31 #[.int .i64 14, str []] (0, 0) _ rfl (HK.out _ _ _ ((hx1'.trans' hxr).trans' hx9)).1 Try.underlying31 rfl (by kernel_rfl)) rfl ?_
            rw [HF.out, if_pos HT.out]
            exact ⟨rfl, (HK.out _ _ _ ((hx1'.trans' hxr).trans' hx9)).2⟩
          · have HT := hide hst
            rw [HT.out]
            clear hst
            have y0 := (hRr.cell 0).trans rfl
            have y1 := (hRr.cell 1).trans rfl
            have z0 := hRr.frozen 0
            have z1 := hRr.frozen 1
            go_wp2
            try simp only [Exit.inBlock, Exit.then]
            refine bodyPost_ret (results_cell2 rfl _ _ (w.heap.size + 2) 31 #[.int .i64 0, str []] (0, 0) _ rfl (HK.out _ _ _ (hx1'.trans' hxr)).1 Try.underlying31 rfl (by kernel_rfl)) rfl ?_
            rw [HF.out, if_neg (by rw [HT.out]; simp)]
            exact ⟨rfl, (HK.out _ _ _ (hx1'.trans' hxr)).2⟩
end Go.Proofs.Ythlbnajecfjmdaa
