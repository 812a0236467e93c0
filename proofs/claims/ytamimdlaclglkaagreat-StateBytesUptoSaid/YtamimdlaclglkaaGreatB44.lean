/- A part of the proof of 'StateBytes'. -/
import Derived.Test.YtamimdlaclglkaaGreatB43
import Derived.Test.YtamimdlaclglkaaGreatB39
import Derived.Test.YtamimdlaclglkaaGreatB30
namespace Go.Proofs.YtamimdlaclglkaaGreat
set_option linter.unusedVariables false
set_option linter.unusedSimpArgs false
set_option linter.unnecessarySimpa false
set_option maxRecDepth 100000
open Go.RowKit
theorem ltL_iff (x y : Ln) : ltL x y ↔ Op.bytesLess x.name y.name = true := by
  unfold ltL leB
  rw [Bool.or_eq_false_iff]
  constructor
  · rintro ⟨h1, h2⟩
    rcases bl_tri x.name y.name with h | h | h
    · exact h
    · simp [h] at h2
    · rw [h] at h1; cases h1
  · intro h
    constructor
    · cases h1 : Op.bytesLess y.name x.name with
      | false => rfl
      | true =>
        have h2 := bl_trans h h1
        rw [bl_irr] at h2
        cases h2
    · rw [beq_eq_false_iff_ne]
      intro h1
      rw [h1, bl_irr] at h
      cases h
theorem risesB_adj {α : Type} (lt : α → α → Bool) : ∀ l : List α, risesB lt l = true ↔ Adj (fun a b => lt a b = true) l
  | [] => by
    refine ⟨fun _ i x y hx hy => by simp at hx, fun _ => rfl⟩
  | [a] => by
    refine ⟨fun _ i x y hx hy => by simp at hy, fun _ => rfl⟩
  | a :: b :: l => by
    unfold risesB
    rw [Bool.and_eq_true, risesB_adj lt (b :: l)]
    constructor
    · rintro ⟨h1, h2⟩ i x y hx hy
      cases i with
      | zero =>
        simp only [List.getElem?_cons_zero, Nat.zero_add, List.getElem?_cons_succ, Option.some.injEq] at hx hy
        subst hx hy
        exact h1
      | succ i => exact h2 i x y (by simpa using hx) (by simpa using hy)
    · intro h
      exact ⟨h 0 a b rfl rfl, fun i x y hx hy => h (i + 1) x y (by simpa using hx) (by simpa using hy)⟩
theorem standsB_ordd (s : St) : standsB s = true ↔ Ordd s := by
  have e1 : (fun a b : Ln => Op.bytesLess a.name b.name = true) = ltL := funext fun a => funext fun b => propext (ltL_iff a b).symm
  unfold standsB Ordd
  rw [Bool.and_eq_true, Bool.and_eq_true, risesB_adj, risesB_adj, e1, List.all_eq_true, and_assoc]
  refine and_congr Iff.rfl (and_congr ?_ ?_)
  · simp only [decide_eq_true_eq]
  · constructor
    · intro h i x hx
      have h1 := h x (List.mem_of_getElem? hx)
      rw [risesB_adj] at h1
      simpa only [decide_eq_true_eq] using h1
    · intro h x hx
      obtain ⟨i, hi⟩ := List.mem_iff_getElem?.1 hx
      rw [risesB_adj]
      simpa only [decide_eq_true_eq] using h i x hi
set_option maxHeartbeats 6400000 in
theorem rttake_b (x : Value) (b : Bytes) (w : World) (hbl : b.length ≤ 140737488350000) (h : Bs w x b) :
    Calls Tryz.prog 18 #[x] w fun e w' => RetTk noneAt w w' e (ptake b) := by
  obtain ⟨s0, hs0⟩ : ∃ s0 : Rdr, s0 = (b, 0) := ⟨_, rfl⟩
  obtain ⟨⟨a, s1⟩, h1⟩ : ∃ r, pnum 8 s0 = r := ⟨_, rfl⟩
  obtain ⟨⟨c, s2⟩, h2⟩ : ∃ r, pnum 8 s1 = r := ⟨_, rfl⟩
  obtain ⟨⟨L, s4⟩, h4⟩ : ∃ r, ptimes plink (pnum 2 s2).1.toNat (pnum 2 s2).2 = r := ⟨_, rfl⟩
  obtain ⟨⟨Y, s6⟩, h6⟩ : ∃ r, ptimes psess (pnum 2 s4).1.toNat (pnum 2 s4).2 = r := ⟨_, rfl⟩
  have HP : Hid (pstate b = (⟨a, c, L, Y⟩, s6)) := hide (by unfold pstate; rw [← hs0]; simp only [h1, h2, h4, h6])
  have ha := pnum_u64 s0
  rw [h1] at ha
  have hc := pnum_u64 s1
  rw [h2] at hc
  have C1 := hide (fun (W : World) v g (h : RdAt 82 W g v s0) => rnum_b 82 g v s0 8 W h (by decide))
  have C2 := hide (fun (W : World) v g (h : RdAt 82 W g v s1) => rnum_b 82 g v s1 8 W h (by decide))
  have C3 := hide (fun (W : World) v g (h : RdAt 82 W g v s2) => rtlinks_b g v s2 W h)
  have C4 := hide (fun (W : World) v g (h : RdAt 82 W g v s4) => rtsess_b g v s4 W h)
  rw [h1] at C1
  rw [h2] at C2
  rw [h4] at C3
  rw [h6] at C4
  simp only at ha hc C1 C2 C3 C4
  clear h1 h2 h4 h6
  have hz1 : Ext w (w.alloc (.cells #[.int .u64 0, .int .u64 0, .slice none 0 0, .slice none 0 0] 28)) := (Ext.rfl' _).alloc' _
  have hR0 := Blk.new w 28 #[.int .u64 0, .int .u64 0, .slice none 0 0, .slice none 0 0]
  obtain ⟨gr, hgr⟩ : ∃ g_, w.heap.size = g_ := ⟨_, rfl⟩
  rw [hgr] at hR0
  obtain ⟨A, cap, hxv, -, -, -⟩ := id h
  subst hxv
  go_enter Tryz.func18, Tryz.ntmps18
  go_upto_region 2 with fail
  try rw [hgr]
  obtain ⟨w1, hw1⟩ : ∃ w1, w1 = w.alloc (.cells #[.int .u64 0, .int .u64 0, .slice none 0 0, .slice none 0 0] 28) := ⟨_, rfl⟩
  rw [← hw1] at hz1 hR0 ⊢
  have hz2 : Ext w1 (w1.alloc (.cells #[.slice A b.length cap, .int .i64 0] 82)) := (Ext.rfl' _).alloc' _
  have hB0 := Blk.new w1 82 #[.slice A b.length cap, .int .i64 0]
  have hgz : w1.heap.size = gr + 1 := by rw [hw1, ← hgr]; simp
  obtain ⟨g, hg⟩ : ∃ g_, gr + 1 = g_ := ⟨_, rfl⟩
  rw [hgz] at hB0
  rw [hg] at hB0 hgz ⊢
  clear hw1
  obtain ⟨x, hx⟩ : ∃ x, Value.slice A b.length cap = x := ⟨_, rfl⟩
  have hbs := h.ext (hz1.trans' hz2)
  have hofx : Off x [g] := by
    rw [← hx]
    exact h.off_new (fun k hk => by rw [List.mem_singleton.1 hk]; have := hz1.size; omega)
  rw [hx] at hbs hB0 hz2 ⊢
  obtain ⟨W0, hW0⟩ : ∃ W0, W0 = w1.alloc (.cells #[x, .int .i64 0] 82) := ⟨_, rfl⟩
  rw [← hW0] at hbs hB0 hz2 ⊢
  clear hW0
  have h0 : RdAt 82 W0 g x s0 := ⟨by rw [hs0]; exact hB0, by rw [hs0]; exact hbs, hofx, by rw [hs0]; exact hbl⟩
  have hR := hR0.ext hz2
  have hox : ∀ S, (∀ k, k ∈ S → w.heap.size ≤ k) → Off x S := fun S hS => by rw [← hx]; exact h.off_new hS
  clear hB0 hbs hx h hofx hR0
  go_wp2_with fail
  refine (C1.out W0 x g h0).mono ?_
  rintro e W1 ⟨rfl, v1, h1, x1, o1⟩
  go_wp2_with fail
  refine (C2.out W1 v1 g h1).mono ?_
  rintro e W2 ⟨rfl, v2, h2, x2, o2⟩
  obtain ⟨gs, hgs⟩ : ∃ g_, W2.heap.size = g_ := ⟨_, rfl⟩
  have hS := Blk.new W2 28 #[.int .u64 a, .int .u64 c, .slice none 0 0, .slice none 0 0]
  rw [hgs] at hS
  have hz3 : Ext W2 (W2.alloc (.cells #[.int .u64 a, .int .u64 c, .slice none 0 0, .slice none 0 0] 28)) := (Ext.rfl' _).alloc' _
  go_upto_region 3 with fail
  try rw [hgs]
  have hgW : g < gs := by rw [← hgs]; exact h2.blk.lt
  replace h2 := h2.ext hz3
  replace hR := (hR.chg (x1.trans x2) (by simp; omega)).ext hz3
  have y2 : Chg [g] W0 (W2.alloc (.cells #[.int .u64 a, .int .u64 c, .slice none 0 0, .slice none 0 0] 28)) := (x1.trans x2).trans (hz3.chg _)
  have p2 : ∀ S, Off x S → Off v2 S := fun S hS => o2 _ (o1 _ hS)
  clear hgs x1 x2 o1 o2 hz3 h1 h0
  have hxw3 : Ext w (W2.alloc (.cells #[.int .u64 a, .int .u64 c, .slice none 0 0, .slice none 0 0] 28)) := (hz1.trans' hz2).then_ y2 (fun k hk => by rw [List.mem_singleton.1 hk]; omega)
  generalize (W2.alloc (.cells #[.int .u64 a, .int .u64 c, .slice none 0 0, .slice none 0 0] 28)) = W3 at *
  have hgs3 := hS.lt
  have hgr3 := hR.lt
  clear y2
  go_wp2_with fail
  refine (C3.out W3 v2 g h2).mono ?_
  rintro e W4 ⟨l1, Al, cl, hl1, rfl, hownL, v4, h4, x4, o4⟩
  have hl1' := hl1.out
  subst hl1'
  clear hl1 h2
  replace hS := hS.chg x4 (by simp; omega)
  replace hR := hR.chg x4 (by simp; omega)
  have hxw4 := hxw3.then_ x4 (fun k hk => by rw [List.mem_singleton.1 hk]; omega)
  have hsl : Enc.Sl lnE W4 (fun j => j < W3.heap.size) (.slice Al l1.length cl) l1 := (hownL.flatL fun _ h => h).sl
  have s2_ := (hS.cell 2).trans rfl
  have f2_ := hS.frozen 2
  have p4 : ∀ S, Off x S → Off v4 S := fun S hS => o4 _ (p2 _ hS)
  have hwgs : w.heap.size ≤ gs := by omega
  go_upto_region 4 with fail
  have hc4 : Chg [gs] W4 (W4.setCell ⟨gs, 2, none⟩ (.slice Al l1.length cl)) := (Chg.refl _ _).set (by simp) _
  have hS5 : Blk (W4.setCell ⟨gs, 2, none⟩ (.slice Al l1.length cl)) gs 28 #[.int .u64 a, .int .u64 c, .slice Al l1.length cl, .slice none 0 0] := hS.set_ 2 _
  replace hR := hR.chg hc4 (by simp; omega)
  have hxw5 := hxw4.then_ hc4 (fun k hk => by rw [List.mem_singleton.1 hk]; omega)
  have h5 := h4.chg hc4 (by simp; omega) (p4 _ (hox _ (fun k hk => by rw [List.mem_singleton.1 hk]; omega)))
  replace hsl := hsl.chg hc4 (fun k hk _ => by rw [List.mem_singleton.1 hk]; exact hgs3)
  generalize (W4.setCell ⟨gs, 2, none⟩ (.slice Al l1.length cl)) = W5 at *
  clear s2_ f2_ hS hc4 hownL x4 o4 h4 hxw4 hxw3
  go_wp2_with fail
  refine (C4.out W5 v4 g h5).mono ?_
  rintro e W6 ⟨l2, Am, cm, hl2, rfl, hownS, v6, h6, x6, o6⟩
  have hl2' := hl2.out
  subst hl2'
  clear hl2 h5
  replace hS5 := hS5.chg x6 (by simp; omega)
  replace hR := hR.chg x6 (by simp; omega)
  have hxw6 := hxw5.then_ x6 (fun k hk => by rw [List.mem_singleton.1 hk]; omega)
  replace hsl := hsl.chg x6 (fun k hk _ => by rw [List.mem_singleton.1 hk]; omega)
  have hss0 := hownS.sl
  have p6 : ∀ S, Off x S → Off v6 S := fun S hS => o6 _ (p4 _ hS)
  have hst0 : stE.rep W6 (fun j => j = g) [.int .u64 a, .int .u64 c, .slice none 0 0, .slice Am l2.length cm] ⟨a, c, [], l2⟩ := st_rep.2 ⟨_, _, rfl, ha, hc, Enc.Sl.nil _ _ _, hss0⟩
  obtain ⟨vq1, vq2, hq, -, -, -, hss⟩ := st_rep.1 (st_apartS (st_apartS hst0 hS5 (nos4' _ _ _ _ _ _ _ _)) hR nos4)
  simp only [stcells, List.cons.injEq, and_true, true_and] at hq
  obtain ⟨-, rfl⟩ := hq
  have s3_ := (hS5.cell 3).trans rfl
  have f3_ := hS5.frozen 3
  clear hst0 hss0 hownS
  go_upto_region 5 with fail
  have hc6 : Chg [gs] W6 (W6.setCell ⟨gs, 3, none⟩ (.slice Am l2.length cm)) := (Chg.refl _ _).set (by simp) _
  have hS7 : Blk (W6.setCell ⟨gs, 3, none⟩ (.slice Am l2.length cm)) gs 28 #[.int .u64 a, .int .u64 c, .slice Al l1.length cl, .slice Am l2.length cm] := hS5.set_ 3 _
  replace hR := hR.chg hc6 (by simp; omega)
  have hxw7 := hxw6.then_ hc6 (fun k hk => by rw [List.mem_singleton.1 hk]; omega)
  have h7 := h6.chg hc6 (by simp; omega) (p6 _ (hox _ (fun k hk => by rw [List.mem_singleton.1 hk]; omega)))
  replace hsl := hsl.chg hc6 (fun k hk _ => by rw [List.mem_singleton.1 hk]; exact hgs3)
  replace hss := hss.chg hc6 (fun k hk _ => .inl (.inr (List.mem_singleton.1 hk)))
  generalize (W6.setCell ⟨gs, 3, none⟩ (.slice Am l2.length cm)) = W7 at *
  clear s3_ f3_ hS5 hc6 x6 o6 h6 hxw6 hxw5
  have C5 := hide (rover_b 82 g v6 s6 W7 h7)
  obtain ⟨rb, re⟩ := s6
  have hgr1 : ∀ k, k ∈ [gr] → w.heap.size ≤ k := fun k hk => by rw [List.mem_singleton.1 hk]; omega
  rcases Bool.eq_false_or_eq_true (re != 0) with he | he
  · have hne : re ≠ 0 := by simpa using he
    have HPT : Hid (ptake b = (St0, re)) := hide (by unfold ptake; rw [HP.out]; simp only; rw [if_pos hne])
    rw [pform_bad _ _ hne] at C5
    simp only at C5
    have he2 : (re == 0) = false := by simpa using hne
    clear hne
    go_wp2_with fail
    refine C5.out.mono ?_
    rintro e W8 ⟨rfl, v8, h8, x8, o8⟩
    have hR8 := hR.chg x8 (by simp; omega)
    have hxw8 := hxw7.then_ x8 (fun k hk => by rw [List.mem_singleton.1 hk]; omega)
    clear C5
    have g1 := (h8.blk.cell 1).trans rfl
    have y0 := (hR8.cell 0).trans rfl
    have y1 := (hR8.cell 1).trans rfl
    have y2 := (hR8.cell 2).trans rfl
    have y3 := (hR8.cell 3).trans rfl
    have z0 := hR8.frozen 0
    have z1 := hR8.frozen 1
    have z2 := hR8.frozen 2
    have z3 := hR8.frozen 3
    have hcr : Chg [gr] W8 _ := (Chg.refl [gr] W8).four (g := gr) (by simp) (.int .u64 0) (.int .u64 0) (.slice none 0 0) (.slice none 0 0)
    have hRf := Blk.four hR8 (.int .u64 0) (.int .u64 0) (.slice none 0 0) (.slice none 0 0)
    have g1' := ((h8.blk.chg hcr (by simp; omega)).cell 1).trans rfl
    go_upto_region 8 with fail
    go_region
    all_goals
      go_wp2_with fail
      try simp only [Exit.inBlock, Exit.then]
      refine bodyPost_ret (results_cell2 rfl _ _ gr 28 #[.int .u64 0, .int .u64 0, .slice none 0 0, .slice none 0 0] (0, 0) _ rfl hRf.drew Tryz.underlying28 rfl (by kernel_rfl)) rfl ?_
      exact ⟨St0, re, none, 0, none, 0, hide HPT.out.symm, rfl, st0_rep _ _, (hxw8.then_ hcr hgr1).drew'⟩
  · have HRE : Hid (re = 0) := hide (by simpa using he)
    have hre := HRE.out
    rw [hre] at C5 h7
    rcases Nat.eq_zero_or_pos rb.length with hz | hz
    · rw [decide_eq_false (by simp only; omega), pform_no] at C5
      simp only at C5
      clear hre
      go_wp2_with fail
      refine C5.out.mono ?_
      rintro e W8 ⟨rfl, v8, h8, x8, o8⟩
      have hR8 := hR.chg x8 (by simp; omega)
      have hS8 := hS7.chg x8 (by simp; omega)
      have hxw8 := hxw7.then_ x8 (fun k hk => by rw [List.mem_singleton.1 hk]; omega)
      have hsl8 := hsl.chg x8 (fun k hk _ => by rw [List.mem_singleton.1 hk]; omega)
      have hss8 := hss.chg x8 (fun k hk _ => .inl (.inl (List.mem_singleton.1 hk)))
      clear C5
      have HST := hide (ordered_b ⟨a, c, l1, l2⟩ _ W8 (st_rep.2 ⟨_, _, rfl, ha, hc, hsl8.mono (fun _ _ h => h.elim), hss8.mono (fun _ _ h => h.elim)⟩))
      have q0 := (hS8.cell 0).trans rfl
      have q1 := (hS8.cell 1).trans rfl
      have q2 := (hS8.cell 2).trans rfl
      have q3 := (hS8.cell 3).trans rfl
      go_wp2_with fail
      refine HST.out.mono ?_
      rintro e W9 ⟨bo, rfl, hx9, hbo⟩
      rw [← standsB_ordd] at hbo
      have hR9 := hR8.ext hx9
      have hS9 := hS8.ext hx9
      have hxw9 := hxw8.trans' hx9
      have hsl9 := hsl8.ext hx9
      have hss9 := hss8.ext hx9
      have h9 := h8.ext hx9
      clear q0 q1 q2 q3 HST
      cases bo with
      | false =>
        have hso : standsB ⟨a, c, l1, l2⟩ = false := by
          cases h : standsB ⟨a, c, l1, l2⟩ with
          | false => rfl
          | true => exact absurd (hbo.2 h) (by simp)
        have HPT : Hid (ptake b = (St0, 2)) := hide (by unfold ptake; rw [HP.out]; simp only; rw [if_neg (by simp [HRE.out]), if_pos (.inr hso)])
        have C6 := hide (rfail_b 82 g v8 (rb, 0) W9 h9)
        rw [pform_yes] at C6
        clear hbo hso
        go_wp2_with fail
        refine C6.out.mono ?_
        rintro e WA ⟨rfl, vA, hA, xA, oA⟩
        have hRA := hR9.chg xA (by simp; omega)
        have hxwA := hxw9.then_ xA (fun k hk => by rw [List.mem_singleton.1 hk]; omega)
        clear C6
        have g1 := (hA.blk.cell 1).trans rfl
        have y0 := (hRA.cell 0).trans rfl
        have y1 := (hRA.cell 1).trans rfl
        have y2 := (hRA.cell 2).trans rfl
        have y3 := (hRA.cell 3).trans rfl
        have z0 := hRA.frozen 0
        have z1 := hRA.frozen 1
        have z2 := hRA.frozen 2
        have z3 := hRA.frozen 3
        have hcr : Chg [gr] WA _ := (Chg.refl [gr] WA).four (g := gr) (by simp) (.int .u64 0) (.int .u64 0) (.slice none 0 0) (.slice none 0 0)
        have hRf := Blk.four hRA (.int .u64 0) (.int .u64 0) (.slice none 0 0) (.slice none 0 0)
        have g1' := ((hA.blk.chg hcr (by simp; omega)).cell 1).trans rfl
        go_upto_region 8 with fail
        go_region
        all_goals
          go_wp2_with fail
          try simp only [Exit.inBlock, Exit.then]
          refine bodyPost_ret (results_cell2 rfl _ _ gr 28 #[.int .u64 0, .int .u64 0, .slice none 0 0, .slice none 0 0] (0, 0) _ rfl hRf.drew Tryz.underlying28 rfl (by kernel_rfl)) rfl ?_
          exact ⟨St0, 2, none, 0, none, 0, hide HPT.out.symm, rfl, st0_rep _ _, (hxwA.then_ hcr hgr1).drew'⟩
      | true =>
        have HPT : Hid (ptake b = (⟨a, c, l1, l2⟩, 0)) := hide (by
          have h1 := hbo.1 rfl
          unfold ptake
          rw [HP.out]
          simp only
          rw [if_neg (by simp [HRE.out]), if_neg (by rw [h1]; simp; exact List.eq_nil_of_length_eq_zero hz)])
        have g1 := (h9.blk.cell 1).trans rfl
        have q0 := (hS9.cell 0).trans rfl
        have q1 := (hS9.cell 1).trans rfl
        have q2 := (hS9.cell 2).trans rfl
        have q3 := (hS9.cell 3).trans rfl
        have y0 := (hR9.cell 0).trans rfl
        have y1 := (hR9.cell 1).trans rfl
        have y2 := (hR9.cell 2).trans rfl
        have y3 := (hR9.cell 3).trans rfl
        have z0 := hR9.frozen 0
        have z1 := hR9.frozen 1
        have z2 := hR9.frozen 2
        have z3 := hR9.frozen 3
        have hcr : Chg [gr] W9 _ := (Chg.refl [gr] W9).four (g := gr) (by simp) (.int .u64 a) (.int .u64 c) (.slice Al l1.length cl) (.slice Am l2.length cm)
        have hRf := Blk.four hR9 (.int .u64 a) (.int .u64 c) (.slice Al l1.length cl) (.slice Am l2.length cm)
        have hs1 := (hsl9.chg hcr (fun k hk _ => by rw [List.mem_singleton.1 hk]; exact hgr3)).mono (Y := noneAt) (fun _ _ h => h.elim)
        have hs2 := (hss9.chg hcr (fun k hk _ => .inr (List.mem_singleton.1 hk))).mono (Y := noneAt) (fun _ _ h => h.elim)
        clear hbo
        go_wp2_with fail
        try simp only [Exit.inBlock, Exit.then]
        refine bodyPost_ret (results_cell2 rfl _ _ gr 28 #[.int .u64 a, .int .u64 c, .slice Al l1.length cl, .slice Am l2.length cm] (0, 0) _ rfl hRf Tryz.underlying28 rfl (by kernel_rfl)) rfl ?_
        exact ⟨⟨a, c, l1, l2⟩, 0, Al, cl, Am, cm, hide HPT.out.symm, rfl, st_rep.2 ⟨_, _, rfl, ha, hc, hs1, hs2⟩, hxw9.then_ hcr hgr1⟩
    · have HPT : Hid (ptake b = (St0, 2)) := hide (by unfold ptake; rw [HP.out]; simp only; rw [if_neg (by simp [HRE.out]), if_pos (.inl hz)])
      rw [decide_eq_true (by exact hz), pform_yes] at C5
      simp only at C5
      clear hre
      go_wp2_with fail
      refine C5.out.mono ?_
      rintro e W8 ⟨rfl, v8, h8, x8, o8⟩
      have hR8 := hR.chg x8 (by simp; omega)
      have hxw8 := hxw7.then_ x8 (fun k hk => by rw [List.mem_singleton.1 hk]; omega)
      clear C5
      have g1 := (h8.blk.cell 1).trans rfl
      have y0 := (hR8.cell 0).trans rfl
      have y1 := (hR8.cell 1).trans rfl
      have y2 := (hR8.cell 2).trans rfl
      have y3 := (hR8.cell 3).trans rfl
      have z0 := hR8.frozen 0
      have z1 := hR8.frozen 1
      have z2 := hR8.frozen 2
      have z3 := hR8.frozen 3
      have hcr : Chg [gr] W8 _ := (Chg.refl [gr] W8).four (g := gr) (by simp) (.int .u64 0) (.int .u64 0) (.slice none 0 0) (.slice none 0 0)
      have hRf := Blk.four hR8 (.int .u64 0) (.int .u64 0) (.slice none 0 0) (.slice none 0 0)
      have g1' := ((h8.blk.chg hcr (by simp; omega)).cell 1).trans rfl
      go_upto_region 8 with fail
      go_region
      all_goals
        go_wp2_with fail
        try simp only [Exit.inBlock, Exit.then]
        refine bodyPost_ret (results_cell2 rfl _ _ gr 28 #[.int .u64 0, .int .u64 0, .slice none 0 0, .slice none 0 0] (0, 0) _ rfl hRf.drew Tryz.underlying28 rfl (by kernel_rfl)) rfl ?_
        exact ⟨St0, 2, none, 0, none, 0, hide HPT.out.symm, rfl, st0_rep _ _, (hxw8.then_ hcr hgr1).drew'⟩
end Go.Proofs.YtamimdlaclglkaaGreat
