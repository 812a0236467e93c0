/- A part of the proof of 'MsgAll'. -/
import Derived.Test.YtlblgopfdadalaaM11
import Derived.Test.YtlblgopfdadalaaM4
import Derived.Test.YtlblgopfdadalaaM5
import Derived.Test.YtlblgopfdadalaaM8
import Derived.Deep.DeepCutAuto
import Derived.Deep.CutBlock
namespace Go.Proofs.Ytlblgopfdadalaa
set_option linter.unusedVariables false
set_option linter.unusedSimpArgs false
set_option linter.unnecessarySimpa false
set_option maxRecDepth 100000
open Go.RowKit
theorem two_lt {n a b : Nat} (h : a < n) (k : b < n) : ∀ i, i ∈ [a, b] → i < n := by
  intro i hi
  simp at hi
  rcases hi with rfl | rfl
  · exact h
  · exact k
set_option maxHeartbeats 3200000 in
theorem rtakeCmd_b (x : Value) (b : Bytes) (w : World) (hl : b.length ≤ 140737488350000) (hx : Bs w x b) :
    Calls Try.prog 36 #[x] w fun e w' => e = .returned (.tuple #[cv (ctake b).1, .int .i64 (ctake b).2]) ∧ Ext w w' := by
  obtain ⟨A, c, rfl, h1, h2, h3⟩ := id hx
  have a00 : Blk (w.alloc (.cells (ccells Cm.zero) 28)) w.heap.size 28 (ccells Cm.zero) := Blk.new w _ _
  by_cases hb : b = []
  · have hb2 : (b.length : Int) = 0 := by rw [hb]; rfl
    have HC : ctake b = (Cm.zero, 0) := if_pos hb
    rw [HC]
    clear hb HC
    go_enter Try.func36, Try.ntmps36
    go_wp2
    try simp only [Exit.inBlock, Exit.then]
    refine bodyPost_ret (results_cell2 rfl _ _ w.heap.size 28 (ccells Cm.zero) (0, 0) _ rfl a00 Try.underlying28 rfl (by kernel_rfl)) rfl ?_
    exact ⟨rfl, (Ext.rfl' w).alloc' _⟩
  have hb2 : ¬ (b.length : Int) = 0 := by
    intro h; exact hb (List.length_eq_zero_iff.1 (by omega))
  obtain ⟨K, s1, hA⟩ : ∃ K s1, pnum 1 (b, 0) = (K, s1) := ⟨_, _, rfl⟩
  obtain ⟨s2, hs2⟩ : ∃ s2, s2 = pform (decide (K = 0)) s1 := ⟨_, rfl⟩
  obtain ⟨C, s3, hB⟩ : ∃ C s3, pnum 1 s2 = (C, s3) := ⟨_, _, rfl⟩
  obtain ⟨Q, s4, hC⟩ : ∃ Q s4, pnum 8 s3 = (Q, s4) := ⟨_, _, rfl⟩
  obtain ⟨N, s5, hD⟩ : ∃ N s5, ptext s4 = (N, s5) := ⟨_, _, rfl⟩
  obtain ⟨U, s6, hE⟩ : ∃ U s6, ptext s5 = (U, s6) := ⟨_, _, rfl⟩
  obtain ⟨T, s7, hF⟩ : ∃ T s7, pnum 8 s6 = (T, s7) := ⟨_, _, rfl⟩
  obtain ⟨s8, hs8⟩ : ∃ s8, pform (decide (0 < s7.1.length)) s7 = s8 := ⟨_, rfl⟩
  have HC : Hid (ctake b = if s8.2 = 0 then (⟨K, C, Q, N, U, T⟩, 0) else (Cm.zero, s8.2)) := by
    unfold Hid ctake pall; rw [if_neg hb]; simp only [hA, ← hs2, hB, hC, hD, hE, hF, hs8]
  have n1 := fun g W v h => rnum_b 82 g v (b, 0) 1 W h (by omega)
  have n2 := fun g W v h => rnum_b 82 g v s2 1 W h (by omega)
  have n3 := fun g W v h => rnum_b 82 g v s3 8 W h (by omega)
  have n4 := fun g W v h => rbytes_b 82 g v s4 W h
  have n5 := fun g W v h => rbytes_b 82 g v s5 W h
  have n6 := fun g W v h => rnum_b 82 g v s6 8 W h (by omega)
  have n7 := fun g W v h => rover_b 82 g v s7 W h
  have nf := fun g W v h => rfail_b 82 g v s1 W h
  have p1 := pnum_rng 1 (b, 0)
  have p2 := pnum_rng 1 s2
  rw [hA] at n1 p1
  rw [hB] at n2 p2
  rw [hC] at n3
  rw [hD] at n4
  rw [hE] at n5
  rw [hF] at n6
  rw [hs8] at n7
  have q1 : (256 : Int) ^ 1 = 256 := rfl
  rw [q1] at p1 p2
  simp only at p1 p2
  have w1' : IntKind.i64.wrap K = K := IntWalk.i64_in _ (by omega)
  have w2' : IntKind.i64.wrap C = C := IntWalk.i64_in _ (by omega)
  clear hA hB hC hD hE hF q1 hs8 hb
  replace n1 := hide n1; replace n2 := hide n2; replace n3 := hide n3; replace n4 := hide n4; replace n5 := hide n5; replace n6 := hide n6; replace n7 := hide n7; replace nf := hide nf
  have hrd : RdAt 82 ((w.alloc (.cells (ccells Cm.zero) 28)).alloc (.cells #[.slice A b.length c, .int .i64 0] 82)) (w.heap.size + 1) (.slice A b.length c) (b, 0) := by
    have hbs : (w.alloc (.cells (ccells Cm.zero) 28)).heap.size = w.heap.size + 1 := by simp
    refine ⟨?_, hx.ext (((Ext.rfl' w).alloc' _).alloc' _), hx.off (by simp), hl⟩
    have := Blk.new (w.alloc (.cells (ccells Cm.zero) 28)) 82 #[.slice A b.length c, .int .i64 0]
    rwa [hbs] at this
  have a01 := a00.alloc (.cells #[.slice A b.length c, .int .i64 0] 82)
  have hxw1 : Ext w ((w.alloc (.cells (ccells Cm.zero) 28)).alloc (.cells #[.slice A b.length c, .int .i64 0] 82)) := ((Ext.rfl' w).alloc' _).alloc' _
  go_enter Try.func36, Try.ntmps36
  go_wp2_with fail
  obtain ⟨w1, hw1⟩ : ∃ w1, w1 = ((w.alloc (.cells (ccells Cm.zero) 28)).alloc (.cells #[.slice A b.length c, .int .i64 0] 82)) := ⟨_, rfl⟩
  obtain ⟨g, hg⟩ : ∃ g, g = w.heap.size + 1 := ⟨_, rfl⟩
  refine (n1.out (w.heap.size + 1) _ _ hrd).mono ?_
  rintro e W1 ⟨rfl, r1⟩
  replace r1 : RdTo 82 w1 W1 g (.slice A b.length c) s1 := by rw [hw1, hg]; exact r1
  rw [← hw1] at a01 hxw1 hrd
  rw [← hg] at hrd
  rw [← hg]
  clear hw1
  have hgw : w.heap.size < g := by omega
  clear hg
  obtain ⟨v1, ra1, rc1, ro1⟩ := r1
  have hgc : w1.heap.size ≤ W1.heap.size := rc1.size
  have hgl := ra1.blk.lt
  have hne : g ≠ W1.heap.size := by omega
  have hB0 := Blk.new W1 28 (ccells ⟨K, 0, 0, [], [], 0⟩)
  have a1 : AllAt 82 w1 (W1.alloc (.cells (ccells ⟨K, 0, 0, [], [], 0⟩) 28)) g W1.heap.size v1 s1 (ccells ⟨K, 0, 0, [], [], 0⟩) :=
    ⟨ra1.ext ((Ext.rfl' W1).alloc' _), ra1.bs.off (by simp), hB0, rc1.alloc _⟩
  have a02 : Blk (W1.alloc (.cells (ccells ⟨K, 0, 0, [], [], 0⟩) 28)) w.heap.size 28 (ccells Cm.zero) := (a01.chg rc1 (by simp; omega)).alloc _
  obtain ⟨gc, hgc'⟩ : ∃ gc, W1.heap.size = gc := ⟨_, rfl⟩
  rw [hgc'] at a1 hne hgc
  have hgr : w.heap.size < gc := by have := a01.lt; omega
  by_cases hk : K = 0
  · subst hk
    rw [decide_eq_true rfl] at hs2
    subst hs2
    go_wp2_with fail
    refine (nf.out g _ v1 a1.rd).mono ?_
    rintro e W2 ⟨rfl, r2⟩
    have a03 := a02.chg r2.choose_spec.2.1 (by simp; omega)
    obtain ⟨v2, a2⟩ := a1.num hne r2
    go_wp2_with fail
    refine (n2.out g _ v2 a2.rd).mono ?_
    rintro e W3 ⟨rfl, r3⟩
    have a04 := a03.chg r3.choose_spec.2.1 (by simp; omega)
    obtain ⟨v3, a3⟩ := a2.num hne r3
    go_wp2_with fail
    refine (n3.out g _ v3 a3.rd).mono ?_
    rintro e W4 ⟨rfl, r4⟩
    have a05 := a04.chg r4.choose_spec.2.1 (by simp; omega)
    obtain ⟨v4, a3'⟩ := a3.num hne r4
    have z1 := a3'.bl.frozen 1
    have z2 := a3'.bl.frozen 2
    have hc1 : W4.cell? ⟨gc, 1, none⟩ = some (.int .i64 0) := (a3'.bl.cell 1).trans rfl
    have hc2 : W4.cell? ⟨gc, 2, none⟩ = some (.int .u64 0) := (a3'.bl.cell 2).trans rfl
    have a4 : AllAt 82 w1 ((W4.setCell ⟨gc, 1, none⟩ (.int .i64 C)).setCell ⟨gc, 2, none⟩ (.int .u64 Q)) g gc v4 s4 (ccells ⟨0, C, Q, [], [], 0⟩) := (a3'.set hne hgc 1 (.int .i64 C)).set hne hgc 2 (.int .u64 Q)
    have hS : Chg [g, gc] W4 ((W4.setCell ⟨gc, 1, none⟩ (.int .i64 C)).setCell ⟨gc, 2, none⟩ (.int .u64 Q)) := ((Chg.refl _ _).set (by simp) _).set (by simp) _
    have a06 := a05.chg hS (by simp; omega)
    go_wp2
    clear hS
    have hRes : ∀ W, RC 82 w1 g gc (fun _ => s6) (fun _ => ccells ⟨0, C, Q, N, U, 0⟩) 4 W → Blk W w.heap.size 28 (ccells Cm.zero) := by
      rintro W ⟨v, h⟩
      have h0 := a01.chg h.cg (by simp; omega)
      exact h0
    refine Rg.regionW Try.checked.mixed 49 10 (by kernel_rfl) [
      (false, (fun x_ _ => x_ = .pointer (some ⟨g, 0, none⟩))),
      (true, (fun v W => Bs W v N ∧ Off v [g, gc])),
      (false, (fun x_ _ => x_ = str N)),
      (false, (fun x_ _ => x_ = .pointer (some ⟨g, 0, none⟩))),
      (true, (fun v W => Bs W v U ∧ Off v [g, gc])),
      (false, (fun x_ _ => x_ = str U)),
      (false, (fun x_ _ => x_ = .pointer (some ⟨gc, 3, none⟩))),
      (true, (fun x_ _ => x_ = undef)),
      (false, (fun x_ _ => x_ = .pointer (some ⟨gc, 4, none⟩))),
      (true, (fun x_ _ => x_ = undef))] (by kernel_rfl) ((RC 82 w1 g gc (fun i => match i with | 0 => s4 | 1 => s5 | _ => s6) (fun i => match i with | 3 => ccells ⟨0, C, Q, N, [], 0⟩ | 4 => ccells ⟨0, C, Q, N, U, 0⟩ | _ => ccells ⟨0, C, Q, [], [], 0⟩))) (Chg [g, gc]) rfl rfl rfl
      ?st ⟨v4, a4.drew⟩ ?ob ?en
    case st => exact ⟨fun _ _ _ h _ => h, fun _ _ _ ⟨h, o⟩ hx => ⟨h.chg hx o, o⟩, fun _ _ _ h _ => h, fun _ _ _ h _ => h, fun _ _ _ ⟨h, o⟩ hx => ⟨h.chg hx o, o⟩, fun _ _ _ h _ => h, fun _ _ _ h _ => h, fun _ _ _ h _ => h, fun _ _ _ h _ => h, fun _ _ _ h _ => h, trivial⟩
    case ob =>
      refine ⟨fun i => Rg.at_runW [4] rfl ?_, ?_⟩
      · intro ρ W hR ⟨q4, _⟩
        replace q4 : ρ 4 = .pointer (some ⟨g, 0, none⟩) := q4
        refine ⟨rfl, ?_⟩
        exact Rg.run_ok (v := .pointer (some ⟨g, 0, none⟩)) (by simp [execOp, Rg.ev, go_sem, q4]) ⟨rfl, hR, Chg.refl _ _⟩
      refine ⟨Rg.at_runW [29] rfl ?_, ?_⟩
      · intro ρ W hR ⟨q29, _⟩
        replace q29 : ρ 29 = .pointer (some ⟨g, 0, none⟩) := q29
        refine ⟨rfl, ?_⟩
        obtain ⟨v5, h5⟩ := hR
        refine Rg.run_enter (by simp [execOp, Rg.ev, go_sem, q29]; exact ⟨⟨rfl, rfl⟩, rfl⟩) ?_
        refine (n4.out g W v5 h5.rd).mono ?_
        rintro e W2 ⟨m, Am, cm, hm, rfl, hz, v6, ra, rc, ro⟩
        have hm' := hm.out
        subst hm'
        exact ⟨_, rfl, ⟨hz.bs, hz.off (two_lt h5.rd.blk.lt h5.bl.lt)⟩, h5.num hne ⟨v6, ra, rc, ro⟩, rc.mono (by simp)⟩
      refine ⟨fun i => Rg.at_runW [30] rfl ?_, ?_⟩
      · intro ρ W hR ⟨q30, _⟩
        replace q30 : (fun v W => Bs W v N ∧ Off v [g, gc]) (ρ 30) W := q30
        refine ⟨rfl, ?_⟩
        have hs := run_str (P := Try.prog) q30.1 Try.underlying24 Try.underlying5 Try.underlying9
        exact Rg.run_ok (v := str N) (by simp only [execOp, Rg.ev, Sem.run_bind, Sem.run_pure, Result.andThen_ok, hs]) ⟨rfl, hR, Chg.refl _ _⟩
      refine ⟨fun i => Rg.at_runW [4] rfl ?_, ?_⟩
      · intro ρ W hR ⟨q4, _⟩
        replace q4 : ρ 4 = .pointer (some ⟨g, 0, none⟩) := q4
        refine ⟨rfl, ?_⟩
        exact Rg.run_ok (v := .pointer (some ⟨g, 0, none⟩)) (by simp [execOp, Rg.ev, go_sem, q4]) ⟨rfl, hR, Chg.refl _ _⟩
      refine ⟨Rg.at_runW [32] rfl ?_, ?_⟩
      · intro ρ W hR ⟨q32, _⟩
        replace q32 : ρ 32 = .pointer (some ⟨g, 0, none⟩) := q32
        refine ⟨rfl, ?_⟩
        obtain ⟨v5, h5⟩ := hR
        refine Rg.run_enter (by simp [execOp, Rg.ev, go_sem, q32]; exact ⟨⟨rfl, rfl⟩, rfl⟩) ?_
        refine (n5.out g W v5 h5.rd).mono ?_
        rintro e W2 ⟨m, Am, cm, hm, rfl, hz, v6, ra, rc, ro⟩
        have hm' := hm.out
        subst hm'
        exact ⟨_, rfl, ⟨hz.bs, hz.off (two_lt h5.rd.blk.lt h5.bl.lt)⟩, h5.num hne ⟨v6, ra, rc, ro⟩, rc.mono (by simp)⟩
      refine ⟨fun i => Rg.at_runW [33] rfl ?_, ?_⟩
      · intro ρ W hR ⟨q33, _⟩
        replace q33 : (fun v W => Bs W v U ∧ Off v [g, gc]) (ρ 33) W := q33
        refine ⟨rfl, ?_⟩
        have hs := run_str (P := Try.prog) q33.1 Try.underlying24 Try.underlying5 Try.underlying9
        exact Rg.run_ok (v := str U) (by simp only [execOp, Rg.ev, Sem.run_bind, Sem.run_pure, Result.andThen_ok, hs]) ⟨rfl, hR, Chg.refl _ _⟩
      refine ⟨fun i => Rg.at_runW [5] rfl ?_, ?_⟩
      · intro ρ W hR ⟨q5, _⟩
        replace q5 : ρ 5 = .pointer (some ⟨gc, 0, none⟩) := q5
        refine ⟨rfl, ?_⟩
        exact Rg.run_ok (v := .pointer (some ⟨gc, 3, none⟩)) (by simp [execOp, Rg.ev, go_sem, q5]) ⟨rfl, hR, Chg.refl _ _⟩
      refine ⟨Rg.at_runW [35, 31] rfl ?_, ?_⟩
      · intro ρ W hR ⟨q35, q31, _⟩
        replace q35 : ρ 35 = .pointer (some ⟨gc, 3, none⟩) := q35
        replace q31 : ρ 31 = str N := q31
        refine ⟨rfl, ?_⟩
        obtain ⟨v5, h5⟩ := hR
        have z := h5.bl.frozen 3
        have hc : W.cell? ⟨gc, 3, none⟩ = some (str []) := (h5.bl.cell 3).trans rfl
        exact Rg.run_skip (W' := W.setCell ⟨gc, 3, none⟩ (str N)) (by simp [execOp, Rg.ev, go_sem, q35, q31, z, hc]) ⟨rfl, ⟨v5, h5.set hne hgc 3 (str N)⟩, (Chg.refl _ _).set (by simp) _⟩
      refine ⟨fun i => Rg.at_runW [5] rfl ?_, ?_⟩
      · intro ρ W hR ⟨q5, _⟩
        replace q5 : ρ 5 = .pointer (some ⟨gc, 0, none⟩) := q5
        refine ⟨rfl, ?_⟩
        exact Rg.run_ok (v := .pointer (some ⟨gc, 4, none⟩)) (by simp [execOp, Rg.ev, go_sem, q5]) ⟨rfl, hR, Chg.refl _ _⟩
      refine ⟨Rg.at_runW [36, 34] rfl ?_, ?_⟩
      · intro ρ W hR ⟨q36, q34, _⟩
        replace q36 : ρ 36 = .pointer (some ⟨gc, 4, none⟩) := q36
        replace q34 : ρ 34 = str U := q34
        refine ⟨rfl, ?_⟩
        obtain ⟨v5, h5⟩ := hR
        have z := h5.bl.frozen 4
        have hc : W.cell? ⟨gc, 4, none⟩ = some (str []) := (h5.bl.cell 4).trans rfl
        exact Rg.run_skip (W' := W.setCell ⟨gc, 4, none⟩ (str U)) (by simp [execOp, Rg.ev, go_sem, q36, q34, z, hc]) ⟨rfl, ⟨v5, h5.set hne hgc 4 (str U)⟩, (Chg.refl _ _).set (by simp) _⟩
      trivial
    case en =>
      intro tm W hR hsz hk
      rw [Rg.fin_eq (ds := [29, 30, 31, 32, 33, 34, 35, 36]) rfl rfl rfl hsz hk]
      have k29 : tm.getD 29 undef = .pointer (some ⟨g, 0, none⟩) := hk 29
      have k30 : (fun v W => Bs W v N ∧ Off v [g, gc]) (tm.getD 30 undef) W := hk 30
      have k31 : tm.getD 31 undef = str N := hk 31
      have k32 : tm.getD 32 undef = .pointer (some ⟨g, 0, none⟩) := hk 32
      have k33 : (fun v W => Bs W v U ∧ Off v [g, gc]) (tm.getD 33 undef) W := hk 33
      have k34 : tm.getD 34 undef = str U := hk 34
      have k35 : tm.getD 35 undef = .pointer (some ⟨gc, 3, none⟩) := hk 35
      have k36 : tm.getD 36 undef = .pointer (some ⟨gc, 4, none⟩) := hk 36
      clear hk hsz
      simp only [Rg.putAll, List.setIfInBounds_toArray, List.set_cons_zero, List.set_cons_succ, k29, k31, k32, k34, k35, k36]
      clear k29
      generalize tm.getD 30 undef = u30 at *
      clear k31
      clear k32
      generalize tm.getD 33 undef = u33 at *
      clear k34
      clear k35
      clear k36
      refine Rg.nil_list ?_
      obtain ⟨v6, a6⟩ := hR
      have a07 := hRes _ ⟨v6, a6⟩
      replace a6 : AllAt 82 w1 W g gc v6 s6 (ccells ⟨0, C, Q, N, U, 0⟩) := a6
      clear hRes
      go_wp2_with fail
      refine (n6.out g _ v6 a6.rd).mono ?_
      rintro e W7 ⟨rfl, r7⟩
      have a08 := a07.chg r7.choose_spec.2.1 (by simp; omega)
      obtain ⟨v7, a7⟩ := a6.num hne r7
      have z5 := a7.bl.frozen 5
      have hc5 : W7.cell? ⟨gc, 5, none⟩ = some (.int .u64 0) := (a7.bl.cell 5).trans rfl
      have a8 : AllAt 82 w1 (W7.setCell ⟨gc, 5, none⟩ (.int .u64 T)) g gc v7 s7 (ccells ⟨0, C, Q, N, U, T⟩) := a7.set hne hgc 5 (.int .u64 T)
      have a09 : Blk (W7.setCell ⟨gc, 5, none⟩ (.int .u64 T)) w.heap.size 28 (ccells Cm.zero) := a08.chg ((Chg.refl [gc] _).set (by simp) _) (by simp; omega)
      go_wp2_with fail
      refine (n7.out g _ v7 a8.rd).mono ?_
      rintro e W9 ⟨rfl, r9⟩
      have a10 := a09.chg r9.choose_spec.2.1 (by simp; omega)
      obtain ⟨v9, a9⟩ := a8.num hne r9
      have x0 := (a9.bl.cell 0).trans rfl
      have x1 := (a9.bl.cell 1).trans rfl
      have x2 := (a9.bl.cell 2).trans rfl
      have x3 := (a9.bl.cell 3).trans rfl
      have x4 := (a9.bl.cell 4).trans rfl
      have x5 := (a9.bl.cell 5).trans rfl
      have xr0 := (a10.cell 0).trans rfl
      have xr1 := (a10.cell 1).trans rfl
      have xr2 := (a10.cell 2).trans rfl
      have xr3 := (a10.cell 3).trans rfl
      have xr4 := (a10.cell 4).trans rfl
      have xr5 := (a10.cell 5).trans rfl
      have zz0 := a10.frozen 0
      have zz1 := a10.frozen 1
      have zz2 := a10.frozen 2
      have zz3 := a10.frozen 3
      have zz4 := a10.frozen 4
      have zz5 := a10.frozen 5
      have hxe : Ext w W9 := hxw1.then_ a9.cg (by simp; omega)
      obtain ⟨b8, e8⟩ := s8
      by_cases he : e8 = 0
      · subst he
        go_wp2
        try simp only [Exit.inBlock, Exit.then]
        refine bodyPost_ret (results_cell2 rfl _ _ w.heap.size 28 (ccells ⟨0, C, Q, N, U, T⟩) (0, 0) _ rfl (a10.six (c := ⟨0, C, Q, N, U, T⟩)) Try.underlying28 rfl (by kernel_rfl)) rfl ?_
        rw [show ctake b = (⟨0, C, Q, N, U, T⟩, 0) from by first | exact HC.out.trans (if_pos rfl) | exact HC.out.trans (if_pos trivial)]
        exact ⟨rfl, hxe.then_ ((Chg.refl [w.heap.size] _).six (by simp) _ _ _ _ _ _) (by simp)⟩
      · have he2 : (e8 != 0) = true := by simpa using he
        have y1 : W9.cell? ⟨g, 1, none⟩ = some (.int .i64 e8) := (a9.rd.blk.cell 1).trans rfl
        go_wp2
        go_region
        go_wp2
        try simp only [Exit.inBlock, Exit.then]
        refine bodyPost_ret (results_cell2 rfl _ _ w.heap.size 28 #[.int .i64 0, .int .i64 0, .int .u64 0, .string ⟨#[]⟩, .string ⟨#[]⟩, .int .u64 0] (0, 0) _ rfl (a10.six0 (.int .i64 0) (.int .i64 0) (.int .u64 0) (.string ⟨#[]⟩) (.string ⟨#[]⟩) (.int .u64 0)).drew Try.underlying28 rfl (by kernel_rfl)) rfl ?_
        rw [HC.out.trans (if_neg he)]
        exact ⟨rfl, hxe.then_ ((Chg.refl [w.heap.size] _).six (by simp) (.int .i64 0) (.int .i64 0) (.int .u64 0) (.string ⟨#[]⟩) (.string ⟨#[]⟩) (.int .u64 0)).drew (by simp)⟩
  · rw [decide_eq_false hk, pform_no] at hs2
    subst hs2
    have a03 := a02
    obtain ⟨v2, a2⟩ : ∃ v2, AllAt 82 w1 (W1.alloc (.cells (ccells ⟨K, 0, 0, [], [], 0⟩) 28)) g gc v2 s2 (ccells ⟨K, 0, 0, [], [], 0⟩) := ⟨v1, a1⟩
    go_wp2_with fail
    refine (n2.out g _ v2 a2.rd).mono ?_
    rintro e W3 ⟨rfl, r3⟩
    have a04 := a03.chg r3.choose_spec.2.1 (by simp; omega)
    obtain ⟨v3, a3⟩ := a2.num hne r3
    go_wp2_with fail
    refine (n3.out g _ v3 a3.rd).mono ?_
    rintro e W4 ⟨rfl, r4⟩
    have a05 := a04.chg r4.choose_spec.2.1 (by simp; omega)
    obtain ⟨v4, a3'⟩ := a3.num hne r4
    have z1 := a3'.bl.frozen 1
    have z2 := a3'.bl.frozen 2
    have hc1 : W4.cell? ⟨gc, 1, none⟩ = some (.int .i64 0) := (a3'.bl.cell 1).trans rfl
    have hc2 : W4.cell? ⟨gc, 2, none⟩ = some (.int .u64 0) := (a3'.bl.cell 2).trans rfl
    have a4 : AllAt 82 w1 ((W4.setCell ⟨gc, 1, none⟩ (.int .i64 C)).setCell ⟨gc, 2, none⟩ (.int .u64 Q)) g gc v4 s4 (ccells ⟨K, C, Q, [], [], 0⟩) := (a3'.set hne hgc 1 (.int .i64 C)).set hne hgc 2 (.int .u64 Q)
    have hS : Chg [g, gc] W4 ((W4.setCell ⟨gc, 1, none⟩ (.int .i64 C)).setCell ⟨gc, 2, none⟩ (.int .u64 Q)) := ((Chg.refl _ _).set (by simp) _).set (by simp) _
    have a06 := a05.chg hS (by simp; omega)
    go_wp2
    clear hS
    have hRes : ∀ W, RC 82 w1 g gc (fun _ => s6) (fun _ => ccells ⟨K, C, Q, N, U, 0⟩) 4 W → Blk W w.heap.size 28 (ccells Cm.zero) := by
      rintro W ⟨v, h⟩
      have h0 := a01.chg h.cg (by simp; omega)
      exact h0
    refine Rg.regionW Try.checked.mixed 49 10 (by kernel_rfl) [
      (false, (fun x_ _ => x_ = .pointer (some ⟨g, 0, none⟩))),
      (true, (fun v W => Bs W v N ∧ Off v [g, gc])),
      (false, (fun x_ _ => x_ = str N)),
      (false, (fun x_ _ => x_ = .pointer (some ⟨g, 0, none⟩))),
      (true, (fun v W => Bs W v U ∧ Off v [g, gc])),
      (false, (fun x_ _ => x_ = str U)),
      (false, (fun x_ _ => x_ = .pointer (some ⟨gc, 3, none⟩))),
      (true, (fun x_ _ => x_ = undef)),
      (false, (fun x_ _ => x_ = .pointer (some ⟨gc, 4, none⟩))),
      (true, (fun x_ _ => x_ = undef))] (by kernel_rfl) ((RC 82 w1 g gc (fun i => match i with | 0 => s4 | 1 => s5 | _ => s6) (fun i => match i with | 3 => ccells ⟨K, C, Q, N, [], 0⟩ | 4 => ccells ⟨K, C, Q, N, U, 0⟩ | _ => ccells ⟨K, C, Q, [], [], 0⟩))) (Chg [g, gc]) rfl rfl rfl
      ?st ⟨v4, a4.drew⟩ ?ob ?en
    case st => exact ⟨fun _ _ _ h _ => h, fun _ _ _ ⟨h, o⟩ hx => ⟨h.chg hx o, o⟩, fun _ _ _ h _ => h, fun _ _ _ h _ => h, fun _ _ _ ⟨h, o⟩ hx => ⟨h.chg hx o, o⟩, fun _ _ _ h _ => h, fun _ _ _ h _ => h, fun _ _ _ h _ => h, fun _ _ _ h _ => h, fun _ _ _ h _ => h, trivial⟩
    case ob =>
      refine ⟨fun i => Rg.at_runW [4] rfl ?_, ?_⟩
      · intro ρ W hR ⟨q4, _⟩
        replace q4 : ρ 4 = .pointer (some ⟨g, 0, none⟩) := q4
        refine ⟨rfl, ?_⟩
        exact Rg.run_ok (v := .pointer (some ⟨g, 0, none⟩)) (by simp [execOp, Rg.ev, go_sem, q4]) ⟨rfl, hR, Chg.refl _ _⟩
      refine ⟨Rg.at_runW [29] rfl ?_, ?_⟩
      · intro ρ W hR ⟨q29, _⟩
        replace q29 : ρ 29 = .pointer (some ⟨g, 0, none⟩) := q29
        refine ⟨rfl, ?_⟩
        obtain ⟨v5, h5⟩ := hR
        refine Rg.run_enter (by simp [execOp, Rg.ev, go_sem, q29]; exact ⟨⟨rfl, rfl⟩, rfl⟩) ?_
        refine (n4.out g W v5 h5.rd).mono ?_
        rintro e W2 ⟨m, Am, cm, hm, rfl, hz, v6, ra, rc, ro⟩
        have hm' := hm.out
        subst hm'
        exact ⟨_, rfl, ⟨hz.bs, hz.off (two_lt h5.rd.blk.lt h5.bl.lt)⟩, h5.num hne ⟨v6, ra, rc, ro⟩, rc.mono (by simp)⟩
      refine ⟨fun i => Rg.at_runW [30] rfl ?_, ?_⟩
      · intro ρ W hR ⟨q30, _⟩
        replace q30 : (fun v W => Bs W v N ∧ Off v [g, gc]) (ρ 30) W := q30
        refine ⟨rfl, ?_⟩
        have hs := run_str (P := Try.prog) q30.1 Try.underlying24 Try.underlying5 Try.underlying9
        exact Rg.run_ok (v := str N) (by simp only [execOp, Rg.ev, Sem.run_bind, Sem.run_pure, Result.andThen_ok, hs]) ⟨rfl, hR, Chg.refl _ _⟩
      refine ⟨fun i => Rg.at_runW [4] rfl ?_, ?_⟩
      · intro ρ W hR ⟨q4, _⟩
        replace q4 : ρ 4 = .pointer (some ⟨g, 0, none⟩) := q4
        refine ⟨rfl, ?_⟩
        exact Rg.run_ok (v := .pointer (some ⟨g, 0, none⟩)) (by simp [execOp, Rg.ev, go_sem, q4]) ⟨rfl, hR, Chg.refl _ _⟩
      refine ⟨Rg.at_runW [32] rfl ?_, ?_⟩
      · intro ρ W hR ⟨q32, _⟩
        replace q32 : ρ 32 = .pointer (some ⟨g, 0, none⟩) := q32
        refine ⟨rfl, ?_⟩
        obtain ⟨v5, h5⟩ := hR
        refine Rg.run_enter (by simp [execOp, Rg.ev, go_sem, q32]; exact ⟨⟨rfl, rfl⟩, rfl⟩) ?_
        refine (n5.out g W v5 h5.rd).mono ?_
        rintro e W2 ⟨m, Am, cm, hm, rfl, hz, v6, ra, rc, ro⟩
        have hm' := hm.out
        subst hm'
        exact ⟨_, rfl, ⟨hz.bs, hz.off (two_lt h5.rd.blk.lt h5.bl.lt)⟩, h5.num hne ⟨v6, ra, rc, ro⟩, rc.mono (by simp)⟩
      refine ⟨fun i => Rg.at_runW [33] rfl ?_, ?_⟩
      · intro ρ W hR ⟨q33, _⟩
        replace q33 : (fun v W => Bs W v U ∧ Off v [g, gc]) (ρ 33) W := q33
        refine ⟨rfl, ?_⟩
        have hs := run_str (P := Try.prog) q33.1 Try.underlying24 Try.underlying5 Try.underlying9
        exact Rg.run_ok (v := str U) (by simp only [execOp, Rg.ev, Sem.run_bind, Sem.run_pure, Result.andThen_ok, hs]) ⟨rfl, hR, Chg.refl _ _⟩
      refine ⟨fun i => Rg.at_runW [5] rfl ?_, ?_⟩
      · intro ρ W hR ⟨q5, _⟩
        replace q5 : ρ 5 = .pointer (some ⟨gc, 0, none⟩) := q5
        refine ⟨rfl, ?_⟩
        exact Rg.run_ok (v := .pointer (some ⟨gc, 3, none⟩)) (by simp [execOp, Rg.ev, go_sem, q5]) ⟨rfl, hR, Chg.refl _ _⟩
      refine ⟨Rg.at_runW [35, 31] rfl ?_, ?_⟩
      · intro ρ W hR ⟨q35, q31, _⟩
        replace q35 : ρ 35 = .pointer (some ⟨gc, 3, none⟩) := q35
        replace q31 : ρ 31 = str N := q31
        refine ⟨rfl, ?_⟩
        obtain ⟨v5, h5⟩ := hR
        have z := h5.bl.frozen 3
        have hc : W.cell? ⟨gc, 3, none⟩ = some (str []) := (h5.bl.cell 3).trans rfl
        exact Rg.run_skip (W' := W.setCell ⟨gc, 3, none⟩ (str N)) (by simp [execOp, Rg.ev, go_sem, q35, q31, z, hc]) ⟨rfl, ⟨v5, h5.set hne hgc 3 (str N)⟩, (Chg.refl _ _).set (by simp) _⟩
      refine ⟨fun i => Rg.at_runW [5] rfl ?_, ?_⟩
      · intro ρ W hR ⟨q5, _⟩
        replace q5 : ρ 5 = .pointer (some ⟨gc, 0, none⟩) := q5
        refine ⟨rfl, ?_⟩
        exact Rg.run_ok (v := .pointer (some ⟨gc, 4, none⟩)) (by simp [execOp, Rg.ev, go_sem, q5]) ⟨rfl, hR, Chg.refl _ _⟩
      refine ⟨Rg.at_runW [36, 34] rfl ?_, ?_⟩
      · intro ρ W hR ⟨q36, q34, _⟩
        replace q36 : ρ 36 = .pointer (some ⟨gc, 4, none⟩) := q36
        replace q34 : ρ 34 = str U := q34
        refine ⟨rfl, ?_⟩
        obtain ⟨v5, h5⟩ := hR
        have z := h5.bl.frozen 4
        have hc : W.cell? ⟨gc, 4, none⟩ = some (str []) := (h5.bl.cell 4).trans rfl
        exact Rg.run_skip (W' := W.setCell ⟨gc, 4, none⟩ (str U)) (by simp [execOp, Rg.ev, go_sem, q36, q34, z, hc]) ⟨rfl, ⟨v5, h5.set hne hgc 4 (str U)⟩, (Chg.refl _ _).set (by simp) _⟩
      trivial
    case en =>
      intro tm W hR hsz hk
      rw [Rg.fin_eq (ds := [29, 30, 31, 32, 33, 34, 35, 36]) rfl rfl rfl hsz hk]
      have k29 : tm.getD 29 undef = .pointer (some ⟨g, 0, none⟩) := hk 29
      have k30 : (fun v W => Bs W v N ∧ Off v [g, gc]) (tm.getD 30 undef) W := hk 30
      have k31 : tm.getD 31 undef = str N := hk 31
      have k32 : tm.getD 32 undef = .pointer (some ⟨g, 0, none⟩) := hk 32
      have k33 : (fun v W => Bs W v U ∧ Off v [g, gc]) (tm.getD 33 undef) W := hk 33
      have k34 : tm.getD 34 undef = str U := hk 34
      have k35 : tm.getD 35 undef = .pointer (some ⟨gc, 3, none⟩) := hk 35
      have k36 : tm.getD 36 undef = .pointer (some ⟨gc, 4, none⟩) := hk 36
      clear hk hsz
      simp only [Rg.putAll, List.setIfInBounds_toArray, List.set_cons_zero, List.set_cons_succ, k29, k31, k32, k34, k35, k36]
      clear k29
      generalize tm.getD 30 undef = u30 at *
      clear k31
      clear k32
      generalize tm.getD 33 undef = u33 at *
      clear k34
      clear k35
      clear k36
      refine Rg.nil_list ?_
      obtain ⟨v6, a6⟩ := hR
      have a07 := hRes _ ⟨v6, a6⟩
      replace a6 : AllAt 82 w1 W g gc v6 s6 (ccells ⟨K, C, Q, N, U, 0⟩) := a6
      clear hRes
      go_wp2_with fail
      refine (n6.out g _ v6 a6.rd).mono ?_
      rintro e W7 ⟨rfl, r7⟩
      have a08 := a07.chg r7.choose_spec.2.1 (by simp; omega)
      obtain ⟨v7, a7⟩ := a6.num hne r7
      have z5 := a7.bl.frozen 5
      have hc5 : W7.cell? ⟨gc, 5, none⟩ = some (.int .u64 0) := (a7.bl.cell 5).trans rfl
      have a8 : AllAt 82 w1 (W7.setCell ⟨gc, 5, none⟩ (.int .u64 T)) g gc v7 s7 (ccells ⟨K, C, Q, N, U, T⟩) := a7.set hne hgc 5 (.int .u64 T)
      have a09 : Blk (W7.setCell ⟨gc, 5, none⟩ (.int .u64 T)) w.heap.size 28 (ccells Cm.zero) := a08.chg ((Chg.refl [gc] _).set (by simp) _) (by simp; omega)
      go_wp2_with fail
      refine (n7.out g _ v7 a8.rd).mono ?_
      rintro e W9 ⟨rfl, r9⟩
      have a10 := a09.chg r9.choose_spec.2.1 (by simp; omega)
      obtain ⟨v9, a9⟩ := a8.num hne r9
      have x0 := (a9.bl.cell 0).trans rfl
      have x1 := (a9.bl.cell 1).trans rfl
      have x2 := (a9.bl.cell 2).trans rfl
      have x3 := (a9.bl.cell 3).trans rfl
      have x4 := (a9.bl.cell 4).trans rfl
      have x5 := (a9.bl.cell 5).trans rfl
      have xr0 := (a10.cell 0).trans rfl
      have xr1 := (a10.cell 1).trans rfl
      have xr2 := (a10.cell 2).trans rfl
      have xr3 := (a10.cell 3).trans rfl
      have xr4 := (a10.cell 4).trans rfl
      have xr5 := (a10.cell 5).trans rfl
      have zz0 := a10.frozen 0
      have zz1 := a10.frozen 1
      have zz2 := a10.frozen 2
      have zz3 := a10.frozen 3
      have zz4 := a10.frozen 4
      have zz5 := a10.frozen 5
      have hxe : Ext w W9 := hxw1.then_ a9.cg (by simp; omega)
      obtain ⟨b8, e8⟩ := s8
      by_cases he : e8 = 0
      · subst he
        go_wp2
        try simp only [Exit.inBlock, Exit.then]
        refine bodyPost_ret (results_cell2 rfl _ _ w.heap.size 28 (ccells ⟨K, C, Q, N, U, T⟩) (0, 0) _ rfl (a10.six (c := ⟨K, C, Q, N, U, T⟩)) Try.underlying28 rfl (by kernel_rfl)) rfl ?_
        rw [show ctake b = (⟨K, C, Q, N, U, T⟩, 0) from by first | exact HC.out.trans (if_pos rfl) | exact HC.out.trans (if_pos trivial)]
        exact ⟨rfl, hxe.then_ ((Chg.refl [w.heap.size] _).six (by simp) _ _ _ _ _ _) (by simp)⟩
      · have he2 : (e8 != 0) = true := by simpa using he
        have y1 : W9.cell? ⟨g, 1, none⟩ = some (.int .i64 e8) := (a9.rd.blk.cell 1).trans rfl
        go_wp2
        go_region
        go_wp2
        try simp only [Exit.inBlock, Exit.then]
        refine bodyPost_ret (results_cell2 rfl _ _ w.heap.size 28 #[.int .i64 0, .int .i64 0, .int .u64 0, .string ⟨#[]⟩, .string ⟨#[]⟩, .int .u64 0] (0, 0) _ rfl (a10.six0 (.int .i64 0) (.int .i64 0) (.int .u64 0) (.string ⟨#[]⟩) (.string ⟨#[]⟩) (.int .u64 0)).drew Try.underlying28 rfl (by kernel_rfl)) rfl ?_
        rw [HC.out.trans (if_neg he)]
        exact ⟨rfl, hxe.then_ ((Chg.refl [w.heap.size] _).six (by simp) (.int .i64 0) (.int .i64 0) (.int .u64 0) (.string ⟨#[]⟩) (.string ⟨#[]⟩) (.int .u64 0)).drew (by simp)⟩
set_option maxHeartbeats 3200000 in
theorem rputCmd_b (c : Cm) (h : c.ok) (hn : c.name.length ≤ 1000) (hu : c.url.length ≤ 1000) (w : World) :
    Calls Try.prog 44 #[cv c] w fun e w' => RetBs w w' e (cput c) := by
  obtain ⟨kind, client, seq, name, url, till⟩ := c
  obtain ⟨k0, k1, c0, c1, s0, s1, -, -, t0, t1⟩ := h
  simp only at k0 k1 c0 c1 s0 s1 t0 t1 hn hu
  by_cases hk : kind = 0
  · subst hk
    go_enter Try.func44, Try.ntmps44
    go_wp2
    go_ret
    exact ⟨[], none, 0, hide rfl, rfl, Bs.nil _, (Ext.rfl' w).alloc' _⟩
  · obtain ⟨x, rfl⟩ := u8_of kind k0 k1
    obtain ⟨y, rfl⟩ := u8_of client c0 c1
    have e1 := wrap8 x
    have e2 := wrap8 y
    have hk2 : ¬ (x.toNat : Int) = 0 := hk
    clear k0 k1 c0 c1
    have HC : Hid (cput ⟨x.toNat, y.toNat, seq, name, url, till⟩ = cbytes ⟨x.toNat, y.toNat, seq, name, url, till⟩) := by unfold Hid cput; exact if_neg hk
    clear hk
    go_enter Try.func44, Try.ntmps44
    obtain ⟨gb, hgb⟩ : ∃ gb, gb = w.heap.size := ⟨_, rfl⟩
    go_wp2_with fail
    rw [← hgb]
    have hB := Bs.lit (w := w.alloc (.cells (ccells ⟨x.toNat, y.toNat, seq, name, url, till⟩) 28)) 5 [x, y] (gb + 1) (by simp [hgb]) (by simp [maxLen]) (0, 0)
    refine (rput_b _ [x, y] seq 8 _ (by omega) (by omega) (by simp) hB).mono ?_
    rintro e W1 ⟨m1, A1, cc1, hm1, rfl, hz1n, hx1⟩
    have hz1 := hz1n.bs
    subst hgb
    have hL : Blk W1 w.heap.size 28 (ccells ⟨x.toNat, y.toNat, seq, name, url, till⟩) := ((Blk.new w _ _).alloc _).ext hx1
    have hxw : Ext w W1 := (((Ext.rfl' w).alloc' _).alloc' _).trans' hx1
    have hlm : m1.length ≤ 10 := by rw [hm1.out]; simp [oput, be_length]
    clear hx1 hB hz1n
    have x3 := (hL.cell 3).trans rfl
    obtain ⟨Ac, cc, W2, hrun, hbs, hx2⟩ := conv_bytes W1 name (by omega)
    go_wp2_with fail
    refine (rputBytes_b _ _ m1 name _ (by omega) (hz1.ext hx2) hbs).mono ?_
    rintro e W3 ⟨m3, A3, c3, hm3, rfl, hz3, hx3⟩
    have hL3 := (hL.ext hx2).ext hx3
    have hl3 : m3.length ≤ 1014 := by rw [hm3.out, oputBytes_length]; omega
    have x4 := (hL3.cell 4).trans rfl
    obtain ⟨Ac4, cc4, W4, hrun4, hbs4, hx4⟩ := conv_bytes W3 url (by omega)
    go_wp2_with fail
    refine (rputBytes_b _ _ m3 url _ (by omega) (hz3.bs.ext hx4) hbs4).mono ?_
    rintro e W5 ⟨m5, A5, c5, hm5, rfl, hz5, hx5⟩
    have hL5 := (hL3.ext hx4).ext hx5
    have hl5 : m5.length ≤ 2018 := by rw [hm5.out, oputBytes_length]; omega
    have x5 := (hL5.cell 5).trans rfl
    go_wp2_with fail
    refine (rput_b _ m5 till 8 _ (by omega) (by omega) (by omega) hz5.bs).mono ?_
    rintro e W6 ⟨m6, A6, c6, hm6, rfl, hz6, hx6⟩
    go_wp2
    go_ret
    rw [HC.out, ← cbytes_eq x y seq name url till m1 hm1.out, ← hm3.out, ← hm5.out]
    exact ⟨m6, A6, c6, hm6, rfl, hz6.bs, hxw.trans' (hx2.trans' (hx3.trans' (hx4.trans' (hx5.trans' hx6))))⟩
end Go.Proofs.Ytlblgopfdadalaa
namespace Go.Proofs.Ytlblgopfdadalaa
set_option linter.unusedVariables false
set_option linter.unusedSimpArgs false
set_option linter.unnecessarySimpa false
set_option maxRecDepth 100000
open Go.RowKit
abbrev mgE : Enc Mg := Enc.map (.pair .i64 (.pair .i64 (.pair .i64 (.pair .u64 (.pair .u64 (.pair .u64 (.pair (.slice enE) (.pair .u64 (.pair .u64 (.pair .bool (.pair snE (.pair cmE (.pair anE .unit)))))))))))))
  fun m => (m.kind, m.fro, m.too, m.term, m.index, m.logTerm, m.ents, m.commit, m.round, m.ok, m.snap, m.cmd, m.an, ())
open Enc in
theorem mgE_opens : Opens 33 mgE :=
  (opens_struct Try.underlying33 (by kernel_rfl) (.cons rfl (by kernel_rfl) (opens_int Try.underlying3 wf_i64) (.cons rfl (by kernel_rfl) (opens_int Try.underlying3 wf_i64) (.cons rfl (by kernel_rfl) (opens_int Try.underlying3 wf_i64)
    (.cons rfl (by kernel_rfl) (opens_int Try.underlying22 wf_u64) (.cons rfl (by kernel_rfl) (opens_int Try.underlying22 wf_u64) (.cons rfl (by kernel_rfl) (opens_int Try.underlying22 wf_u64)
    (.cons rfl (by kernel_rfl) (opens_slice Try.underlying23 (by kernel_rfl) (by decide) enE_opens) (.cons rfl (by kernel_rfl) (opens_int Try.underlying22 wf_u64) (.cons rfl (by kernel_rfl) (opens_int Try.underlying22 wf_u64)
    (.cons rfl (by kernel_rfl) (opens_bool Try.underlying4) (.cons rfl (by kernel_rfl) snE_opens (.cons rfl (by kernel_rfl) cmE_opens (.cons rfl (by kernel_rfl) anE_opens (.nil _))))))))))))))).map _ fun ⟨a, b, c, d, e, f, g, h, i, j, k, l, m, _⟩ => ⟨⟨a, b, c, d, e, f, g, h, i, j, k, l, m⟩, rfl⟩
abbrev mgcells (m : Mg) (ve vs : Value) : List Value := [.int .i64 m.kind, .int .i64 m.fro, .int .i64 m.too, .int .u64 m.term, .int .u64 m.index, .int .u64 m.logTerm, ve, .int .u64 m.commit, .int .u64 m.round, .bool m.ok,
  .int .u64 m.snap.index, .int .u64 m.snap.term, vs, .int .i64 m.cmd.kind, .int .i64 m.cmd.client, .int .u64 m.cmd.seq, str m.cmd.name, str m.cmd.url, .int .u64 m.cmd.till, .int .i64 m.an.err, str m.an.text]
structure Mg.wide (m : Mg) : Prop where
  kind : I64 m.kind
  fro : I64 m.fro
  too : I64 m.too
  term : U64 m.term
  index : U64 m.index
  logTerm : U64 m.logTerm
  commit : U64 m.commit
  round : U64 m.round
  si : U64 m.snap.index
  st : U64 m.snap.term
  cmd : m.cmd.wide
  err : I64 m.an.err
  text : m.an.text.length ≤ maxLen
theorem cmE_list {w : World} {X : Avoid} {cs : List Value} {c : Cm} : cmE.rep w X cs c ↔ cs = (ccells c).toList ∧ c.wide := by
  constructor
  · intro h
    have := cmE_rep (cs := cs.toArray) (by simpa using h)
    exact ⟨by rw [← this.1], this.2⟩
  · rintro ⟨rfl, ⟨k0, k1, c0, c1, s0, s1, n1, u1, t0, t1⟩⟩
    exact ⟨[_], [_, _, _, _, _], rfl, ⟨rfl, k0, k1⟩, [_], [_, _, _, _], rfl, ⟨rfl, c0, c1⟩, [_], [_, _, _], rfl, ⟨rfl, s0, s1⟩, [_], [_, _], rfl, ⟨rfl, n1⟩, [_], [_], rfl, ⟨rfl, u1⟩, [_], [], rfl, ⟨rfl, t0, t1⟩, rfl⟩
theorem mg_rep {w : World} {X : Avoid} {cs : List Value} {m : Mg} : mgE.rep w X cs m ↔ ∃ ve vs, cs = mgcells m ve vs ∧ m.wide ∧ Enc.Sl enE w X ve m.ents ∧ Enc.BsX w X vs m.snap.state := by
  constructor
  · rintro ⟨_, _, rfl, ⟨rfl, h1⟩, _, _, rfl, ⟨rfl, h2⟩, _, _, rfl, ⟨rfl, h3⟩, _, _, rfl, ⟨rfl, h4⟩, _, _, rfl, ⟨rfl, h5⟩, _, _, rfl, ⟨rfl, h6⟩, _, _, rfl, ⟨ve, rfl, h7⟩, _, _, rfl, ⟨rfl, h8⟩, _, _, rfl, ⟨rfl, h9⟩, _, _, rfl, h10, c21, c22, rfl, h11, c23, c24, rfl, h12, c25, c26, rfl, h13, rfl⟩
    obtain ⟨vs, rfl, a1, a2, a3⟩ := sn_rep.1 h11
    obtain ⟨rfl, b1⟩ := cmE_list.1 h12
    obtain ⟨rfl, d1, d2⟩ := an_rep.1 h13
    obtain rfl : _ = _ := h10
    exact ⟨ve, vs, rfl, ⟨h1, h2, h3, h4, h5, h6, h8, h9, a1, a2, b1, d1, d2⟩, h7, a3⟩
  · rintro ⟨ve, vs, rfl, ⟨h1, h2, h3, h4, h5, h6, h8, h9, a1, a2, b1, d1, d2⟩, h7, a3⟩
    exact ⟨[_], _, rfl, ⟨rfl, h1⟩, [_], _, rfl, ⟨rfl, h2⟩, [_], _, rfl, ⟨rfl, h3⟩, [_], _, rfl, ⟨rfl, h4⟩, [_], _, rfl, ⟨rfl, h5⟩, [_], _, rfl, ⟨rfl, h6⟩, [_], _, rfl, ⟨ve, rfl, h7⟩, [_], _, rfl, ⟨rfl, h8⟩, [_], _, rfl, ⟨rfl, h9⟩, [_], _, rfl, rfl,
      [_, _, _], _, rfl, sn_rep.2 ⟨vs, rfl, a1, a2, a3⟩, (ccells m.cmd).toList, _, rfl, cmE_list.2 ⟨rfl, b1⟩, [_, _], [], rfl, an_rep.2 ⟨rfl, d1, d2⟩, rfl⟩
end Go.Proofs.Ytlblgopfdadalaa
