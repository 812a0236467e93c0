/- A part of the proof of 'MsgAll'. -/
import Derived.Test.YtlblgopfdadalaaM9
import Derived.Test.YtlblgopfdadalaaM8
namespace Go.Proofs.Ytlblgopfdadalaa
set_option linter.unusedVariables false
set_option linter.unusedSimpArgs false
set_option linter.unnecessarySimpa false
set_option maxRecDepth 100000
open Go.RowKit
theorem pnum_rng (n : Nat) (s : Rdr) : 0 ≤ (pnum n s).1 ∧ (pnum n s).1 < 256 ^ n := by
  unfold pnum
  split
  · split
    · exact ⟨Int.le_refl _, by show (0 : Int) < 256 ^ n; exact_mod_cast Nat.pow_pos (n := n) (by decide : 0 < 256)⟩
    · rename_i h
      have hlt := val_lt (s.1.take n)
      have hln : (s.1.take n).length = n := by simp; omega
      rw [hln] at hlt
      exact ⟨by simp, by show ((val (s.1.take n) : Nat) : Int) < 256 ^ n; exact_mod_cast hlt⟩
  · exact ⟨Int.le_refl _, by show (0 : Int) < 256 ^ n; exact_mod_cast Nat.pow_pos (n := n) (by decide : 0 < 256)⟩
/-- where a reader and what is read of it stand -/
structure AllAt (T : TypeId) (w0 W : World) (g gc : Nat) (v' : Value) (s : Rdr) (c : Array Value) : Prop where
  rd : RdAt T W g v' s
  of : Off v' [gc]
  bl : Blk W gc 28 c
  cg : Chg [g] w0 W
theorem AllAt.num {T : TypeId} {w0 W W2 : World} {g gc : Nat} {v' : Value} {s s2 : Rdr} {c : Array Value} (h : AllAt T w0 W g gc v' s c) (hne : g ≠ gc) (r : RdTo T W W2 g v' s2) : ∃ v'', AllAt T w0 W2 g gc v'' s2 c := by
  obtain ⟨v'', hr, hc, ho⟩ := r
  exact ⟨v'', hr, ho _ h.of, h.bl.chg hc (by simp; omega), h.cg.trans hc⟩
theorem AllAt.set {T : TypeId} {w0 W : World} {g gc : Nat} {v' : Value} {s : Rdr} {c : Array Value} (h : AllAt T w0 W g gc v' s c) (hne : g ≠ gc) (hgc : w0.heap.size ≤ gc) (i : Nat) (u : Value) :
    AllAt T w0 (W.setCell ⟨gc, i, none⟩ u) g gc v' s (c.setIfInBounds i u) :=
  ⟨h.rd.chg ((Chg.refl [gc] W).set (by simp) u) (by simp; omega) h.of, h.of, h.bl.set_ i u, h.cg.then_new ((Chg.refl [gc] W).set (by simp) u) (by simp; omega)⟩
theorem AllAt.err {T : TypeId} {w0 W : World} {g gc : Nat} {v' : Value} {b : Bytes} {e : Int} {c : Array Value} (h : AllAt T w0 W g gc v' (b, e) c) (hne : g ≠ gc) (k : Int) :
    AllAt T w0 (W.setCell ⟨g, 1, none⟩ (.int .i64 k)) g gc v' (b, k) c :=
  ⟨⟨h.rd.blk.set_ 1 _, h.rd.bs.chg ((Chg.refl [g] W).set (by simp) _) h.rd.off, h.rd.off, h.rd.len⟩, h.of, h.bl.chg ((Chg.refl [g] W).set (by simp) _) (by simp; omega), h.cg.set (by simp) _⟩
theorem AllAt.drew {T : TypeId} {w0 W : World} {g gc : Nat} {v' : Value} {s : Rdr} {c : Array Value} (h : AllAt T w0 W g gc v' s c) : AllAt T w0 W.drew g gc v' s c :=
  ⟨⟨h.rd.blk, h.rd.bs, h.rd.off, h.rd.len⟩, h.of, h.bl, h.cg.drew⟩
def RC (T : TypeId) (w0 : World) (g gc : Nat) (S : Nat → Rdr) (C : Nat → Array Value) (i : Nat) (W : World) : Prop := ∃ v', AllAt T w0 W g gc v' (S i) (C i)
set_option maxHeartbeats 3200000 in
theorem all_b (g : Nat) (v : Value) (s : Rdr) (w : World) (h : RdAt 157 w g v s) :
    Calls Try.prog 109 #[.pointer (some ⟨g, 0, none⟩)] w fun e w' => e = .returned (cv (pall s).1) ∧ ∃ v', RdAt 157 w' g v' (pall s).2 ∧ Chg [g] w w' := by
  have hgl := h.blk.lt
  have hne : g ≠ w.heap.size := by omega
  obtain ⟨K, s1, hA⟩ : ∃ K s1, pnum 1 s = (K, s1) := ⟨_, _, rfl⟩
  obtain ⟨s2, hs2⟩ : ∃ s2, s2 = pform (decide (K = 0)) s1 := ⟨_, rfl⟩
  obtain ⟨C, s3, hB⟩ : ∃ C s3, pnum 1 s2 = (C, s3) := ⟨_, _, rfl⟩
  obtain ⟨Q, s4, hC⟩ : ∃ Q s4, pnum 8 s3 = (Q, s4) := ⟨_, _, rfl⟩
  obtain ⟨N, s5, hD⟩ : ∃ N s5, ptext s4 = (N, s5) := ⟨_, _, rfl⟩
  obtain ⟨U, s6, hE⟩ : ∃ U s6, ptext s5 = (U, s6) := ⟨_, _, rfl⟩
  obtain ⟨T, s7, hF⟩ : ∃ T s7, pnum 8 s6 = (T, s7) := ⟨_, _, rfl⟩
  have HP : Hid (pall s = (⟨K, C, Q, N, U, T⟩, pform (decide (0 < s7.1.length)) s7)) := by
    unfold Hid pall; simp only [hA, ← hs2, hB, hC, hD, hE, hF]
  have n1 := fun W v h => num_b 157 g v s 1 W h (by omega)
  have n2 := fun W v h => num_b 157 g v s2 1 W h (by omega)
  have n3 := fun W v h => num_b 157 g v s3 8 W h (by omega)
  have n4 := fun W v h => text_b 157 g v s4 W h
  have n5 := fun W v h => text_b 157 g v s5 W h
  have n6 := fun W v h => num_b 157 g v s6 8 W h (by omega)
  have p1 := pnum_rng 1 s
  have p2 := pnum_rng 1 s2
  rw [hA] at n1 p1
  rw [hB] at n2 p2
  rw [hC] at n3
  rw [hD] at n4
  rw [hE] at n5
  rw [hF] at n6
  have q1 : (256 : Int) ^ 1 = 256 := rfl
  rw [q1] at p1 p2
  simp only at p1 p2
  have w1 : IntKind.i64.wrap K = K := IntWalk.i64_in _ (by omega)
  have w2 : IntKind.i64.wrap C = C := IntWalk.i64_in _ (by omega)
  clear hA hB hC hD hE hF q1
  replace n1 := hide n1; replace n2 := hide n2; replace n3 := hide n3; replace n4 := hide n4; replace n5 := hide n5; replace n6 := hide n6
  have a0 : AllAt 157 w (w.alloc (.cells (ccells Cm.zero) 28)) g w.heap.size v s (ccells Cm.zero) :=
    ⟨h.ext ((Ext.rfl' w).alloc' _), h.bs.off (by simp), Blk.new w _ _, ((Ext.rfl' w).alloc' _).chg [g]⟩
  obtain ⟨b1, e1⟩ := s1
  have hcase : (e1 = 0 ∧ K = 0 ∧ s2 = (b1, 2)) ∨ (e1 = 0 ∧ ¬ K = 0 ∧ s2 = (b1, 0)) ∨ (¬ e1 = 0 ∧ s2 = (b1, e1)) := by
    by_cases he : e1 = 0
    · subst he
      by_cases hk : K = 0
      · exact .inl ⟨rfl, hk, by rw [hs2, decide_eq_true hk, pform_yes]⟩
      · exact .inr (.inl ⟨rfl, hk, by rw [hs2, decide_eq_false hk, pform_no]⟩)
    · exact .inr (.inr ⟨he, by rw [hs2, pform_bad _ _ he]⟩)
  clear hs2
  go_enter Try.func109, Try.ntmps109
  go_wp2_with fail
  refine (n1.out _ v a0.rd).mono ?_
  rintro e W1 ⟨rfl, r1⟩
  obtain ⟨v1, a1⟩ := a0.num hne r1
  have z0 := a1.bl.frozen 0
  have hc0 : W1.cell? ⟨w.heap.size, 0, none⟩ = some (.int .i64 0) := (a1.bl.cell 0).trans rfl
  have a2 : AllAt 157 w (W1.setCell ⟨w.heap.size, 0, none⟩ (.int .i64 K)) g w.heap.size v1 (b1, e1) (ccells ⟨K, 0, 0, [], [], 0⟩) := a1.set hne (Nat.le_refl _) 0 (.int .i64 K)
  have ck : ∀ W2, W2 = W1.setCell ⟨w.heap.size, 0, none⟩ (.int .i64 K) → W2.cell? ⟨g, 1, none⟩ = some (.int .i64 e1) ∧ W2.frozen? ⟨g, 1, none⟩ = false := by
    rintro W2 rfl; exact ⟨(a2.rd.blk.cell 1).trans rfl, a2.rd.blk.frozen 1⟩
  have hg1 : W1.cell? ⟨g, 1, none⟩ = some (.int .i64 e1) := (a1.rd.blk.cell 1).trans rfl
  have hf1 := a1.rd.blk.frozen 1
  rcases hcase with ⟨rfl, rfl, rfl⟩ | ⟨rfl, hk, rfl⟩ | ⟨he, rfl⟩
  · skip
    go_wp2_with fail
    refine (n2.out _ v1 (a2.err hne 2).rd).mono ?_
    rintro e W3 ⟨rfl, r3⟩
    obtain ⟨v3, a3⟩ := AllAt.num (a2.err hne 2) hne r3
    have z1 := a3.bl.frozen 1
    have hc1 : W3.cell? ⟨w.heap.size, 1, none⟩ = some (.int .i64 0) := (a3.bl.cell 1).trans rfl
    have a4 : AllAt 157 w (W3.setCell ⟨w.heap.size, 1, none⟩ (.int .i64 C)) g w.heap.size v3 s3 (ccells ⟨0, C, 0, [], [], 0⟩) := a3.set hne (Nat.le_refl _) 1 (.int .i64 C)
    go_wp2_with fail
    refine (n3.out _ v3 a4.rd).mono ?_
    rintro e W4 ⟨rfl, r4⟩
    obtain ⟨v4, a5⟩ := a4.num hne r4
    have z2 := a5.bl.frozen 2
    have hc2 : W4.cell? ⟨w.heap.size, 2, none⟩ = some (.int .u64 0) := (a5.bl.cell 2).trans rfl
    replace a4 : AllAt 157 w (W4.setCell ⟨w.heap.size, 2, none⟩ (.int .u64 Q)) g w.heap.size v4 s4 (ccells ⟨0, C, Q, [], [], 0⟩) := a5.set hne (Nat.le_refl _) 2 (.int .u64 Q)
    go_wp2
    refine Rg.regionW Try.checked.mixed 70 12 (by kernel_rfl) [
      (false, (fun x_ _ => x_ = .pointer (some ⟨g, 0, none⟩))),
      (false, (fun x_ _ => x_ = .pointer (some ⟨g, 0, none⟩))),
      (false, (fun x_ _ => x_ = .pointer (some ⟨g, 0, none⟩))),
      (true, (fun x_ _ => x_ = str N)),
      (false, (fun x_ _ => x_ = .pointer (some ⟨g, 0, none⟩))),
      (false, (fun x_ _ => x_ = .pointer (some ⟨g, 0, none⟩))),
      (false, (fun x_ _ => x_ = .pointer (some ⟨g, 0, none⟩))),
      (true, (fun x_ _ => x_ = str U)),
      (false, (fun x_ _ => x_ = .pointer (some ⟨w.heap.size, 3, none⟩))),
      (true, (fun x_ _ => x_ = undef)),
      (false, (fun x_ _ => x_ = .pointer (some ⟨w.heap.size, 4, none⟩))),
      (true, (fun x_ _ => x_ = undef))] (by kernel_rfl) ((RC 157 w g w.heap.size (fun i => match i with | 0 => s4 | 1 => s5 | _ => s6) (fun i => match i with | 3 => ccells ⟨0, C, Q, N, [], 0⟩ | 4 => ccells ⟨0, C, Q, N, U, 0⟩ | _ => ccells ⟨0, C, Q, [], [], 0⟩))) (fun _ _ => True) rfl rfl rfl
      ?st ⟨v4, a4.drew⟩ ?ob ?en
    case st => exact ⟨fun _ _ _ h _ => h, fun _ _ _ h _ => h, fun _ _ _ h _ => h, fun _ _ _ h _ => h, fun _ _ _ h _ => h, fun _ _ _ h _ => h, fun _ _ _ h _ => h, fun _ _ _ h _ => h, fun _ _ _ h _ => h, fun _ _ _ h _ => h, fun _ _ _ h _ => h, fun _ _ _ h _ => h, trivial⟩
    case ob =>
      refine ⟨fun i => Rg.at_runW [0] rfl ?_, ?_⟩
      · intro ρ W hR ⟨q0, _⟩
        replace q0 : ρ 0 = .pointer (some ⟨g, 0, none⟩) := q0
        refine ⟨rfl, ?_⟩
        exact Rg.run_ok (v := .pointer (some ⟨g, 0, none⟩)) (by simp [execOp, Rg.ev, go_sem, q0]) ⟨rfl, hR, trivial⟩
      refine ⟨fun i => Rg.at_runW [35] rfl ?_, ?_⟩
      · intro ρ W hR ⟨q35, _⟩
        replace q35 : ρ 35 = .pointer (some ⟨g, 0, none⟩) := q35
        refine ⟨rfl, ?_⟩
        exact Rg.run_ok (v := .pointer (some ⟨g, 0, none⟩)) (by simp [execOp, Rg.ev, go_sem, q35]) ⟨rfl, hR, trivial⟩
      refine ⟨fun i => Rg.at_runW [36] rfl ?_, ?_⟩
      · intro ρ W hR ⟨q36, _⟩
        replace q36 : ρ 36 = .pointer (some ⟨g, 0, none⟩) := q36
        refine ⟨rfl, ?_⟩
        exact Rg.run_ok (v := .pointer (some ⟨g, 0, none⟩)) (by simp [execOp, Rg.ev, go_sem, q36]) ⟨rfl, hR, trivial⟩
      refine ⟨Rg.at_runW [37] rfl ?_, ?_⟩
      · intro ρ W hR ⟨q37, _⟩
        replace q37 : ρ 37 = .pointer (some ⟨g, 0, none⟩) := q37
        refine ⟨rfl, ?_⟩
        obtain ⟨v5, h5⟩ := hR
        refine Rg.run_enter (by simp [execOp, Rg.ev, go_sem, q37]; exact ⟨⟨rfl, rfl⟩, rfl⟩) ?_
        refine (n4.out W v5 h5.rd).mono ?_
        rintro e W2 ⟨rfl, r5⟩
        exact ⟨_, rfl, rfl, h5.num hne r5, trivial⟩
      refine ⟨fun i => Rg.at_runW [0] rfl ?_, ?_⟩
      · intro ρ W hR ⟨q0, _⟩
        replace q0 : ρ 0 = .pointer (some ⟨g, 0, none⟩) := q0
        refine ⟨rfl, ?_⟩
        exact Rg.run_ok (v := .pointer (some ⟨g, 0, none⟩)) (by simp [execOp, Rg.ev, go_sem, q0]) ⟨rfl, hR, trivial⟩
      refine ⟨fun i => Rg.at_runW [39] rfl ?_, ?_⟩
      · intro ρ W hR ⟨q39, _⟩
        replace q39 : ρ 39 = .pointer (some ⟨g, 0, none⟩) := q39
        refine ⟨rfl, ?_⟩
        exact Rg.run_ok (v := .pointer (some ⟨g, 0, none⟩)) (by simp [execOp, Rg.ev, go_sem, q39]) ⟨rfl, hR, trivial⟩
      refine ⟨fun i => Rg.at_runW [40] rfl ?_, ?_⟩
      · intro ρ W hR ⟨q40, _⟩
        replace q40 : ρ 40 = .pointer (some ⟨g, 0, none⟩) := q40
        refine ⟨rfl, ?_⟩
        exact Rg.run_ok (v := .pointer (some ⟨g, 0, none⟩)) (by simp [execOp, Rg.ev, go_sem, q40]) ⟨rfl, hR, trivial⟩
      refine ⟨Rg.at_runW [41] rfl ?_, ?_⟩
      · intro ρ W hR ⟨q41, _⟩
        replace q41 : ρ 41 = .pointer (some ⟨g, 0, none⟩) := q41
        refine ⟨rfl, ?_⟩
        obtain ⟨v5, h5⟩ := hR
        refine Rg.run_enter (by simp [execOp, Rg.ev, go_sem, q41]; exact ⟨⟨rfl, rfl⟩, rfl⟩) ?_
        refine (n5.out W v5 h5.rd).mono ?_
        rintro e W2 ⟨rfl, r5⟩
        exact ⟨_, rfl, rfl, h5.num hne r5, trivial⟩
      refine ⟨fun i => Rg.at_runW [2] rfl ?_, ?_⟩
      · intro ρ W hR ⟨q2, _⟩
        replace q2 : ρ 2 = .pointer (some ⟨w.heap.size, 0, none⟩) := q2
        refine ⟨rfl, ?_⟩
        exact Rg.run_ok (v := .pointer (some ⟨w.heap.size, 3, none⟩)) (by simp [execOp, Rg.ev, go_sem, q2]) ⟨rfl, hR, trivial⟩
      refine ⟨Rg.at_runW [43, 38] rfl ?_, ?_⟩
      · intro ρ W hR ⟨q43, q38, _⟩
        replace q43 : ρ 43 = .pointer (some ⟨w.heap.size, 3, none⟩) := q43
        replace q38 : ρ 38 = str N := q38
        refine ⟨rfl, ?_⟩
        obtain ⟨v5, h5⟩ := hR
        have z := h5.bl.frozen 3
        have hc : W.cell? ⟨w.heap.size, 3, none⟩ = some (str []) := (h5.bl.cell 3).trans rfl
        exact Rg.run_skip (W' := W.setCell ⟨w.heap.size, 3, none⟩ (str N)) (by simp [execOp, Rg.ev, go_sem, q43, q38, z, hc]) ⟨rfl, ⟨v5, h5.set hne (Nat.le_refl _) 3 (str N)⟩, trivial⟩
      refine ⟨fun i => Rg.at_runW [2] rfl ?_, ?_⟩
      · intro ρ W hR ⟨q2, _⟩
        replace q2 : ρ 2 = .pointer (some ⟨w.heap.size, 0, none⟩) := q2
        refine ⟨rfl, ?_⟩
        exact Rg.run_ok (v := .pointer (some ⟨w.heap.size, 4, none⟩)) (by simp [execOp, Rg.ev, go_sem, q2]) ⟨rfl, hR, trivial⟩
      refine ⟨Rg.at_runW [44, 42] rfl ?_, ?_⟩
      · intro ρ W hR ⟨q44, q42, _⟩
        replace q44 : ρ 44 = .pointer (some ⟨w.heap.size, 4, none⟩) := q44
        replace q42 : ρ 42 = str U := q42
        refine ⟨rfl, ?_⟩
        obtain ⟨v5, h5⟩ := hR
        have z := h5.bl.frozen 4
        have hc : W.cell? ⟨w.heap.size, 4, none⟩ = some (str []) := (h5.bl.cell 4).trans rfl
        exact Rg.run_skip (W' := W.setCell ⟨w.heap.size, 4, none⟩ (str U)) (by simp [execOp, Rg.ev, go_sem, q44, q42, z, hc]) ⟨rfl, ⟨v5, h5.set hne (Nat.le_refl _) 4 (str U)⟩, trivial⟩
      trivial
    case en =>
      intro tm W hR hsz hk
      rw [Rg.fin_eq (ds := [35, 36, 37, 38, 39, 40, 41, 42, 43, 44]) rfl rfl rfl hsz hk]
      have k35 : tm.getD 35 undef = .pointer (some ⟨g, 0, none⟩) := hk 35
      have k36 : tm.getD 36 undef = .pointer (some ⟨g, 0, none⟩) := hk 36
      have k37 : tm.getD 37 undef = .pointer (some ⟨g, 0, none⟩) := hk 37
      have k38 : tm.getD 38 undef = str N := hk 38
      have k39 : tm.getD 39 undef = .pointer (some ⟨g, 0, none⟩) := hk 39
      have k40 : tm.getD 40 undef = .pointer (some ⟨g, 0, none⟩) := hk 40
      have k41 : tm.getD 41 undef = .pointer (some ⟨g, 0, none⟩) := hk 41
      have k42 : tm.getD 42 undef = str U := hk 42
      have k43 : tm.getD 43 undef = .pointer (some ⟨w.heap.size, 3, none⟩) := hk 43
      have k44 : tm.getD 44 undef = .pointer (some ⟨w.heap.size, 4, none⟩) := hk 44
      clear hk hsz
      simp only [Rg.putAll, List.setIfInBounds_toArray, List.set_cons_zero, List.set_cons_succ, k35, k36, k37, k38, k39, k40, k41, k42, k43, k44]
      clear k35
      clear k36
      clear k37
      clear k38
      clear k39
      clear k40
      clear k41
      clear k42
      clear k43
      clear k44
      refine Rg.nil_list ?_
      obtain ⟨v6, a6⟩ := hR
      replace a6 : AllAt 157 w W g w.heap.size v6 s6 (ccells ⟨0, C, Q, N, U, 0⟩) := a6
      go_wp2_with fail
      refine (n6.out _ v6 a6.rd).mono ?_
      rintro e W7 ⟨rfl, r7⟩
      obtain ⟨v7, a7⟩ := a6.num hne r7
      have z5 := a7.bl.frozen 5
      have hc5 : W7.cell? ⟨w.heap.size, 5, none⟩ = some (.int .u64 0) := (a7.bl.cell 5).trans rfl
      have a8 : AllAt 157 w (W7.setCell ⟨w.heap.size, 5, none⟩ (.int .u64 T)) g w.heap.size v7 s7 (ccells ⟨0, C, Q, N, U, T⟩) := a7.set hne (Nat.le_refl _) 5 (.int .u64 T)
      obtain ⟨b7, e7⟩ := s7
      obtain ⟨A7, c7, rfl, -, -, -⟩ := id a8.rd.bs
      have y0 : (W7.setCell ⟨w.heap.size, 5, none⟩ (.int .u64 T)).cell? ⟨g, 0, none⟩ = some (.slice A7 b7.length c7) := (a8.rd.blk.cell 0).trans rfl
      have y1 : (W7.setCell ⟨w.heap.size, 5, none⟩ (.int .u64 T)).cell? ⟨g, 1, none⟩ = some (.int .i64 e7) := (a8.rd.blk.cell 1).trans rfl
      have hlen := fun (c : Cm) => (rfl : (ccells c).size = 6)
      by_cases he7 : e7 = 0
      · subst he7
        by_cases hl7 : 0 < b7.length
        · have hl8 : (0 : Int) < b7.length := by omega
          have HQ : Hid (pform (decide (0 < b7.length)) (b7, 0) = (b7, 2)) := by unfold Hid; rw [decide_eq_true hl7, pform_yes]
          have z := a8.rd.blk.frozen 1
          have a9 := a8.err hne 2
          have x0 : ((W7.setCell ⟨w.heap.size, 5, none⟩ (.int .u64 T)).setCell ⟨g, 1, none⟩ (.int .i64 2)).cell? ⟨w.heap.size, 0, none⟩ = some (.int .i64 0) := (a9.bl.cell 0).trans rfl
          have zz0 := a9.bl.frozen 0
          have x1 : ((W7.setCell ⟨w.heap.size, 5, none⟩ (.int .u64 T)).setCell ⟨g, 1, none⟩ (.int .i64 2)).cell? ⟨w.heap.size, 1, none⟩ = some (.int .i64 C) := (a9.bl.cell 1).trans rfl
          have zz1 := a9.bl.frozen 1
          have x2 : ((W7.setCell ⟨w.heap.size, 5, none⟩ (.int .u64 T)).setCell ⟨g, 1, none⟩ (.int .i64 2)).cell? ⟨w.heap.size, 2, none⟩ = some (.int .u64 Q) := (a9.bl.cell 2).trans rfl
          have zz2 := a9.bl.frozen 2
          have x3 : ((W7.setCell ⟨w.heap.size, 5, none⟩ (.int .u64 T)).setCell ⟨g, 1, none⟩ (.int .i64 2)).cell? ⟨w.heap.size, 3, none⟩ = some (str N) := (a9.bl.cell 3).trans rfl
          have zz3 := a9.bl.frozen 3
          have x4 : ((W7.setCell ⟨w.heap.size, 5, none⟩ (.int .u64 T)).setCell ⟨g, 1, none⟩ (.int .i64 2)).cell? ⟨w.heap.size, 4, none⟩ = some (str U) := (a9.bl.cell 4).trans rfl
          have zz4 := a9.bl.frozen 4
          have x5 : ((W7.setCell ⟨w.heap.size, 5, none⟩ (.int .u64 T)).setCell ⟨g, 1, none⟩ (.int .i64 2)).cell? ⟨w.heap.size, 5, none⟩ = some (.int .u64 T) := (a9.bl.cell 5).trans rfl
          have zz5 := a9.bl.frozen 5
          go_wp2
          try simp only [Exit.inBlock, Exit.then]
          have aF : AllAt 157 w _ g w.heap.size _ (b7, 2) (ccells ⟨0, C, Q, N, U, T⟩) := ((((((a9.set hne (Nat.le_refl _) 0 (.int .i64 0)).set hne (Nat.le_refl _) 1 (.int .i64 C)).set hne (Nat.le_refl _) 2 (.int .u64 Q)).set hne (Nat.le_refl _) 3 (str N)).set hne (Nat.le_refl _) 4 (str U)).set hne (Nat.le_refl _) 5 (.int .u64 T))
          refine bodyPost_ret (results_cell_row rfl _ _ w.heap.size 28 (ccells ⟨0, C, Q, N, U, T⟩) (0, 0) _ rfl aF.bl Try.underlying28 rfl (by kernel_rfl)) rfl ?_
          have aG := aF.rd
          rw [← HQ.out] at aG
          rw [HP.out]
          exact ⟨rfl, _, aG, aF.cg⟩
        · have hl8 : ¬ (0 : Int) < b7.length := by omega
          have HQ : Hid (pform (decide (0 < b7.length)) (b7, 0) = (b7, 0)) := by unfold Hid; rw [decide_eq_false hl7, pform_no]
          have x0 : ((W7.setCell ⟨w.heap.size, 5, none⟩ (.int .u64 T))).cell? ⟨w.heap.size, 0, none⟩ = some (.int .i64 0) := (a8.bl.cell 0).trans rfl
          have zz0 := a8.bl.frozen 0
          have x1 : ((W7.setCell ⟨w.heap.size, 5, none⟩ (.int .u64 T))).cell? ⟨w.heap.size, 1, none⟩ = some (.int .i64 C) := (a8.bl.cell 1).trans rfl
          have zz1 := a8.bl.frozen 1
          have x2 : ((W7.setCell ⟨w.heap.size, 5, none⟩ (.int .u64 T))).cell? ⟨w.heap.size, 2, none⟩ = some (.int .u64 Q) := (a8.bl.cell 2).trans rfl
          have zz2 := a8.bl.frozen 2
          have x3 : ((W7.setCell ⟨w.heap.size, 5, none⟩ (.int .u64 T))).cell? ⟨w.heap.size, 3, none⟩ = some (str N) := (a8.bl.cell 3).trans rfl
          have zz3 := a8.bl.frozen 3
          have x4 : ((W7.setCell ⟨w.heap.size, 5, none⟩ (.int .u64 T))).cell? ⟨w.heap.size, 4, none⟩ = some (str U) := (a8.bl.cell 4).trans rfl
          have zz4 := a8.bl.frozen 4
          have x5 : ((W7.setCell ⟨w.heap.size, 5, none⟩ (.int .u64 T))).cell? ⟨w.heap.size, 5, none⟩ = some (.int .u64 T) := (a8.bl.cell 5).trans rfl
          have zz5 := a8.bl.frozen 5
          go_wp2
          try simp only [Exit.inBlock, Exit.then]
          have aF : AllAt 157 w _ g w.heap.size _ (b7, 0) (ccells ⟨0, C, Q, N, U, T⟩) := ((((((a8.set hne (Nat.le_refl _) 0 (.int .i64 0)).set hne (Nat.le_refl _) 1 (.int .i64 C)).set hne (Nat.le_refl _) 2 (.int .u64 Q)).set hne (Nat.le_refl _) 3 (str N)).set hne (Nat.le_refl _) 4 (str U)).set hne (Nat.le_refl _) 5 (.int .u64 T))
          refine bodyPost_ret (results_cell_row rfl _ _ w.heap.size 28 (ccells ⟨0, C, Q, N, U, T⟩) (0, 0) _ rfl aF.bl Try.underlying28 rfl (by kernel_rfl)) rfl ?_
          have aG := aF.rd
          rw [← HQ.out] at aG
          rw [HP.out]
          exact ⟨rfl, _, aG, aF.cg⟩
      · have HQ : Hid (pform (decide (0 < b7.length)) (b7, e7) = (b7, e7)) := by unfold Hid; exact pform_bad _ _ he7
        have x0 : ((W7.setCell ⟨w.heap.size, 5, none⟩ (.int .u64 T))).cell? ⟨w.heap.size, 0, none⟩ = some (.int .i64 0) := (a8.bl.cell 0).trans rfl
        have zz0 := a8.bl.frozen 0
        have x1 : ((W7.setCell ⟨w.heap.size, 5, none⟩ (.int .u64 T))).cell? ⟨w.heap.size, 1, none⟩ = some (.int .i64 C) := (a8.bl.cell 1).trans rfl
        have zz1 := a8.bl.frozen 1
        have x2 : ((W7.setCell ⟨w.heap.size, 5, none⟩ (.int .u64 T))).cell? ⟨w.heap.size, 2, none⟩ = some (.int .u64 Q) := (a8.bl.cell 2).trans rfl
        have zz2 := a8.bl.frozen 2
        have x3 : ((W7.setCell ⟨w.heap.size, 5, none⟩ (.int .u64 T))).cell? ⟨w.heap.size, 3, none⟩ = some (str N) := (a8.bl.cell 3).trans rfl
        have zz3 := a8.bl.frozen 3
        have x4 : ((W7.setCell ⟨w.heap.size, 5, none⟩ (.int .u64 T))).cell? ⟨w.heap.size, 4, none⟩ = some (str U) := (a8.bl.cell 4).trans rfl
        have zz4 := a8.bl.frozen 4
        have x5 : ((W7.setCell ⟨w.heap.size, 5, none⟩ (.int .u64 T))).cell? ⟨w.heap.size, 5, none⟩ = some (.int .u64 T) := (a8.bl.cell 5).trans rfl
        have zz5 := a8.bl.frozen 5
        go_wp2
        try simp only [Exit.inBlock, Exit.then]
        have aF : AllAt 157 w _ g w.heap.size _ (b7, e7) (ccells ⟨0, C, Q, N, U, T⟩) := ((((((a8.set hne (Nat.le_refl _) 0 (.int .i64 0)).set hne (Nat.le_refl _) 1 (.int .i64 C)).set hne (Nat.le_refl _) 2 (.int .u64 Q)).set hne (Nat.le_refl _) 3 (str N)).set hne (Nat.le_refl _) 4 (str U)).set hne (Nat.le_refl _) 5 (.int .u64 T))
        refine bodyPost_ret (results_cell_row rfl _ _ w.heap.size 28 (ccells ⟨0, C, Q, N, U, T⟩) (0, 0) _ rfl aF.bl Try.underlying28 rfl (by kernel_rfl)) rfl ?_
        have aG := aF.rd
        rw [← HQ.out] at aG
        rw [HP.out]
        exact ⟨rfl, _, aG, aF.cg⟩
  · skip
    go_wp2_with fail
    refine (n2.out _ v1 a2.rd).mono ?_
    rintro e W3 ⟨rfl, r3⟩
    obtain ⟨v3, a3⟩ := AllAt.num a2 hne r3
    have z1 := a3.bl.frozen 1
    have hc1 : W3.cell? ⟨w.heap.size, 1, none⟩ = some (.int .i64 0) := (a3.bl.cell 1).trans rfl
    have a4 : AllAt 157 w (W3.setCell ⟨w.heap.size, 1, none⟩ (.int .i64 C)) g w.heap.size v3 s3 (ccells ⟨K, C, 0, [], [], 0⟩) := a3.set hne (Nat.le_refl _) 1 (.int .i64 C)
    go_wp2_with fail
    refine (n3.out _ v3 a4.rd).mono ?_
    rintro e W4 ⟨rfl, r4⟩
    obtain ⟨v4, a5⟩ := a4.num hne r4
    have z2 := a5.bl.frozen 2
    have hc2 : W4.cell? ⟨w.heap.size, 2, none⟩ = some (.int .u64 0) := (a5.bl.cell 2).trans rfl
    replace a4 : AllAt 157 w (W4.setCell ⟨w.heap.size, 2, none⟩ (.int .u64 Q)) g w.heap.size v4 s4 (ccells ⟨K, C, Q, [], [], 0⟩) := a5.set hne (Nat.le_refl _) 2 (.int .u64 Q)
    go_wp2
    refine Rg.regionW Try.checked.mixed 70 12 (by kernel_rfl) [
      (false, (fun x_ _ => x_ = .pointer (some ⟨g, 0, none⟩))),
      (false, (fun x_ _ => x_ = .pointer (some ⟨g, 0, none⟩))),
      (false, (fun x_ _ => x_ = .pointer (some ⟨g, 0, none⟩))),
      (true, (fun x_ _ => x_ = str N)),
      (false, (fun x_ _ => x_ = .pointer (some ⟨g, 0, none⟩))),
      (false, (fun x_ _ => x_ = .pointer (some ⟨g, 0, none⟩))),
      (false, (fun x_ _ => x_ = .pointer (some ⟨g, 0, none⟩))),
      (true, (fun x_ _ => x_ = str U)),
      (false, (fun x_ _ => x_ = .pointer (some ⟨w.heap.size, 3, none⟩))),
      (true, (fun x_ _ => x_ = undef)),
      (false, (fun x_ _ => x_ = .pointer (some ⟨w.heap.size, 4, none⟩))),
      (true, (fun x_ _ => x_ = undef))] (by kernel_rfl) ((RC 157 w g w.heap.size (fun i => match i with | 0 => s4 | 1 => s5 | _ => s6) (fun i => match i with | 3 => ccells ⟨K, C, Q, N, [], 0⟩ | 4 => ccells ⟨K, C, Q, N, U, 0⟩ | _ => ccells ⟨K, C, Q, [], [], 0⟩))) (fun _ _ => True) rfl rfl rfl
      ?st ⟨v4, a4.drew⟩ ?ob ?en
    case st => exact ⟨fun _ _ _ h _ => h, fun _ _ _ h _ => h, fun _ _ _ h _ => h, fun _ _ _ h _ => h, fun _ _ _ h _ => h, fun _ _ _ h _ => h, fun _ _ _ h _ => h, fun _ _ _ h _ => h, fun _ _ _ h _ => h, fun _ _ _ h _ => h, fun _ _ _ h _ => h, fun _ _ _ h _ => h, trivial⟩
    case ob =>
      refine ⟨fun i => Rg.at_runW [0] rfl ?_, ?_⟩
      · intro ρ W hR ⟨q0, _⟩
        replace q0 : ρ 0 = .pointer (some ⟨g, 0, none⟩) := q0
        refine ⟨rfl, ?_⟩
        exact Rg.run_ok (v := .pointer (some ⟨g, 0, none⟩)) (by simp [execOp, Rg.ev, go_sem, q0]) ⟨rfl, hR, trivial⟩
      refine ⟨fun i => Rg.at_runW [35] rfl ?_, ?_⟩
      · intro ρ W hR ⟨q35, _⟩
        replace q35 : ρ 35 = .pointer (some ⟨g, 0, none⟩) := q35
        refine ⟨rfl, ?_⟩
        exact Rg.run_ok (v := .pointer (some ⟨g, 0, none⟩)) (by simp [execOp, Rg.ev, go_sem, q35]) ⟨rfl, hR, trivial⟩
      refine ⟨fun i => Rg.at_runW [36] rfl ?_, ?_⟩
      · intro ρ W hR ⟨q36, _⟩
        replace q36 : ρ 36 = .pointer (some ⟨g, 0, none⟩) := q36
        refine ⟨rfl, ?_⟩
        exact Rg.run_ok (v := .pointer (some ⟨g, 0, none⟩)) (by simp [execOp, Rg.ev, go_sem, q36]) ⟨rfl, hR, trivial⟩
      refine ⟨Rg.at_runW [37] rfl ?_, ?_⟩
      · intro ρ W hR ⟨q37, _⟩
        replace q37 : ρ 37 = .pointer (some ⟨g, 0, none⟩) := q37
        refine ⟨rfl, ?_⟩
        obtain ⟨v5, h5⟩ := hR
        refine Rg.run_enter (by simp [execOp, Rg.ev, go_sem, q37]; exact ⟨⟨rfl, rfl⟩, rfl⟩) ?_
        refine (n4.out W v5 h5.rd).mono ?_
        rintro e W2 ⟨rfl, r5⟩
        exact ⟨_, rfl, rfl, h5.num hne r5, trivial⟩
      refine ⟨fun i => Rg.at_runW [0] rfl ?_, ?_⟩
      · intro ρ W hR ⟨q0, _⟩
        replace q0 : ρ 0 = .pointer (some ⟨g, 0, none⟩) := q0
        refine ⟨rfl, ?_⟩
        exact Rg.run_ok (v := .pointer (some ⟨g, 0, none⟩)) (by simp [execOp, Rg.ev, go_sem, q0]) ⟨rfl, hR, trivial⟩
      refine ⟨fun i => Rg.at_runW [39] rfl ?_, ?_⟩
      · intro ρ W hR ⟨q39, _⟩
        replace q39 : ρ 39 = .pointer (some ⟨g, 0, none⟩) := q39
        refine ⟨rfl, ?_⟩
        exact Rg.run_ok (v := .pointer (some ⟨g, 0, none⟩)) (by simp [execOp, Rg.ev, go_sem, q39]) ⟨rfl, hR, trivial⟩
      refine ⟨fun i => Rg.at_runW [40] rfl ?_, ?_⟩
      · intro ρ W hR ⟨q40, _⟩
        replace q40 : ρ 40 = .pointer (some ⟨g, 0, none⟩) := q40
        refine ⟨rfl, ?_⟩
        exact Rg.run_ok (v := .pointer (some ⟨g, 0, none⟩)) (by simp [execOp, Rg.ev, go_sem, q40]) ⟨rfl, hR, trivial⟩
      refine ⟨Rg.at_runW [41] rfl ?_, ?_⟩
      · intro ρ W hR ⟨q41, _⟩
        replace q41 : ρ 41 = .pointer (some ⟨g, 0, none⟩) := q41
        refine ⟨rfl, ?_⟩
        obtain ⟨v5, h5⟩ := hR
        refine Rg.run_enter (by simp [execOp, Rg.ev, go_sem, q41]; exact ⟨⟨rfl, rfl⟩, rfl⟩) ?_
        refine (n5.out W v5 h5.rd).mono ?_
        rintro e W2 ⟨rfl, r5⟩
        exact ⟨_, rfl, rfl, h5.num hne r5, trivial⟩
      refine ⟨fun i => Rg.at_runW [2] rfl ?_, ?_⟩
      · intro ρ W hR ⟨q2, _⟩
        replace q2 : ρ 2 = .pointer (some ⟨w.heap.size, 0, none⟩) := q2
        refine ⟨rfl, ?_⟩
        exact Rg.run_ok (v := .pointer (some ⟨w.heap.size, 3, none⟩)) (by simp [execOp, Rg.ev, go_sem, q2]) ⟨rfl, hR, trivial⟩
      refine ⟨Rg.at_runW [43, 38] rfl ?_, ?_⟩
      · intro ρ W hR ⟨q43, q38, _⟩
        replace q43 : ρ 43 = .pointer (some ⟨w.heap.size, 3, none⟩) := q43
        replace q38 : ρ 38 = str N := q38
        refine ⟨rfl, ?_⟩
        obtain ⟨v5, h5⟩ := hR
        have z := h5.bl.frozen 3
        have hc : W.cell? ⟨w.heap.size, 3, none⟩ = some (str []) := (h5.bl.cell 3).trans rfl
        exact Rg.run_skip (W' := W.setCell ⟨w.heap.size, 3, none⟩ (str N)) (by simp [execOp, Rg.ev, go_sem, q43, q38, z, hc]) ⟨rfl, ⟨v5, h5.set hne (Nat.le_refl _) 3 (str N)⟩, trivial⟩
      refine ⟨fun i => Rg.at_runW [2] rfl ?_, ?_⟩
      · intro ρ W hR ⟨q2, _⟩
        replace q2 : ρ 2 = .pointer (some ⟨w.heap.size, 0, none⟩) := q2
        refine ⟨rfl, ?_⟩
        exact Rg.run_ok (v := .pointer (some ⟨w.heap.size, 4, none⟩)) (by simp [execOp, Rg.ev, go_sem, q2]) ⟨rfl, hR, trivial⟩
      refine ⟨Rg.at_runW [44, 42] rfl ?_, ?_⟩
      · intro ρ W hR ⟨q44, q42, _⟩
        replace q44 : ρ 44 = .pointer (some ⟨w.heap.size, 4, none⟩) := q44
        replace q42 : ρ 42 = str U := q42
        refine ⟨rfl, ?_⟩
        obtain ⟨v5, h5⟩ := hR
        have z := h5.bl.frozen 4
        have hc : W.cell? ⟨w.heap.size, 4, none⟩ = some (str []) := (h5.bl.cell 4).trans rfl
        exact Rg.run_skip (W' := W.setCell ⟨w.heap.size, 4, none⟩ (str U)) (by simp [execOp, Rg.ev, go_sem, q44, q42, z, hc]) ⟨rfl, ⟨v5, h5.set hne (Nat.le_refl _) 4 (str U)⟩, trivial⟩
      trivial
    case en =>
      intro tm W hR hsz hk
      rw [Rg.fin_eq (ds := [35, 36, 37, 38, 39, 40, 41, 42, 43, 44]) rfl rfl rfl hsz hk]
      have k35 : tm.getD 35 undef = .pointer (some ⟨g, 0, none⟩) := hk 35
      have k36 : tm.getD 36 undef = .pointer (some ⟨g, 0, none⟩) := hk 36
      have k37 : tm.getD 37 undef = .pointer (some ⟨g, 0, none⟩) := hk 37
      have k38 : tm.getD 38 undef = str N := hk 38
      have k39 : tm.getD 39 undef = .pointer (some ⟨g, 0, none⟩) := hk 39
      have k40 : tm.getD 40 undef = .pointer (some ⟨g, 0, none⟩) := hk 40
      have k41 : tm.getD 41 undef = .pointer (some ⟨g, 0, none⟩) := hk 41
      have k42 : tm.getD 42 undef = str U := hk 42
      have k43 : tm.getD 43 undef = .pointer (some ⟨w.heap.size, 3, none⟩) := hk 43
      have k44 : tm.getD 44 undef = .pointer (some ⟨w.heap.size, 4, none⟩) := hk 44
      clear hk hsz
      simp only [Rg.putAll, List.setIfInBounds_toArray, List.set_cons_zero, List.set_cons_succ, k35, k36, k37, k38, k39, k40, k41, k42, k43, k44]
      clear k35
      clear k36
      clear k37
      clear k38
      clear k39
      clear k40
      clear k41
      clear k42
      clear k43
      clear k44
      refine Rg.nil_list ?_
      obtain ⟨v6, a6⟩ := hR
      replace a6 : AllAt 157 w W g w.heap.size v6 s6 (ccells ⟨K, C, Q, N, U, 0⟩) := a6
      go_wp2_with fail
      refine (n6.out _ v6 a6.rd).mono ?_
      rintro e W7 ⟨rfl, r7⟩
      obtain ⟨v7, a7⟩ := a6.num hne r7
      have z5 := a7.bl.frozen 5
      have hc5 : W7.cell? ⟨w.heap.size, 5, none⟩ = some (.int .u64 0) := (a7.bl.cell 5).trans rfl
      have a8 : AllAt 157 w (W7.setCell ⟨w.heap.size, 5, none⟩ (.int .u64 T)) g w.heap.size v7 s7 (ccells ⟨K, C, Q, N, U, T⟩) := a7.set hne (Nat.le_refl _) 5 (.int .u64 T)
      obtain ⟨b7, e7⟩ := s7
      obtain ⟨A7, c7, rfl, -, -, -⟩ := id a8.rd.bs
      have y0 : (W7.setCell ⟨w.heap.size, 5, none⟩ (.int .u64 T)).cell? ⟨g, 0, none⟩ = some (.slice A7 b7.length c7) := (a8.rd.blk.cell 0).trans rfl
      have y1 : (W7.setCell ⟨w.heap.size, 5, none⟩ (.int .u64 T)).cell? ⟨g, 1, none⟩ = some (.int .i64 e7) := (a8.rd.blk.cell 1).trans rfl
      have hlen := fun (c : Cm) => (rfl : (ccells c).size = 6)
      by_cases he7 : e7 = 0
      · subst he7
        by_cases hl7 : 0 < b7.length
        · have hl8 : (0 : Int) < b7.length := by omega
          have HQ : Hid (pform (decide (0 < b7.length)) (b7, 0) = (b7, 2)) := by unfold Hid; rw [decide_eq_true hl7, pform_yes]
          have z := a8.rd.blk.frozen 1
          have a9 := a8.err hne 2
          have x0 : ((W7.setCell ⟨w.heap.size, 5, none⟩ (.int .u64 T)).setCell ⟨g, 1, none⟩ (.int .i64 2)).cell? ⟨w.heap.size, 0, none⟩ = some (.int .i64 K) := (a9.bl.cell 0).trans rfl
          have zz0 := a9.bl.frozen 0
          have x1 : ((W7.setCell ⟨w.heap.size, 5, none⟩ (.int .u64 T)).setCell ⟨g, 1, none⟩ (.int .i64 2)).cell? ⟨w.heap.size, 1, none⟩ = some (.int .i64 C) := (a9.bl.cell 1).trans rfl
          have zz1 := a9.bl.frozen 1
          have x2 : ((W7.setCell ⟨w.heap.size, 5, none⟩ (.int .u64 T)).setCell ⟨g, 1, none⟩ (.int .i64 2)).cell? ⟨w.heap.size, 2, none⟩ = some (.int .u64 Q) := (a9.bl.cell 2).trans rfl
          have zz2 := a9.bl.frozen 2
          have x3 : ((W7.setCell ⟨w.heap.size, 5, none⟩ (.int .u64 T)).setCell ⟨g, 1, none⟩ (.int .i64 2)).cell? ⟨w.heap.size, 3, none⟩ = some (str N) := (a9.bl.cell 3).trans rfl
          have zz3 := a9.bl.frozen 3
          have x4 : ((W7.setCell ⟨w.heap.size, 5, none⟩ (.int .u64 T)).setCell ⟨g, 1, none⟩ (.int .i64 2)).cell? ⟨w.heap.size, 4, none⟩ = some (str U) := (a9.bl.cell 4).trans rfl
          have zz4 := a9.bl.frozen 4
          have x5 : ((W7.setCell ⟨w.heap.size, 5, none⟩ (.int .u64 T)).setCell ⟨g, 1, none⟩ (.int .i64 2)).cell? ⟨w.heap.size, 5, none⟩ = some (.int .u64 T) := (a9.bl.cell 5).trans rfl
          have zz5 := a9.bl.frozen 5
          go_wp2
          try simp only [Exit.inBlock, Exit.then]
          have aF : AllAt 157 w _ g w.heap.size _ (b7, 2) (ccells ⟨K, C, Q, N, U, T⟩) := ((((((a9.set hne (Nat.le_refl _) 0 (.int .i64 K)).set hne (Nat.le_refl _) 1 (.int .i64 C)).set hne (Nat.le_refl _) 2 (.int .u64 Q)).set hne (Nat.le_refl _) 3 (str N)).set hne (Nat.le_refl _) 4 (str U)).set hne (Nat.le_refl _) 5 (.int .u64 T))
          refine bodyPost_ret (results_cell_row rfl _ _ w.heap.size 28 (ccells ⟨K, C, Q, N, U, T⟩) (0, 0) _ rfl aF.bl Try.underlying28 rfl (by kernel_rfl)) rfl ?_
          have aG := aF.rd
          rw [← HQ.out] at aG
          rw [HP.out]
          exact ⟨rfl, _, aG, aF.cg⟩
        · have hl8 : ¬ (0 : Int) < b7.length := by omega
          have HQ : Hid (pform (decide (0 < b7.length)) (b7, 0) = (b7, 0)) := by unfold Hid; rw [decide_eq_false hl7, pform_no]
          have x0 : ((W7.setCell ⟨w.heap.size, 5, none⟩ (.int .u64 T))).cell? ⟨w.heap.size, 0, none⟩ = some (.int .i64 K) := (a8.bl.cell 0).trans rfl
          have zz0 := a8.bl.frozen 0
          have x1 : ((W7.setCell ⟨w.heap.size, 5, none⟩ (.int .u64 T))).cell? ⟨w.heap.size, 1, none⟩ = some (.int .i64 C) := (a8.bl.cell 1).trans rfl
          have zz1 := a8.bl.frozen 1
          have x2 : ((W7.setCell ⟨w.heap.size, 5, none⟩ (.int .u64 T))).cell? ⟨w.heap.size, 2, none⟩ = some (.int .u64 Q) := (a8.bl.cell 2).trans rfl
          have zz2 := a8.bl.frozen 2
          have x3 : ((W7.setCell ⟨w.heap.size, 5, none⟩ (.int .u64 T))).cell? ⟨w.heap.size, 3, none⟩ = some (str N) := (a8.bl.cell 3).trans rfl
          have zz3 := a8.bl.frozen 3
          have x4 : ((W7.setCell ⟨w.heap.size, 5, none⟩ (.int .u64 T))).cell? ⟨w.heap.size, 4, none⟩ = some (str U) := (a8.bl.cell 4).trans rfl
          have zz4 := a8.bl.frozen 4
          have x5 : ((W7.setCell ⟨w.heap.size, 5, none⟩ (.int .u64 T))).cell? ⟨w.heap.size, 5, none⟩ = some (.int .u64 T) := (a8.bl.cell 5).trans rfl
          have zz5 := a8.bl.frozen 5
          go_wp2
          try simp only [Exit.inBlock, Exit.then]
          have aF : AllAt 157 w _ g w.heap.size _ (b7, 0) (ccells ⟨K, C, Q, N, U, T⟩) := ((((((a8.set hne (Nat.le_refl _) 0 (.int .i64 K)).set hne (Nat.le_refl _) 1 (.int .i64 C)).set hne (Nat.le_refl _) 2 (.int .u64 Q)).set hne (Nat.le_refl _) 3 (str N)).set hne (Nat.le_refl _) 4 (str U)).set hne (Nat.le_refl _) 5 (.int .u64 T))
          refine bodyPost_ret (results_cell_row rfl _ _ w.heap.size 28 (ccells ⟨K, C, Q, N, U, T⟩) (0, 0) _ rfl aF.bl Try.underlying28 rfl (by kernel_rfl)) rfl ?_
          have aG := aF.rd
          rw [← HQ.out] at aG
          rw [HP.out]
          exact ⟨rfl, _, aG, aF.cg⟩
      · have HQ : Hid (pform (decide (0 < b7.length)) (b7, e7) = (b7, e7)) := by unfold Hid; exact pform_bad _ _ he7
        have x0 : ((W7.setCell ⟨w.heap.size, 5, none⟩ (.int .u64 T))).cell? ⟨w.heap.size, 0, none⟩ = some (.int .i64 K) := (a8.bl.cell 0).trans rfl
        have zz0 := a8.bl.frozen 0
        have x1 : ((W7.setCell ⟨w.heap.size, 5, none⟩ (.int .u64 T))).cell? ⟨w.heap.size, 1, none⟩ = some (.int .i64 C) := (a8.bl.cell 1).trans rfl
        have zz1 := a8.bl.frozen 1
        have x2 : ((W7.setCell ⟨w.heap.size, 5, none⟩ (.int .u64 T))).cell? ⟨w.heap.size, 2, none⟩ = some (.int .u64 Q) := (a8.bl.cell 2).trans rfl
        have zz2 := a8.bl.frozen 2
        have x3 : ((W7.setCell ⟨w.heap.size, 5, none⟩ (.int .u64 T))).cell? ⟨w.heap.size, 3, none⟩ = some (str N) := (a8.bl.cell 3).trans rfl
        have zz3 := a8.bl.frozen 3
        have x4 : ((W7.setCell ⟨w.heap.size, 5, none⟩ (.int .u64 T))).cell? ⟨w.heap.size, 4, none⟩ = some (str U) := (a8.bl.cell 4).trans rfl
        have zz4 := a8.bl.frozen 4
        have x5 : ((W7.setCell ⟨w.heap.size, 5, none⟩ (.int .u64 T))).cell? ⟨w.heap.size, 5, none⟩ = some (.int .u64 T) := (a8.bl.cell 5).trans rfl
        have zz5 := a8.bl.frozen 5
        go_wp2
        try simp only [Exit.inBlock, Exit.then]
        have aF : AllAt 157 w _ g w.heap.size _ (b7, e7) (ccells ⟨K, C, Q, N, U, T⟩) := ((((((a8.set hne (Nat.le_refl _) 0 (.int .i64 K)).set hne (Nat.le_refl _) 1 (.int .i64 C)).set hne (Nat.le_refl _) 2 (.int .u64 Q)).set hne (Nat.le_refl _) 3 (str N)).set hne (Nat.le_refl _) 4 (str U)).set hne (Nat.le_refl _) 5 (.int .u64 T))
        refine bodyPost_ret (results_cell_row rfl _ _ w.heap.size 28 (ccells ⟨K, C, Q, N, U, T⟩) (0, 0) _ rfl aF.bl Try.underlying28 rfl (by kernel_rfl)) rfl ?_
        have aG := aF.rd
        rw [← HQ.out] at aG
        rw [HP.out]
        exact ⟨rfl, _, aG, aF.cg⟩
  · skip
    go_wp2_with fail
    refine (n2.out _ v1 a2.rd).mono ?_
    rintro e W3 ⟨rfl, r3⟩
    obtain ⟨v3, a3⟩ := AllAt.num a2 hne r3
    have z1 := a3.bl.frozen 1
    have hc1 : W3.cell? ⟨w.heap.size, 1, none⟩ = some (.int .i64 0) := (a3.bl.cell 1).trans rfl
    have a4 : AllAt 157 w (W3.setCell ⟨w.heap.size, 1, none⟩ (.int .i64 C)) g w.heap.size v3 s3 (ccells ⟨K, C, 0, [], [], 0⟩) := a3.set hne (Nat.le_refl _) 1 (.int .i64 C)
    go_wp2_with fail
    refine (n3.out _ v3 a4.rd).mono ?_
    rintro e W4 ⟨rfl, r4⟩
    obtain ⟨v4, a5⟩ := a4.num hne r4
    have z2 := a5.bl.frozen 2
    have hc2 : W4.cell? ⟨w.heap.size, 2, none⟩ = some (.int .u64 0) := (a5.bl.cell 2).trans rfl
    replace a4 : AllAt 157 w (W4.setCell ⟨w.heap.size, 2, none⟩ (.int .u64 Q)) g w.heap.size v4 s4 (ccells ⟨K, C, Q, [], [], 0⟩) := a5.set hne (Nat.le_refl _) 2 (.int .u64 Q)
    go_wp2
    refine Rg.regionW Try.checked.mixed 70 12 (by kernel_rfl) [
      (false, (fun x_ _ => x_ = .pointer (some ⟨g, 0, none⟩))),
      (false, (fun x_ _ => x_ = .pointer (some ⟨g, 0, none⟩))),
      (false, (fun x_ _ => x_ = .pointer (some ⟨g, 0, none⟩))),
      (true, (fun x_ _ => x_ = str N)),
      (false, (fun x_ _ => x_ = .pointer (some ⟨g, 0, none⟩))),
      (false, (fun x_ _ => x_ = .pointer (some ⟨g, 0, none⟩))),
      (false, (fun x_ _ => x_ = .pointer (some ⟨g, 0, none⟩))),
      (true, (fun x_ _ => x_ = str U)),
      (false, (fun x_ _ => x_ = .pointer (some ⟨w.heap.size, 3, none⟩))),
      (true, (fun x_ _ => x_ = undef)),
      (false, (fun x_ _ => x_ = .pointer (some ⟨w.heap.size, 4, none⟩))),
      (true, (fun x_ _ => x_ = undef))] (by kernel_rfl) ((RC 157 w g w.heap.size (fun i => match i with | 0 => s4 | 1 => s5 | _ => s6) (fun i => match i with | 3 => ccells ⟨K, C, Q, N, [], 0⟩ | 4 => ccells ⟨K, C, Q, N, U, 0⟩ | _ => ccells ⟨K, C, Q, [], [], 0⟩))) (fun _ _ => True) rfl rfl rfl
      ?st ⟨v4, a4.drew⟩ ?ob ?en
    case st => exact ⟨fun _ _ _ h _ => h, fun _ _ _ h _ => h, fun _ _ _ h _ => h, fun _ _ _ h _ => h, fun _ _ _ h _ => h, fun _ _ _ h _ => h, fun _ _ _ h _ => h, fun _ _ _ h _ => h, fun _ _ _ h _ => h, fun _ _ _ h _ => h, fun _ _ _ h _ => h, fun _ _ _ h _ => h, trivial⟩
    case ob =>
      refine ⟨fun i => Rg.at_runW [0] rfl ?_, ?_⟩
      · intro ρ W hR ⟨q0, _⟩
        replace q0 : ρ 0 = .pointer (some ⟨g, 0, none⟩) := q0
        refine ⟨rfl, ?_⟩
        exact Rg.run_ok (v := .pointer (some ⟨g, 0, none⟩)) (by simp [execOp, Rg.ev, go_sem, q0]) ⟨rfl, hR, trivial⟩
      refine ⟨fun i => Rg.at_runW [35] rfl ?_, ?_⟩
      · intro ρ W hR ⟨q35, _⟩
        replace q35 : ρ 35 = .pointer (some ⟨g, 0, none⟩) := q35
        refine ⟨rfl, ?_⟩
        exact Rg.run_ok (v := .pointer (some ⟨g, 0, none⟩)) (by simp [execOp, Rg.ev, go_sem, q35]) ⟨rfl, hR, trivial⟩
      refine ⟨fun i => Rg.at_runW [36] rfl ?_, ?_⟩
      · intro ρ W hR ⟨q36, _⟩
        replace q36 : ρ 36 = .pointer (some ⟨g, 0, none⟩) := q36
        refine ⟨rfl, ?_⟩
        exact Rg.run_ok (v := .pointer (some ⟨g, 0, none⟩)) (by simp [execOp, Rg.ev, go_sem, q36]) ⟨rfl, hR, trivial⟩
      refine ⟨Rg.at_runW [37] rfl ?_, ?_⟩
      · intro ρ W hR ⟨q37, _⟩
        replace q37 : ρ 37 = .pointer (some ⟨g, 0, none⟩) := q37
        refine ⟨rfl, ?_⟩
        obtain ⟨v5, h5⟩ := hR
        refine Rg.run_enter (by simp [execOp, Rg.ev, go_sem, q37]; exact ⟨⟨rfl, rfl⟩, rfl⟩) ?_
        refine (n4.out W v5 h5.rd).mono ?_
        rintro e W2 ⟨rfl, r5⟩
        exact ⟨_, rfl, rfl, h5.num hne r5, trivial⟩
      refine ⟨fun i => Rg.at_runW [0] rfl ?_, ?_⟩
      · intro ρ W hR ⟨q0, _⟩
        replace q0 : ρ 0 = .pointer (some ⟨g, 0, none⟩) := q0
        refine ⟨rfl, ?_⟩
        exact Rg.run_ok (v := .pointer (some ⟨g, 0, none⟩)) (by simp [execOp, Rg.ev, go_sem, q0]) ⟨rfl, hR, trivial⟩
      refine ⟨fun i => Rg.at_runW [39] rfl ?_, ?_⟩
      · intro ρ W hR ⟨q39, _⟩
        replace q39 : ρ 39 = .pointer (some ⟨g, 0, none⟩) := q39
        refine ⟨rfl, ?_⟩
        exact Rg.run_ok (v := .pointer (some ⟨g, 0, none⟩)) (by simp [execOp, Rg.ev, go_sem, q39]) ⟨rfl, hR, trivial⟩
      refine ⟨fun i => Rg.at_runW [40] rfl ?_, ?_⟩
      · intro ρ W hR ⟨q40, _⟩
        replace q40 : ρ 40 = .pointer (some ⟨g, 0, none⟩) := q40
        refine ⟨rfl, ?_⟩
        exact Rg.run_ok (v := .pointer (some ⟨g, 0, none⟩)) (by simp [execOp, Rg.ev, go_sem, q40]) ⟨rfl, hR, trivial⟩
      refine ⟨Rg.at_runW [41] rfl ?_, ?_⟩
      · intro ρ W hR ⟨q41, _⟩
        replace q41 : ρ 41 = .pointer (some ⟨g, 0, none⟩) := q41
        refine ⟨rfl, ?_⟩
        obtain ⟨v5, h5⟩ := hR
        refine Rg.run_enter (by simp [execOp, Rg.ev, go_sem, q41]; exact ⟨⟨rfl, rfl⟩, rfl⟩) ?_
        refine (n5.out W v5 h5.rd).mono ?_
        rintro e W2 ⟨rfl, r5⟩
        exact ⟨_, rfl, rfl, h5.num hne r5, trivial⟩
      refine ⟨fun i => Rg.at_runW [2] rfl ?_, ?_⟩
      · intro ρ W hR ⟨q2, _⟩
        replace q2 : ρ 2 = .pointer (some ⟨w.heap.size, 0, none⟩) := q2
        refine ⟨rfl, ?_⟩
        exact Rg.run_ok (v := .pointer (some ⟨w.heap.size, 3, none⟩)) (by simp [execOp, Rg.ev, go_sem, q2]) ⟨rfl, hR, trivial⟩
      refine ⟨Rg.at_runW [43, 38] rfl ?_, ?_⟩
      · intro ρ W hR ⟨q43, q38, _⟩
        replace q43 : ρ 43 = .pointer (some ⟨w.heap.size, 3, none⟩) := q43
        replace q38 : ρ 38 = str N := q38
        refine ⟨rfl, ?_⟩
        obtain ⟨v5, h5⟩ := hR
        have z := h5.bl.frozen 3
        have hc : W.cell? ⟨w.heap.size, 3, none⟩ = some (str []) := (h5.bl.cell 3).trans rfl
        exact Rg.run_skip (W' := W.setCell ⟨w.heap.size, 3, none⟩ (str N)) (by simp [execOp, Rg.ev, go_sem, q43, q38, z, hc]) ⟨rfl, ⟨v5, h5.set hne (Nat.le_refl _) 3 (str N)⟩, trivial⟩
      refine ⟨fun i => Rg.at_runW [2] rfl ?_, ?_⟩
      · intro ρ W hR ⟨q2, _⟩
        replace q2 : ρ 2 = .pointer (some ⟨w.heap.size, 0, none⟩) := q2
        refine ⟨rfl, ?_⟩
        exact Rg.run_ok (v := .pointer (some ⟨w.heap.size, 4, none⟩)) (by simp [execOp, Rg.ev, go_sem, q2]) ⟨rfl, hR, trivial⟩
      refine ⟨Rg.at_runW [44, 42] rfl ?_, ?_⟩
      · intro ρ W hR ⟨q44, q42, _⟩
        replace q44 : ρ 44 = .pointer (some ⟨w.heap.size, 4, none⟩) := q44
        replace q42 : ρ 42 = str U := q42
        refine ⟨rfl, ?_⟩
        obtain ⟨v5, h5⟩ := hR
        have z := h5.bl.frozen 4
        have hc : W.cell? ⟨w.heap.size, 4, none⟩ = some (str []) := (h5.bl.cell 4).trans rfl
        exact Rg.run_skip (W' := W.setCell ⟨w.heap.size, 4, none⟩ (str U)) (by simp [execOp, Rg.ev, go_sem, q44, q42, z, hc]) ⟨rfl, ⟨v5, h5.set hne (Nat.le_refl _) 4 (str U)⟩, trivial⟩
      trivial
    case en =>
      intro tm W hR hsz hk
      rw [Rg.fin_eq (ds := [35, 36, 37, 38, 39, 40, 41, 42, 43, 44]) rfl rfl rfl hsz hk]
      have k35 : tm.getD 35 undef = .pointer (some ⟨g, 0, none⟩) := hk 35
      have k36 : tm.getD 36 undef = .pointer (some ⟨g, 0, none⟩) := hk 36
      have k37 : tm.getD 37 undef = .pointer (some ⟨g, 0, none⟩) := hk 37
      have k38 : tm.getD 38 undef = str N := hk 38
      have k39 : tm.getD 39 undef = .pointer (some ⟨g, 0, none⟩) := hk 39
      have k40 : tm.getD 40 undef = .pointer (some ⟨g, 0, none⟩) := hk 40
      have k41 : tm.getD 41 undef = .pointer (some ⟨g, 0, none⟩) := hk 41
      have k42 : tm.getD 42 undef = str U := hk 42
      have k43 : tm.getD 43 undef = .pointer (some ⟨w.heap.size, 3, none⟩) := hk 43
      have k44 : tm.getD 44 undef = .pointer (some ⟨w.heap.size, 4, none⟩) := hk 44
      clear hk hsz
      simp only [Rg.putAll, List.setIfInBounds_toArray, List.set_cons_zero, List.set_cons_succ, k35, k36, k37, k38, k39, k40, k41, k42, k43, k44]
      clear k35
      clear k36
      clear k37
      clear k38
      clear k39
      clear k40
      clear k41
      clear k42
      clear k43
      clear k44
      refine Rg.nil_list ?_
      obtain ⟨v6, a6⟩ := hR
      replace a6 : AllAt 157 w W g w.heap.size v6 s6 (ccells ⟨K, C, Q, N, U, 0⟩) := a6
      go_wp2_with fail
      refine (n6.out _ v6 a6.rd).mono ?_
      rintro e W7 ⟨rfl, r7⟩
      obtain ⟨v7, a7⟩ := a6.num hne r7
      have z5 := a7.bl.frozen 5
      have hc5 : W7.cell? ⟨w.heap.size, 5, none⟩ = some (.int .u64 0) := (a7.bl.cell 5).trans rfl
      have a8 : AllAt 157 w (W7.setCell ⟨w.heap.size, 5, none⟩ (.int .u64 T)) g w.heap.size v7 s7 (ccells ⟨K, C, Q, N, U, T⟩) := a7.set hne (Nat.le_refl _) 5 (.int .u64 T)
      obtain ⟨b7, e7⟩ := s7
      obtain ⟨A7, c7, rfl, -, -, -⟩ := id a8.rd.bs
      have y0 : (W7.setCell ⟨w.heap.size, 5, none⟩ (.int .u64 T)).cell? ⟨g, 0, none⟩ = some (.slice A7 b7.length c7) := (a8.rd.blk.cell 0).trans rfl
      have y1 : (W7.setCell ⟨w.heap.size, 5, none⟩ (.int .u64 T)).cell? ⟨g, 1, none⟩ = some (.int .i64 e7) := (a8.rd.blk.cell 1).trans rfl
      have hlen := fun (c : Cm) => (rfl : (ccells c).size = 6)
      by_cases he7 : e7 = 0
      · subst he7
        by_cases hl7 : 0 < b7.length
        · have hl8 : (0 : Int) < b7.length := by omega
          have HQ : Hid (pform (decide (0 < b7.length)) (b7, 0) = (b7, 2)) := by unfold Hid; rw [decide_eq_true hl7, pform_yes]
          have z := a8.rd.blk.frozen 1
          have a9 := a8.err hne 2
          have x0 : ((W7.setCell ⟨w.heap.size, 5, none⟩ (.int .u64 T)).setCell ⟨g, 1, none⟩ (.int .i64 2)).cell? ⟨w.heap.size, 0, none⟩ = some (.int .i64 K) := (a9.bl.cell 0).trans rfl
          have zz0 := a9.bl.frozen 0
          have x1 : ((W7.setCell ⟨w.heap.size, 5, none⟩ (.int .u64 T)).setCell ⟨g, 1, none⟩ (.int .i64 2)).cell? ⟨w.heap.size, 1, none⟩ = some (.int .i64 C) := (a9.bl.cell 1).trans rfl
          have zz1 := a9.bl.frozen 1
          have x2 : ((W7.setCell ⟨w.heap.size, 5, none⟩ (.int .u64 T)).setCell ⟨g, 1, none⟩ (.int .i64 2)).cell? ⟨w.heap.size, 2, none⟩ = some (.int .u64 Q) := (a9.bl.cell 2).trans rfl
          have zz2 := a9.bl.frozen 2
          have x3 : ((W7.setCell ⟨w.heap.size, 5, none⟩ (.int .u64 T)).setCell ⟨g, 1, none⟩ (.int .i64 2)).cell? ⟨w.heap.size, 3, none⟩ = some (str N) := (a9.bl.cell 3).trans rfl
          have zz3 := a9.bl.frozen 3
          have x4 : ((W7.setCell ⟨w.heap.size, 5, none⟩ (.int .u64 T)).setCell ⟨g, 1, none⟩ (.int .i64 2)).cell? ⟨w.heap.size, 4, none⟩ = some (str U) := (a9.bl.cell 4).trans rfl
          have zz4 := a9.bl.frozen 4
          have x5 : ((W7.setCell ⟨w.heap.size, 5, none⟩ (.int .u64 T)).setCell ⟨g, 1, none⟩ (.int .i64 2)).cell? ⟨w.heap.size, 5, none⟩ = some (.int .u64 T) := (a9.bl.cell 5).trans rfl
          have zz5 := a9.bl.frozen 5
          go_wp2
          try simp only [Exit.inBlock, Exit.then]
          have aF : AllAt 157 w _ g w.heap.size _ (b7, 2) (ccells ⟨K, C, Q, N, U, T⟩) := ((((((a9.set hne (Nat.le_refl _) 0 (.int .i64 K)).set hne (Nat.le_refl _) 1 (.int .i64 C)).set hne (Nat.le_refl _) 2 (.int .u64 Q)).set hne (Nat.le_refl _) 3 (str N)).set hne (Nat.le_refl _) 4 (str U)).set hne (Nat.le_refl _) 5 (.int .u64 T))
          refine bodyPost_ret (results_cell_row rfl _ _ w.heap.size 28 (ccells ⟨K, C, Q, N, U, T⟩) (0, 0) _ rfl aF.bl Try.underlying28 rfl (by kernel_rfl)) rfl ?_
          have aG := aF.rd
          rw [← HQ.out] at aG
          rw [HP.out]
          exact ⟨rfl, _, aG, aF.cg⟩
        · have hl8 : ¬ (0 : Int) < b7.length := by omega
          have HQ : Hid (pform (decide (0 < b7.length)) (b7, 0) = (b7, 0)) := by unfold Hid; rw [decide_eq_false hl7, pform_no]
          have x0 : ((W7.setCell ⟨w.heap.size, 5, none⟩ (.int .u64 T))).cell? ⟨w.heap.size, 0, none⟩ = some (.int .i64 K) := (a8.bl.cell 0).trans rfl
          have zz0 := a8.bl.frozen 0
          have x1 : ((W7.setCell ⟨w.heap.size, 5, none⟩ (.int .u64 T))).cell? ⟨w.heap.size, 1, none⟩ = some (.int .i64 C) := (a8.bl.cell 1).trans rfl
          have zz1 := a8.bl.frozen 1
          have x2 : ((W7.setCell ⟨w.heap.size, 5, none⟩ (.int .u64 T))).cell? ⟨w.heap.size, 2, none⟩ = some (.int .u64 Q) := (a8.bl.cell 2).trans rfl
          have zz2 := a8.bl.frozen 2
          have x3 : ((W7.setCell ⟨w.heap.size, 5, none⟩ (.int .u64 T))).cell? ⟨w.heap.size, 3, none⟩ = some (str N) := (a8.bl.cell 3).trans rfl
          have zz3 := a8.bl.frozen 3
          have x4 : ((W7.setCell ⟨w.heap.size, 5, none⟩ (.int .u64 T))).cell? ⟨w.heap.size, 4, none⟩ = some (str U) := (a8.bl.cell 4).trans rfl
          have zz4 := a8.bl.frozen 4
          have x5 : ((W7.setCell ⟨w.heap.size, 5, none⟩ (.int .u64 T))).cell? ⟨w.heap.size, 5, none⟩ = some (.int .u64 T) := (a8.bl.cell 5).trans rfl
          have zz5 := a8.bl.frozen 5
          go_wp2
          try simp only [Exit.inBlock, Exit.then]
          have aF : AllAt 157 w _ g w.heap.size _ (b7, 0) (ccells ⟨K, C, Q, N, U, T⟩) := ((((((a8.set hne (Nat.le_refl _) 0 (.int .i64 K)).set hne (Nat.le_refl _) 1 (.int .i64 C)).set hne (Nat.le_refl _) 2 (.int .u64 Q)).set hne (Nat.le_refl _) 3 (str N)).set hne (Nat.le_refl _) 4 (str U)).set hne (Nat.le_refl _) 5 (.int .u64 T))
          refine bodyPost_ret (results_cell_row rfl _ _ w.heap.size 28 (ccells ⟨K, C, Q, N, U, T⟩) (0, 0) _ rfl aF.bl Try.underlying28 rfl (by kernel_rfl)) rfl ?_
          have aG := aF.rd
          rw [← HQ.out] at aG
          rw [HP.out]
          exact ⟨rfl, _, aG, aF.cg⟩
      · have HQ : Hid (pform (decide (0 < b7.length)) (b7, e7) = (b7, e7)) := by unfold Hid; exact pform_bad _ _ he7
        have x0 : ((W7.setCell ⟨w.heap.size, 5, none⟩ (.int .u64 T))).cell? ⟨w.heap.size, 0, none⟩ = some (.int .i64 K) := (a8.bl.cell 0).trans rfl
        have zz0 := a8.bl.frozen 0
        have x1 : ((W7.setCell ⟨w.heap.size, 5, none⟩ (.int .u64 T))).cell? ⟨w.heap.size, 1, none⟩ = some (.int .i64 C) := (a8.bl.cell 1).trans rfl
        have zz1 := a8.bl.frozen 1
        have x2 : ((W7.setCell ⟨w.heap.size, 5, none⟩ (.int .u64 T))).cell? ⟨w.heap.size, 2, none⟩ = some (.int .u64 Q) := (a8.bl.cell 2).trans rfl
        have zz2 := a8.bl.frozen 2
        have x3 : ((W7.setCell ⟨w.heap.size, 5, none⟩ (.int .u64 T))).cell? ⟨w.heap.size, 3, none⟩ = some (str N) := (a8.bl.cell 3).trans rfl
        have zz3 := a8.bl.frozen 3
        have x4 : ((W7.setCell ⟨w.heap.size, 5, none⟩ (.int .u64 T))).cell? ⟨w.heap.size, 4, none⟩ = some (str U) := (a8.bl.cell 4).trans rfl
        have zz4 := a8.bl.frozen 4
        have x5 : ((W7.setCell ⟨w.heap.size, 5, none⟩ (.int .u64 T))).cell? ⟨w.heap.size, 5, none⟩ = some (.int .u64 T) := (a8.bl.cell 5).trans rfl
        have zz5 := a8.bl.frozen 5
        go_wp2
        try simp only [Exit.inBlock, Exit.then]
        have aF : AllAt 157 w _ g w.heap.size _ (b7, e7) (ccells ⟨K, C, Q, N, U, T⟩) := ((((((a8.set hne (Nat.le_refl _) 0 (.int .i64 K)).set hne (Nat.le_refl _) 1 (.int .i64 C)).set hne (Nat.le_refl _) 2 (.int .u64 Q)).set hne (Nat.le_refl _) 3 (str N)).set hne (Nat.le_refl _) 4 (str U)).set hne (Nat.le_refl _) 5 (.int .u64 T))
        refine bodyPost_ret (results_cell_row rfl _ _ w.heap.size 28 (ccells ⟨K, C, Q, N, U, T⟩) (0, 0) _ rfl aF.bl Try.underlying28 rfl (by kernel_rfl)) rfl ?_
        have aG := aF.rd
        rw [← HQ.out] at aG
        rw [HP.out]
        exact ⟨rfl, _, aG, aF.cg⟩
end Go.Proofs.Ytlblgopfdadalaa
