/- A part of the proof of 'StoreAll'. -/
import Derived.Test.YtlblgopfdadalaaS15
namespace Go.Proofs.Ytlblgopfdadalaa
set_option linter.unusedVariables false
set_option linter.unusedSimpArgs false
set_option linter.unnecessarySimpa false
set_option maxRecDepth 100000
open Go.RowKit
structure RAt (w0 W : World) (g gc : Nat) (v' : Value) (s : Cur) (c : Array Value) : Prop where
  rd : CurAt 136 W g v' s
  of : Off v' [gc]
  bl : Blk W gc 101 c
  cg : Chg [g] w0 W
theorem RAt.num {w0 W W2 : World} {g gc : Nat} {v' : Value} {s s2 : Cur} {c : Array Value} (h : RAt w0 W g gc v' s c) (hne : g ≠ gc) (r : CurTo 136 W W2 g v' s2) : ∃ v'', RAt w0 W2 g gc v'' s2 c := by
  obtain ⟨v'', hr, hc, ho⟩ := r
  exact ⟨v'', hr, ho _ h.of, h.bl.chg hc (by simp; omega), h.cg.trans hc⟩
theorem CurTo.to {W W2 : World} {T : TypeId} {g gc : Nat} {v' : Value} {s2 : Cur} (r : CurTo T W W2 g v' s2) : Chg [g, gc] W W2 := by
  obtain ⟨v'', hr, hc, ho⟩ := r
  exact hc.mono (by simp)
theorem RAt.set {w0 W : World} {g gc : Nat} {v' : Value} {s : Cur} {c : Array Value} (h : RAt w0 W g gc v' s c) (hne : g ≠ gc) (hgc : w0.heap.size ≤ gc) (i : Nat) (u : Value) :
    RAt w0 (W.setCell ⟨gc, i, none⟩ u) g gc v' s (c.setIfInBounds i u) :=
  ⟨h.rd.chg ((Chg.refl [gc] W).set (by simp) u) (by simp; omega) h.of, h.of, h.bl.set_ i u, h.cg.then_new ((Chg.refl [gc] W).set (by simp) u) (by simp; omega)⟩
theorem RAt.drew {w0 W : World} {g gc : Nat} {v' : Value} {s : Cur} {c : Array Value} (h : RAt w0 W g gc v' s c) : RAt w0 W.drew g gc v' s c :=
  ⟨⟨h.rd.blk, h.rd.bs, h.rd.off, h.rd.len⟩, h.of, h.bl, h.cg.drew⟩
def RR (w0 : World) (g gc : Nat) (S : Nat → Cur) (C : Nat → Array Value → World → Prop) (i : Nat) (W : World) : Prop := ∃ v' c, C i c W ∧ RAt w0 W g gc v' (S i) c
theorem put9 {W : World} {g : Nat} {T : TypeId} {c0 c1 c2 c3 c4 c5 c6 c7 c8 : Value} (h : Blk W g T #[c0, c1, c2, c3, c4, c5, c6, c7, c8]) (a b c d e f i j k : Value) :
    Blk (((((((((W.setCell ⟨g, 0, none⟩ a).setCell ⟨g, 1, none⟩ b).setCell ⟨g, 2, none⟩ c).setCell ⟨g, 3, none⟩ d).setCell ⟨g, 4, none⟩ e).setCell ⟨g, 5, none⟩ f).setCell ⟨g, 6, none⟩ i).setCell ⟨g, 7, none⟩ j).setCell ⟨g, 8, none⟩ k) g T #[a, b, c, d, e, f, i, j, k] ∧
    Chg [g] W (((((((((W.setCell ⟨g, 0, none⟩ a).setCell ⟨g, 1, none⟩ b).setCell ⟨g, 2, none⟩ c).setCell ⟨g, 3, none⟩ d).setCell ⟨g, 4, none⟩ e).setCell ⟨g, 5, none⟩ f).setCell ⟨g, 6, none⟩ i).setCell ⟨g, 7, none⟩ j).setCell ⟨g, 8, none⟩ k) := by
  have h0 : Blk (W.setCell ⟨g, 0, none⟩ a) g T #[a, c1, c2, c3, c4, c5, c6, c7, c8] := h.set_ 0 a
  have h1 : Blk ((W.setCell ⟨g, 0, none⟩ a).setCell ⟨g, 1, none⟩ b) g T #[a, b, c2, c3, c4, c5, c6, c7, c8] := h0.set_ 1 b
  have h2 : Blk (((W.setCell ⟨g, 0, none⟩ a).setCell ⟨g, 1, none⟩ b).setCell ⟨g, 2, none⟩ c) g T #[a, b, c, c3, c4, c5, c6, c7, c8] := h1.set_ 2 c
  have h3 : Blk ((((W.setCell ⟨g, 0, none⟩ a).setCell ⟨g, 1, none⟩ b).setCell ⟨g, 2, none⟩ c).setCell ⟨g, 3, none⟩ d) g T #[a, b, c, d, c4, c5, c6, c7, c8] := h2.set_ 3 d
  have h4 : Blk (((((W.setCell ⟨g, 0, none⟩ a).setCell ⟨g, 1, none⟩ b).setCell ⟨g, 2, none⟩ c).setCell ⟨g, 3, none⟩ d).setCell ⟨g, 4, none⟩ e) g T #[a, b, c, d, e, c5, c6, c7, c8] := h3.set_ 4 e
  have h5 : Blk ((((((W.setCell ⟨g, 0, none⟩ a).setCell ⟨g, 1, none⟩ b).setCell ⟨g, 2, none⟩ c).setCell ⟨g, 3, none⟩ d).setCell ⟨g, 4, none⟩ e).setCell ⟨g, 5, none⟩ f) g T #[a, b, c, d, e, f, c6, c7, c8] := h4.set_ 5 f
  have h6 : Blk (((((((W.setCell ⟨g, 0, none⟩ a).setCell ⟨g, 1, none⟩ b).setCell ⟨g, 2, none⟩ c).setCell ⟨g, 3, none⟩ d).setCell ⟨g, 4, none⟩ e).setCell ⟨g, 5, none⟩ f).setCell ⟨g, 6, none⟩ i) g T #[a, b, c, d, e, f, i, c7, c8] := h5.set_ 6 i
  have h7 : Blk ((((((((W.setCell ⟨g, 0, none⟩ a).setCell ⟨g, 1, none⟩ b).setCell ⟨g, 2, none⟩ c).setCell ⟨g, 3, none⟩ d).setCell ⟨g, 4, none⟩ e).setCell ⟨g, 5, none⟩ f).setCell ⟨g, 6, none⟩ i).setCell ⟨g, 7, none⟩ j) g T #[a, b, c, d, e, f, i, j, c8] := h6.set_ 7 j
  have h8 : Blk (((((((((W.setCell ⟨g, 0, none⟩ a).setCell ⟨g, 1, none⟩ b).setCell ⟨g, 2, none⟩ c).setCell ⟨g, 3, none⟩ d).setCell ⟨g, 4, none⟩ e).setCell ⟨g, 5, none⟩ f).setCell ⟨g, 6, none⟩ i).setCell ⟨g, 7, none⟩ j).setCell ⟨g, 8, none⟩ k) g T #[a, b, c, d, e, f, i, j, k] := h7.set_ 8 k
  exact ⟨h8, (((((((((Chg.refl [g] W).set (by simp) a).set (by simp) b).set (by simp) c).set (by simp) d).set (by simp) e).set (by simp) f).set (by simp) i).set (by simp) j).set (by simp) k⟩
/-- what the call returns: the record; its bytes lie in new memory -/
def RetRec (w w' : World) (g : Nat) (e : Ending) (r : Rec × Cur) : Prop :=
  ∃ (cs : List Value) (v' : Value), e = .returned (.agg cs.toArray) ∧ reE.rep w' (fun k => k < w.heap.size) cs r.1 ∧ CurAt 136 w' g v' r.2 ∧ Chg [g] w w'
set_option maxHeartbeats 6400000 in
theorem record_b (g : Nat) (v : Value) (b : Bytes) (w : World) (h : CurAt 136 w g v (b, true)) :
    Calls Try.prog 82 #[.pointer (some ⟨g, 0, none⟩)] w fun e w' => RetRec w w' g e (lrec b) := by
  have hgl := h.blk.lt
  have hne : g ≠ w.heap.size := by omega
  obtain ⟨K, s1, hA⟩ : ∃ K s1, lnum 1 (b, true) = (K, s1) := ⟨_, _, rfl⟩
  obtain ⟨T, s2, hB⟩ : ∃ T s2, lnum 8 s1 = (T, s2) := ⟨_, _, rfl⟩
  obtain ⟨V, s3, hC⟩ : ∃ V s3, lnum 1 s2 = (V, s3) := ⟨_, _, rfl⟩
  obtain ⟨U, s4, hD⟩ : ∃ U s4, lnum 8 s2 = (U, s4) := ⟨_, _, rfl⟩
  have HP : Hid (lrec b = if K = 1 then (⟨1, ⟨T, V⟩, En0, 0, Sn0⟩, s3) else if K = 2 then (⟨2, Hd0, ⟨T, s2.1⟩, 0, Sn0⟩, ([], s2.2)) else if K = 3 then (⟨3, Hd0, En0, T, Sn0⟩, s2)
      else if K = 4 then (⟨4, Hd0, En0, 0, ⟨T, U, s4.1⟩⟩, ([], s4.2)) else (⟨K, Hd0, En0, 0, Sn0⟩, s1)) := by
    unfold Hid lrec; simp only [hA, hB, hC, hD]
  have p1 := lnum_rng 1 (b, true) (by omega)
  have p1' := lnum_one (b, true)
  have p2 := lnum_rng 8 s1 (by omega)
  have p3 := lnum_rng 1 s2 (by omega)
  have p3' := lnum_one s2
  have p4 := lnum_rng 8 s2 (by omega)
  have n1 := fun W v h => cnum_b 136 g v (b, true) 1 W h (by omega)
  have n2 := fun W v h => cnum_b 136 g v s1 8 W h (by omega)
  have n3 := fun W v h => cnum_b 136 g v s2 1 W h (by omega)
  have n4 := fun W v h => cnum_b 136 g v s2 8 W h (by omega)
  have r2 := fun W v h => crest_b 136 g v s2 W h
  have r4 := fun W v h => crest_b 136 g v s4 W h
  rw [hA] at n1 p1 p1'
  rw [hB] at n2 p2
  rw [hC] at n3 p3 p3'
  rw [hD] at n4 p4
  simp only at p1 p1' p2 p3 p3' p4
  clear hA hB hC hD
  have N1 := hide n1
  have N2 := hide n2
  have N3 := hide n3
  have N4 := hide n4
  have R2 := hide r2
  have R4 := hide r4
  clear n1 n2 n3 n4 r2 r4
  have hx0 : Ext w (w.alloc (.cells #[.int .i64 0, .int .u64 0, .int .i64 0, .int .u64 0, .slice none 0 0, .int .u64 0, .int .u64 0, .int .u64 0, .slice none 0 0] 101)) := (Ext.rfl' w).alloc' _
  have hX := Blk.new w 101 #[.int .i64 0, .int .u64 0, .int .i64 0, .int .u64 0, .slice none 0 0, .int .u64 0, .int .u64 0, .int .u64 0, .slice none 0 0]
  have a0 : RAt w (w.alloc (.cells #[.int .i64 0, .int .u64 0, .int .i64 0, .int .u64 0, .slice none 0 0, .int .u64 0, .int .u64 0, .int .u64 0, .slice none 0 0] 101)) g w.heap.size v (b, true) _ :=
    ⟨h.ext hx0, h.bs.off (by simp), hX, hx0.chg _⟩
  go_enter Try.func82, Try.ntmps82
  go_wp2_with fail
  refine (N1.out _ v a0.rd).mono ?_
  rintro e W1 ⟨rfl, rr⟩
  obtain ⟨v1, a1⟩ := a0.num hne rr
  have z0 := a1.bl.frozen 0
  have d0 := (a1.bl.cell 0).trans rfl
  have a2 := a1.set hne (Nat.le_refl _) 0 (.int .i64 K)
  have hwK : IntKind.i64.wrap K = K := by rw [IntKind.wrap_i64]; omega
  have e0 := (a2.bl.cell 0).trans rfl
  go_upto_region 3 with fail
  generalize W1.setCell ⟨w.heap.size, 0, none⟩ (.int .i64 K) = W2 at *
  clear z0 d0 e0 a0 a1 rr hx0 hX
  by_cases hk1 : K = 1
  · subst hk1
    have HQ : Hid (lrec b = (⟨1, ⟨T, V⟩, En0, 0, Sn0⟩, s3)) := by unfold Hid; rw [HP.out, if_pos rfl]
    have hwV : IntKind.i64.wrap V = V := by rw [IntKind.wrap_i64]; omega
    go_upto_region 4 with fail
    refine Rg.regionW Try.checked.mixed 68 15 (by kernel_rfl) [
      (false, (fun x_ _ => x_ = .pointer (some ⟨g, 0, none⟩))),
      (false, (fun x_ _ => x_ = .pointer (some ⟨g, 0, none⟩))),
      (false, (fun x_ _ => x_ = .pointer (some ⟨g, 0, none⟩))),
      (true, (fun x_ _ => x_ = .int .u64 T)),
      (false, (fun x_ _ => x_ = .pointer (some ⟨g, 0, none⟩))),
      (false, (fun x_ _ => x_ = .pointer (some ⟨g, 0, none⟩))),
      (false, (fun x_ _ => x_ = .pointer (some ⟨g, 0, none⟩))),
      (true, (fun x_ _ => x_ = .int .u64 V)),
      (false, (fun x_ _ => x_ = .int .i64 V)),
      (false, (fun x_ _ => x_ = .pointer (some ⟨w.heap.size, 1, none⟩))),
      (false, (fun x_ _ => x_ = .pointer (some ⟨w.heap.size, 1, none⟩))),
      (true, (fun x_ _ => x_ = undef)),
      (false, (fun x_ _ => x_ = .pointer (some ⟨w.heap.size, 1, none⟩))),
      (false, (fun x_ _ => x_ = .pointer (some ⟨w.heap.size, 2, none⟩))),
      (true, (fun x_ _ => x_ = undef))] (by kernel_rfl) ((RR w g w.heap.size (fun i => match i with | 0 => s1 | 1 => s2 | _ => s3) (fun i c W => match i with | 3 => c = #[.int .i64 1, .int .u64 T, .int .i64 0, .int .u64 0, .slice none 0 0, .int .u64 0, .int .u64 0, .int .u64 0, .slice none 0 0] | 4 => c = #[.int .i64 1, .int .u64 T, .int .i64 V, .int .u64 0, .slice none 0 0, .int .u64 0, .int .u64 0, .int .u64 0, .slice none 0 0] | _ => c = #[.int .i64 1, .int .u64 0, .int .i64 0, .int .u64 0, .slice none 0 0, .int .u64 0, .int .u64 0, .int .u64 0, .slice none 0 0]))) (Chg [g, w.heap.size]) rfl rfl rfl
      ?st ⟨v1, _, rfl, a2.drew⟩ ?ob ?en
    case st => exact ⟨fun _ _ _ h _ => h, fun _ _ _ h _ => h, fun _ _ _ h _ => h, fun _ _ _ h _ => h, fun _ _ _ h _ => h, fun _ _ _ h _ => h, fun _ _ _ h _ => h, fun _ _ _ h _ => h, fun _ _ _ h _ => h, fun _ _ _ h _ => h, fun _ _ _ h _ => h, fun _ _ _ h _ => h, fun _ _ _ h _ => h, fun _ _ _ h _ => h, fun _ _ _ h _ => h, trivial⟩
    case ob =>
      refine ⟨fun i => Rg.at_runW [0] rfl ?_, ?_⟩
      · intro ρ W hR ⟨q0, _⟩
        replace q0 : ρ 0 = .pointer (some ⟨g, 0, none⟩) := q0
        refine ⟨rfl, ?_⟩
        exact Rg.run_ok (v := .pointer (some ⟨g, 0, none⟩)) (by simp [execOp, Rg.ev, go_sem, q0]) ⟨rfl, hR, Chg.refl _ _⟩
      refine ⟨fun i => Rg.at_runW [13] rfl ?_, ?_⟩
      · intro ρ W hR ⟨q13, _⟩
        replace q13 : ρ 13 = .pointer (some ⟨g, 0, none⟩) := q13
        refine ⟨rfl, ?_⟩
        exact Rg.run_ok (v := .pointer (some ⟨g, 0, none⟩)) (by simp [execOp, Rg.ev, go_sem, q13]) ⟨rfl, hR, Chg.refl _ _⟩
      refine ⟨fun i => Rg.at_runW [14] rfl ?_, ?_⟩
      · intro ρ W hR ⟨q14, _⟩
        replace q14 : ρ 14 = .pointer (some ⟨g, 0, none⟩) := q14
        refine ⟨rfl, ?_⟩
        exact Rg.run_ok (v := .pointer (some ⟨g, 0, none⟩)) (by simp [execOp, Rg.ev, go_sem, q14]) ⟨rfl, hR, Chg.refl _ _⟩
      refine ⟨Rg.at_runW [15] rfl ?_, ?_⟩
      · intro ρ W hR ⟨q15, _⟩
        replace q15 : ρ 15 = .pointer (some ⟨g, 0, none⟩) := q15
        refine ⟨rfl, ?_⟩
        obtain ⟨v5, c5, hc5, h5⟩ := hR
        refine Rg.run_enter (by simp [execOp, Rg.ev, go_sem, q15]; exact ⟨⟨rfl, rfl⟩, rfl⟩) ?_
        refine (N2.out W v5 h5.rd).mono ?_
        rintro e W2 ⟨rfl, r5⟩
        obtain ⟨v6, h6⟩ := h5.num hne r5
        exact ⟨_, rfl, rfl, ⟨v6, c5, hc5, h6⟩, r5.to⟩
      refine ⟨fun i => Rg.at_runW [0] rfl ?_, ?_⟩
      · intro ρ W hR ⟨q0, _⟩
        replace q0 : ρ 0 = .pointer (some ⟨g, 0, none⟩) := q0
        refine ⟨rfl, ?_⟩
        exact Rg.run_ok (v := .pointer (some ⟨g, 0, none⟩)) (by simp [execOp, Rg.ev, go_sem, q0]) ⟨rfl, hR, Chg.refl _ _⟩
      refine ⟨fun i => Rg.at_runW [17] rfl ?_, ?_⟩
      · intro ρ W hR ⟨q17, _⟩
        replace q17 : ρ 17 = .pointer (some ⟨g, 0, none⟩) := q17
        refine ⟨rfl, ?_⟩
        exact Rg.run_ok (v := .pointer (some ⟨g, 0, none⟩)) (by simp [execOp, Rg.ev, go_sem, q17]) ⟨rfl, hR, Chg.refl _ _⟩
      refine ⟨fun i => Rg.at_runW [18] rfl ?_, ?_⟩
      · intro ρ W hR ⟨q18, _⟩
        replace q18 : ρ 18 = .pointer (some ⟨g, 0, none⟩) := q18
        refine ⟨rfl, ?_⟩
        exact Rg.run_ok (v := .pointer (some ⟨g, 0, none⟩)) (by simp [execOp, Rg.ev, go_sem, q18]) ⟨rfl, hR, Chg.refl _ _⟩
      refine ⟨Rg.at_runW [19] rfl ?_, ?_⟩
      · intro ρ W hR ⟨q19, _⟩
        replace q19 : ρ 19 = .pointer (some ⟨g, 0, none⟩) := q19
        refine ⟨rfl, ?_⟩
        obtain ⟨v5, c5, hc5, h5⟩ := hR
        refine Rg.run_enter (by simp [execOp, Rg.ev, go_sem, q19]; exact ⟨⟨rfl, rfl⟩, rfl⟩) ?_
        refine (N3.out W v5 h5.rd).mono ?_
        rintro e W2 ⟨rfl, r5⟩
        obtain ⟨v6, h6⟩ := h5.num hne r5
        exact ⟨_, rfl, rfl, ⟨v6, c5, hc5, h6⟩, r5.to⟩
      refine ⟨fun i => Rg.at_runW [20] rfl ?_, ?_⟩
      · intro ρ W hR ⟨q20, _⟩
        replace q20 : ρ 20 = .int .u64 V := q20
        refine ⟨rfl, ?_⟩
        exact Rg.run_ok (v := .int .i64 V) (by simp [execOp, Rg.ev, go_sem, q20, hwV]) ⟨rfl, hR, Chg.refl _ _⟩
      refine ⟨fun i => Rg.at_runW [2] rfl ?_, ?_⟩
      · intro ρ W hR ⟨q2, _⟩
        replace q2 : ρ 2 = .pointer (some ⟨w.heap.size, 0, none⟩) := q2
        refine ⟨rfl, ?_⟩
        exact Rg.run_ok (v := .pointer (some ⟨w.heap.size, 1, none⟩)) (by simp [execOp, Rg.ev, go_sem, q2]) ⟨rfl, hR, Chg.refl _ _⟩
      refine ⟨fun i => Rg.at_runW [22] rfl ?_, ?_⟩
      · intro ρ W hR ⟨q22, _⟩
        replace q22 : ρ 22 = .pointer (some ⟨w.heap.size, 1, none⟩) := q22
        refine ⟨rfl, ?_⟩
        exact Rg.run_ok (v := .pointer (some ⟨w.heap.size, 1, none⟩)) (by simp [execOp, Rg.ev, go_sem, q22]) ⟨rfl, hR, Chg.refl _ _⟩
      refine ⟨Rg.at_runW [23, 16] rfl ?_, ?_⟩
      · intro ρ W hR ⟨q23, q16, _⟩
        replace q23 : ρ 23 = .pointer (some ⟨w.heap.size, 1, none⟩) := q23
        replace q16 : ρ 16 = .int .u64 T := q16
        refine ⟨rfl, ?_⟩
        obtain ⟨v5, c5, hc5, h5⟩ := hR
        obtain rfl : c5 = #[.int .i64 1, .int .u64 0, .int .i64 0, .int .u64 0, .slice none 0 0, .int .u64 0, .int .u64 0, .int .u64 0, .slice none 0 0] := hc5
        have z := h5.bl.frozen 1
        have hc : W.cell? ⟨w.heap.size, 1, none⟩ = some (.int .u64 0) := (h5.bl.cell 1).trans rfl
        exact Rg.run_skip (W' := W.setCell ⟨w.heap.size, 1, none⟩ (.int .u64 T)) (by simp [execOp, Rg.ev, go_sem, q23, q16, z, hc]) ⟨rfl, ⟨v5, _, rfl, h5.set hne (Nat.le_refl _) 1 (.int .u64 T)⟩, (Chg.refl _ _).set (by simp) _⟩
      refine ⟨fun i => Rg.at_runW [2] rfl ?_, ?_⟩
      · intro ρ W hR ⟨q2, _⟩
        replace q2 : ρ 2 = .pointer (some ⟨w.heap.size, 0, none⟩) := q2
        refine ⟨rfl, ?_⟩
        exact Rg.run_ok (v := .pointer (some ⟨w.heap.size, 1, none⟩)) (by simp [execOp, Rg.ev, go_sem, q2]) ⟨rfl, hR, Chg.refl _ _⟩
      refine ⟨fun i => Rg.at_runW [24] rfl ?_, ?_⟩
      · intro ρ W hR ⟨q24, _⟩
        replace q24 : ρ 24 = .pointer (some ⟨w.heap.size, 1, none⟩) := q24
        refine ⟨rfl, ?_⟩
        exact Rg.run_ok (v := .pointer (some ⟨w.heap.size, 2, none⟩)) (by simp [execOp, Rg.ev, go_sem, q24]) ⟨rfl, hR, Chg.refl _ _⟩
      refine ⟨Rg.at_runW [25, 21] rfl ?_, ?_⟩
      · intro ρ W hR ⟨q25, q21, _⟩
        replace q25 : ρ 25 = .pointer (some ⟨w.heap.size, 2, none⟩) := q25
        replace q21 : ρ 21 = .int .i64 V := q21
        refine ⟨rfl, ?_⟩
        obtain ⟨v5, c5, hc5, h5⟩ := hR
        obtain rfl : c5 = #[.int .i64 1, .int .u64 T, .int .i64 0, .int .u64 0, .slice none 0 0, .int .u64 0, .int .u64 0, .int .u64 0, .slice none 0 0] := hc5
        have z := h5.bl.frozen 2
        have hc : W.cell? ⟨w.heap.size, 2, none⟩ = some (.int .i64 0) := (h5.bl.cell 2).trans rfl
        exact Rg.run_skip (W' := W.setCell ⟨w.heap.size, 2, none⟩ (.int .i64 V)) (by simp [execOp, Rg.ev, go_sem, q25, q21, z, hc]) ⟨rfl, ⟨v5, _, rfl, h5.set hne (Nat.le_refl _) 2 (.int .i64 V)⟩, (Chg.refl _ _).set (by simp) _⟩
      trivial
    case en =>
      intro tm W hR hsz hk
      rw [Rg.fin_eq (ds := [13, 14, 15, 16, 17, 18, 19, 20, 21, 22, 23, 24, 25]) rfl rfl rfl hsz hk]
      have k13 : tm.getD 13 undef = .pointer (some ⟨g, 0, none⟩) := hk 13
      have k14 : tm.getD 14 undef = .pointer (some ⟨g, 0, none⟩) := hk 14
      have k15 : tm.getD 15 undef = .pointer (some ⟨g, 0, none⟩) := hk 15
      have k16 : tm.getD 16 undef = .int .u64 T := hk 16
      have k17 : tm.getD 17 undef = .pointer (some ⟨g, 0, none⟩) := hk 17
      have k18 : tm.getD 18 undef = .pointer (some ⟨g, 0, none⟩) := hk 18
      have k19 : tm.getD 19 undef = .pointer (some ⟨g, 0, none⟩) := hk 19
      have k20 : tm.getD 20 undef = .int .u64 V := hk 20
      have k21 : tm.getD 21 undef = .int .i64 V := hk 21
      have k22 : tm.getD 22 undef = .pointer (some ⟨w.heap.size, 1, none⟩) := hk 22
      have k23 : tm.getD 23 undef = .pointer (some ⟨w.heap.size, 1, none⟩) := hk 23
      have k24 : tm.getD 24 undef = .pointer (some ⟨w.heap.size, 1, none⟩) := hk 24
      have k25 : tm.getD 25 undef = .pointer (some ⟨w.heap.size, 2, none⟩) := hk 25
      clear hk hsz
      simp only [Rg.putAll, List.setIfInBounds_toArray, List.set_cons_zero, List.set_cons_succ, k13, k14, k15, k16, k17, k18, k19, k20, k21, k22, k23, k24, k25]
      clear k13
      clear k14
      clear k15
      clear k16
      clear k17
      clear k18
      clear k19
      clear k20
      clear k21
      clear k22
      clear k23
      clear k24
      clear k25
      refine Rg.nil_list ?_
      obtain ⟨vF, cF, hcF, aF⟩ := hR
      obtain rfl : cF = #[.int .i64 1, .int .u64 T, .int .i64 V, .int .u64 0, .slice none 0 0, .int .u64 0, .int .u64 0, .int .u64 0, .slice none 0 0] := hcF
      replace aF : RAt w W g w.heap.size vF s3 #[.int .i64 1, .int .u64 T, .int .i64 V, .int .u64 0, .slice none 0 0, .int .u64 0, .int .u64 0, .int .u64 0, .slice none 0 0] := aF
      have x0 := (aF.bl.cell 0).trans rfl
      have zz0 := aF.bl.frozen 0
      have x1 := (aF.bl.cell 1).trans rfl
      have zz1 := aF.bl.frozen 1
      have x2 := (aF.bl.cell 2).trans rfl
      have zz2 := aF.bl.frozen 2
      have x3 := (aF.bl.cell 3).trans rfl
      have zz3 := aF.bl.frozen 3
      have x4 := (aF.bl.cell 4).trans rfl
      have zz4 := aF.bl.frozen 4
      have x5 := (aF.bl.cell 5).trans rfl
      have zz5 := aF.bl.frozen 5
      have x6 := (aF.bl.cell 6).trans rfl
      have zz6 := aF.bl.frozen 6
      have x7 := (aF.bl.cell 7).trans rfl
      have zz7 := aF.bl.frozen 7
      have x8 := (aF.bl.cell 8).trans rfl
      have zz8 := aF.bl.frozen 8
      go_wp2
      try simp only [Exit.inBlock, Exit.then]
      obtain ⟨hfin, hcf⟩ := put9 aF.bl (.int .i64 1) (.int .u64 T) (.int .i64 V) (.int .u64 0) (.slice none 0 0) (.int .u64 0) (.int .u64 0) (.int .u64 0) (.slice none 0 0)
      refine bodyPost_ret (results_cell_row rfl _ _ w.heap.size 101 #[.int .i64 1, .int .u64 T, .int .i64 V, .int .u64 0, .slice none 0 0, .int .u64 0, .int .u64 0, .int .u64 0, .slice none 0 0] (0, 0) _ rfl hfin Try.underlying101 rfl (by kernel_rfl)) rfl ?_
      rw [HQ.out]
      refine ⟨[.int .i64 1, .int .u64 T, .int .i64 V, .int .u64 0, .slice none 0 0, .int .u64 0, .int .u64 0, .int .u64 0, .slice none 0 0], _, rfl, re_rep.2 ⟨_, _, rfl, ⟨by simp [Hd0, En0, Sn0] <;> omega, by simp [Hd0, En0, Sn0] <;> omega, by simp [Hd0, En0, Sn0] <;> omega, by simp [Hd0, En0, Sn0] <;> omega, by simp [Hd0, En0, Sn0] <;> omega, by simp [Hd0, En0, Sn0] <;> omega, by simp [Hd0, En0, Sn0] <;> omega, by simp [Hd0, En0, Sn0] <;> omega, by simp [Hd0, En0, Sn0] <;> omega, by simp [Hd0, En0, Sn0] <;> omega, by simp [Hd0, En0, Sn0] <;> omega, by simp [Hd0, En0, Sn0] <;> omega, by simp [Hd0, En0, Sn0] <;> omega, by simp [Hd0, En0, Sn0] <;> omega⟩, Enc.BsX.nil _ _, Enc.BsX.nil _ _⟩, aF.rd.chg hcf (by simp; omega) aF.of, aF.cg.then_new hcf (by simp)⟩
  · by_cases hk2 : K = 2
    · subst hk2
      have HQ : Hid (lrec b = (⟨2, Hd0, ⟨T, s2.1⟩, 0, Sn0⟩, ([], s2.2))) := by unfold Hid; rw [HP.out, if_neg (by decide), if_pos rfl]
      go_upto_region 6 with fail
      refine Rg.regionW Try.checked.mixed 68 14 (by kernel_rfl) [
        (false, (fun x_ _ => x_ = .pointer (some ⟨g, 0, none⟩))),
        (false, (fun x_ _ => x_ = .pointer (some ⟨g, 0, none⟩))),
        (false, (fun x_ _ => x_ = .pointer (some ⟨g, 0, none⟩))),
        (true, (fun x_ _ => x_ = .int .u64 T)),
        (false, (fun x_ _ => x_ = .pointer (some ⟨g, 0, none⟩))),
        (false, (fun x_ _ => x_ = .pointer (some ⟨g, 0, none⟩))),
        (false, (fun x_ _ => x_ = .pointer (some ⟨g, 0, none⟩))),
        (true, (fun v W => Nw w W v (s2.1) ∧ ∀ k, v.ownBlock = some k → w.heap.size < k)),
        (false, (fun x_ _ => x_ = .pointer (some ⟨w.heap.size, 3, none⟩))),
        (false, (fun x_ _ => x_ = .pointer (some ⟨w.heap.size, 3, none⟩))),
        (true, (fun x_ _ => x_ = undef)),
        (false, (fun x_ _ => x_ = .pointer (some ⟨w.heap.size, 3, none⟩))),
        (false, (fun x_ _ => x_ = .pointer (some ⟨w.heap.size, 4, none⟩))),
        (true, (fun x_ _ => x_ = undef))] (by kernel_rfl) ((RR w g w.heap.size (fun i => match i with | 0 => s1 | 1 => s2 | _ => ([], s2.2)) (fun i c W => match i with | 3 => c = #[.int .i64 2, .int .u64 0, .int .i64 0, .int .u64 T, .slice none 0 0, .int .u64 0, .int .u64 0, .int .u64 0, .slice none 0 0] | 4 => ∃ A5 c6, c = #[.int .i64 2, .int .u64 0, .int .i64 0, .int .u64 T, .slice A5 s2.1.length c6, .int .u64 0, .int .u64 0, .int .u64 0, .slice none 0 0] ∧ Nw w W (.slice A5 s2.1.length c6) s2.1 ∧ ∀ k, (Value.slice A5 s2.1.length c6).ownBlock = some k → w.heap.size < k | _ => c = #[.int .i64 2, .int .u64 0, .int .i64 0, .int .u64 0, .slice none 0 0, .int .u64 0, .int .u64 0, .int .u64 0, .slice none 0 0]))) (Chg [g, w.heap.size]) rfl rfl rfl
        ?st ⟨v1, _, rfl, a2.drew⟩ ?ob ?en
      case st => exact ⟨fun _ _ _ h _ => h, fun _ _ _ h _ => h, fun _ _ _ h _ => h, fun _ _ _ h _ => h, fun _ _ _ h _ => h, fun _ _ _ h _ => h, fun _ _ _ h _ => h, fun _ _ _ h hx => ⟨h.1.chg hx (fun k hk => by have := h.2 k hk; simp; omega), h.2⟩, fun _ _ _ h _ => h, fun _ _ _ h _ => h, fun _ _ _ h _ => h, fun _ _ _ h _ => h, fun _ _ _ h _ => h, fun _ _ _ h _ => h, trivial⟩
      case ob =>
        refine ⟨fun i => Rg.at_runW [0] rfl ?_, ?_⟩
        · intro ρ W hR ⟨q0, _⟩
          replace q0 : ρ 0 = .pointer (some ⟨g, 0, none⟩) := q0
          refine ⟨rfl, ?_⟩
          exact Rg.run_ok (v := .pointer (some ⟨g, 0, none⟩)) (by simp [execOp, Rg.ev, go_sem, q0]) ⟨rfl, hR, Chg.refl _ _⟩
        refine ⟨fun i => Rg.at_runW [28] rfl ?_, ?_⟩
        · intro ρ W hR ⟨q28, _⟩
          replace q28 : ρ 28 = .pointer (some ⟨g, 0, none⟩) := q28
          refine ⟨rfl, ?_⟩
          exact Rg.run_ok (v := .pointer (some ⟨g, 0, none⟩)) (by simp [execOp, Rg.ev, go_sem, q28]) ⟨rfl, hR, Chg.refl _ _⟩
        refine ⟨fun i => Rg.at_runW [29] rfl ?_, ?_⟩
        · intro ρ W hR ⟨q29, _⟩
          replace q29 : ρ 29 = .pointer (some ⟨g, 0, none⟩) := q29
          refine ⟨rfl, ?_⟩
          exact Rg.run_ok (v := .pointer (some ⟨g, 0, none⟩)) (by simp [execOp, Rg.ev, go_sem, q29]) ⟨rfl, hR, Chg.refl _ _⟩
        refine ⟨Rg.at_runW [30] rfl ?_, ?_⟩
        · intro ρ W hR ⟨q30, _⟩
          replace q30 : ρ 30 = .pointer (some ⟨g, 0, none⟩) := q30
          refine ⟨rfl, ?_⟩
          obtain ⟨v5, c5, hc5, h5⟩ := hR
          refine Rg.run_enter (by simp [execOp, Rg.ev, go_sem, q30]; exact ⟨⟨rfl, rfl⟩, rfl⟩) ?_
          refine (N2.out W v5 h5.rd).mono ?_
          rintro e W2 ⟨rfl, r5⟩
          obtain ⟨v6, h6⟩ := h5.num hne r5
          exact ⟨_, rfl, rfl, ⟨v6, c5, hc5, h6⟩, r5.to⟩
        refine ⟨fun i => Rg.at_runW [0] rfl ?_, ?_⟩
        · intro ρ W hR ⟨q0, _⟩
          replace q0 : ρ 0 = .pointer (some ⟨g, 0, none⟩) := q0
          refine ⟨rfl, ?_⟩
          exact Rg.run_ok (v := .pointer (some ⟨g, 0, none⟩)) (by simp [execOp, Rg.ev, go_sem, q0]) ⟨rfl, hR, Chg.refl _ _⟩
        refine ⟨fun i => Rg.at_runW [32] rfl ?_, ?_⟩
        · intro ρ W hR ⟨q32, _⟩
          replace q32 : ρ 32 = .pointer (some ⟨g, 0, none⟩) := q32
          refine ⟨rfl, ?_⟩
          exact Rg.run_ok (v := .pointer (some ⟨g, 0, none⟩)) (by simp [execOp, Rg.ev, go_sem, q32]) ⟨rfl, hR, Chg.refl _ _⟩
        refine ⟨fun i => Rg.at_runW [33] rfl ?_, ?_⟩
        · intro ρ W hR ⟨q33, _⟩
          replace q33 : ρ 33 = .pointer (some ⟨g, 0, none⟩) := q33
          refine ⟨rfl, ?_⟩
          exact Rg.run_ok (v := .pointer (some ⟨g, 0, none⟩)) (by simp [execOp, Rg.ev, go_sem, q33]) ⟨rfl, hR, Chg.refl _ _⟩
        refine ⟨Rg.at_runW [34] rfl ?_, ?_⟩
        · intro ρ W hR ⟨q34, _⟩
          replace q34 : ρ 34 = .pointer (some ⟨g, 0, none⟩) := q34
          refine ⟨rfl, ?_⟩
          obtain ⟨v5, c5, hc5, h5⟩ := hR
          have hsz := h5.cg.size
          have hgc := h5.bl.lt
          refine Rg.run_enter (by simp [execOp, Rg.ev, go_sem, q34]; exact ⟨⟨rfl, rfl⟩, rfl⟩) ?_
          refine (R2.out W v5 h5.rd).mono ?_
          rintro e W2 ⟨⟨m, A5, c6, hm, rfl, hz⟩, r5⟩
          have hm' := hm.out
          subst hm'
          obtain ⟨v6, h6⟩ := h5.num hne r5
          exact ⟨_, rfl, ⟨own_base hz hsz, fun k hk => Nat.lt_of_lt_of_le hgc (hz.lt k hk).1⟩, ⟨v6, c5, hc5, h6⟩, r5.to⟩
        refine ⟨fun i => Rg.at_runW [2] rfl ?_, ?_⟩
        · intro ρ W hR ⟨q2, _⟩
          replace q2 : ρ 2 = .pointer (some ⟨w.heap.size, 0, none⟩) := q2
          refine ⟨rfl, ?_⟩
          exact Rg.run_ok (v := .pointer (some ⟨w.heap.size, 3, none⟩)) (by simp [execOp, Rg.ev, go_sem, q2]) ⟨rfl, hR, Chg.refl _ _⟩
        refine ⟨fun i => Rg.at_runW [36] rfl ?_, ?_⟩
        · intro ρ W hR ⟨q36, _⟩
          replace q36 : ρ 36 = .pointer (some ⟨w.heap.size, 3, none⟩) := q36
          refine ⟨rfl, ?_⟩
          exact Rg.run_ok (v := .pointer (some ⟨w.heap.size, 3, none⟩)) (by simp [execOp, Rg.ev, go_sem, q36]) ⟨rfl, hR, Chg.refl _ _⟩
        refine ⟨Rg.at_runW [37, 31] rfl ?_, ?_⟩
        · intro ρ W hR ⟨q37, q31, _⟩
          replace q37 : ρ 37 = .pointer (some ⟨w.heap.size, 3, none⟩) := q37
          replace q31 : ρ 31 = .int .u64 T := q31
          refine ⟨rfl, ?_⟩
          obtain ⟨v5, c5, hc5, h5⟩ := hR
          obtain rfl : c5 = #[.int .i64 2, .int .u64 0, .int .i64 0, .int .u64 0, .slice none 0 0, .int .u64 0, .int .u64 0, .int .u64 0, .slice none 0 0] := hc5
          have z := h5.bl.frozen 3
          have hc : W.cell? ⟨w.heap.size, 3, none⟩ = some (.int .u64 0) := (h5.bl.cell 3).trans rfl
          exact Rg.run_skip (W' := W.setCell ⟨w.heap.size, 3, none⟩ (.int .u64 T)) (by simp [execOp, Rg.ev, go_sem, q37, q31, z, hc]) ⟨rfl, ⟨v5, _, rfl, h5.set hne (Nat.le_refl _) 3 (.int .u64 T)⟩, (Chg.refl _ _).set (by simp) _⟩
        refine ⟨fun i => Rg.at_runW [2] rfl ?_, ?_⟩
        · intro ρ W hR ⟨q2, _⟩
          replace q2 : ρ 2 = .pointer (some ⟨w.heap.size, 0, none⟩) := q2
          refine ⟨rfl, ?_⟩
          exact Rg.run_ok (v := .pointer (some ⟨w.heap.size, 3, none⟩)) (by simp [execOp, Rg.ev, go_sem, q2]) ⟨rfl, hR, Chg.refl _ _⟩
        refine ⟨fun i => Rg.at_runW [38] rfl ?_, ?_⟩
        · intro ρ W hR ⟨q38, _⟩
          replace q38 : ρ 38 = .pointer (some ⟨w.heap.size, 3, none⟩) := q38
          refine ⟨rfl, ?_⟩
          exact Rg.run_ok (v := .pointer (some ⟨w.heap.size, 4, none⟩)) (by simp [execOp, Rg.ev, go_sem, q38]) ⟨rfl, hR, Chg.refl _ _⟩
        refine ⟨Rg.at_runW [39, 35] rfl ?_, ?_⟩
        · intro ρ W hR ⟨q39, q35, _⟩
          replace q39 : ρ 39 = .pointer (some ⟨w.heap.size, 4, none⟩) := q39
          replace q35 : (fun v W => Nw w W v (s2.1) ∧ ∀ k, v.ownBlock = some k → w.heap.size < k) (ρ 35) W := q35
          refine ⟨rfl, ?_⟩
          obtain ⟨v5, c5, hc5, h5⟩ := hR
          obtain rfl : c5 = #[.int .i64 2, .int .u64 0, .int .i64 0, .int .u64 T, .slice none 0 0, .int .u64 0, .int .u64 0, .int .u64 0, .slice none 0 0] := hc5
          have z := h5.bl.frozen 4
          have hc : W.cell? ⟨w.heap.size, 4, none⟩ = some (.slice none 0 0) := (h5.bl.cell 4).trans rfl
          obtain ⟨qa, qb⟩ := q35
          obtain ⟨A5, c6, hv5, -, -⟩ := own_slice (id qa)
          rw [hv5] at qa qb
          exact Rg.run_skip (W' := W.setCell ⟨w.heap.size, 4, none⟩ (.slice A5 (s2.1).length c6)) (by simp [execOp, Rg.ev, go_sem, q39, hv5, z, hc]) ⟨rfl, ⟨v5, _, ⟨A5, c6, rfl, qa.chg ((Chg.refl [w.heap.size] W).set (by simp) _) (fun k hk => by have := qb k hk; simp; omega), qb⟩, h5.set hne (Nat.le_refl _) 4 (.slice A5 (s2.1).length c6)⟩, (Chg.refl _ _).set (by simp) _⟩
        trivial
      case en =>
        intro tm W hR hsz hk
        rw [Rg.fin_eq (ds := [28, 29, 30, 31, 32, 33, 34, 35, 36, 37, 38, 39]) rfl rfl rfl hsz hk]
        have k28 : tm.getD 28 undef = .pointer (some ⟨g, 0, none⟩) := hk 28
        have k29 : tm.getD 29 undef = .pointer (some ⟨g, 0, none⟩) := hk 29
        have k30 : tm.getD 30 undef = .pointer (some ⟨g, 0, none⟩) := hk 30
        have k31 : tm.getD 31 undef = .int .u64 T := hk 31
        have k32 : tm.getD 32 undef = .pointer (some ⟨g, 0, none⟩) := hk 32
        have k33 : tm.getD 33 undef = .pointer (some ⟨g, 0, none⟩) := hk 33
        have k34 : tm.getD 34 undef = .pointer (some ⟨g, 0, none⟩) := hk 34
        have k35 : (fun v W => Nw w W v (s2.1) ∧ ∀ k, v.ownBlock = some k → w.heap.size < k) (tm.getD 35 undef) W := hk 35
        have k36 : tm.getD 36 undef = .pointer (some ⟨w.heap.size, 3, none⟩) := hk 36
        have k37 : tm.getD 37 undef = .pointer (some ⟨w.heap.size, 3, none⟩) := hk 37
        have k38 : tm.getD 38 undef = .pointer (some ⟨w.heap.size, 3, none⟩) := hk 38
        have k39 : tm.getD 39 undef = .pointer (some ⟨w.heap.size, 4, none⟩) := hk 39
        clear hk hsz
        simp only [Rg.putAll, List.setIfInBounds_toArray, List.set_cons_zero, List.set_cons_succ, k28, k29, k30, k31, k32, k33, k34, k36, k37, k38, k39]
        clear k28
        clear k29
        clear k30
        clear k31
        clear k32
        clear k33
        clear k34
        generalize tm.getD 35 undef = u35 at *
        clear k36
        clear k37
        clear k38
        clear k39
        refine Rg.nil_list ?_
        obtain ⟨vF, cF, ⟨A5, c6, hcF, hzF, hoF⟩, aF⟩ := hR
        subst hcF
        replace aF : RAt w W g w.heap.size vF ([], s2.2) #[.int .i64 2, .int .u64 0, .int .i64 0, .int .u64 T, .slice A5 s2.1.length c6, .int .u64 0, .int .u64 0, .int .u64 0, .slice none 0 0] := aF
        have x0 := (aF.bl.cell 0).trans rfl
        have zz0 := aF.bl.frozen 0
        have x1 := (aF.bl.cell 1).trans rfl
        have zz1 := aF.bl.frozen 1
        have x2 := (aF.bl.cell 2).trans rfl
        have zz2 := aF.bl.frozen 2
        have x3 := (aF.bl.cell 3).trans rfl
        have zz3 := aF.bl.frozen 3
        have x4 := (aF.bl.cell 4).trans rfl
        have zz4 := aF.bl.frozen 4
        have x5 := (aF.bl.cell 5).trans rfl
        have zz5 := aF.bl.frozen 5
        have x6 := (aF.bl.cell 6).trans rfl
        have zz6 := aF.bl.frozen 6
        have x7 := (aF.bl.cell 7).trans rfl
        have zz7 := aF.bl.frozen 7
        have x8 := (aF.bl.cell 8).trans rfl
        have zz8 := aF.bl.frozen 8
        go_wp2
        try simp only [Exit.inBlock, Exit.then]
        obtain ⟨hfin, hcf⟩ := put9 aF.bl (.int .i64 2) (.int .u64 0) (.int .i64 0) (.int .u64 T) (.slice A5 s2.1.length c6) (.int .u64 0) (.int .u64 0) (.int .u64 0) (.slice none 0 0)
        refine bodyPost_ret (results_cell_row rfl _ _ w.heap.size 101 #[.int .i64 2, .int .u64 0, .int .i64 0, .int .u64 T, .slice A5 s2.1.length c6, .int .u64 0, .int .u64 0, .int .u64 0, .slice none 0 0] (0, 0) _ rfl hfin Try.underlying101 rfl (by kernel_rfl)) rfl ?_
        rw [HQ.out]
        have hzF2 := hzF.chg hcf (fun k hk => by have := hoF k hk; simp; omega)
        refine ⟨[.int .i64 2, .int .u64 0, .int .i64 0, .int .u64 T, .slice A5 s2.1.length c6, .int .u64 0, .int .u64 0, .int .u64 0, .slice none 0 0], _, rfl, re_rep.2 ⟨_, _, rfl, ⟨by simp [Hd0, En0, Sn0] <;> omega, by simp [Hd0, En0, Sn0] <;> omega, by simp [Hd0, En0, Sn0] <;> omega, by simp [Hd0, En0, Sn0] <;> omega, by simp [Hd0, En0, Sn0] <;> omega, by simp [Hd0, En0, Sn0] <;> omega, by simp [Hd0, En0, Sn0] <;> omega, by simp [Hd0, En0, Sn0] <;> omega, by simp [Hd0, En0, Sn0] <;> omega, by simp [Hd0, En0, Sn0] <;> omega, by simp [Hd0, En0, Sn0] <;> omega, by simp [Hd0, En0, Sn0] <;> omega, by simp [Hd0, En0, Sn0] <;> omega, by simp [Hd0, En0, Sn0] <;> omega⟩, Enc.BsX.nw hzF2 (fun k hk => hk), Enc.BsX.nil _ _⟩, aF.rd.chg hcf (by simp; omega) aF.of, aF.cg.then_new hcf (by simp)⟩
    · by_cases hk3 : K = 3
      · subst hk3
        have HQ : Hid (lrec b = (⟨3, Hd0, En0, T, Sn0⟩, s2)) := by unfold Hid; rw [HP.out, if_neg (by decide), if_neg (by decide), if_pos rfl]
        go_wp2_with fail
        refine (N2.out _ v1 a2.rd).mono ?_
        rintro e W3 ⟨rfl, rr⟩
        obtain ⟨vF, a3⟩ := a2.num hne rr
        have y5 := (a3.bl.cell 5).trans rfl
        have z5 := a3.bl.frozen 5
        have aF : RAt w _ g w.heap.size vF s2 #[.int .i64 3, .int .u64 0, .int .i64 0, .int .u64 0, .slice none 0 0, .int .u64 T, .int .u64 0, .int .u64 0, .slice none 0 0] := a3.set hne (Nat.le_refl _) 5 (.int .u64 T)
        go_upto_region 11 with fail
        generalize W3.setCell ⟨w.heap.size, 5, none⟩ (.int .u64 T) = W4 at *
        have x0 := (aF.bl.cell 0).trans rfl
        have zz0 := aF.bl.frozen 0
        have x1 := (aF.bl.cell 1).trans rfl
        have zz1 := aF.bl.frozen 1
        have x2 := (aF.bl.cell 2).trans rfl
        have zz2 := aF.bl.frozen 2
        have x3 := (aF.bl.cell 3).trans rfl
        have zz3 := aF.bl.frozen 3
        have x4 := (aF.bl.cell 4).trans rfl
        have zz4 := aF.bl.frozen 4
        have x5 := (aF.bl.cell 5).trans rfl
        have zz5 := aF.bl.frozen 5
        have x6 := (aF.bl.cell 6).trans rfl
        have zz6 := aF.bl.frozen 6
        have x7 := (aF.bl.cell 7).trans rfl
        have zz7 := aF.bl.frozen 7
        have x8 := (aF.bl.cell 8).trans rfl
        have zz8 := aF.bl.frozen 8
        go_wp2
        try simp only [Exit.inBlock, Exit.then]
        obtain ⟨hfin, hcf⟩ := put9 aF.bl (.int .i64 3) (.int .u64 0) (.int .i64 0) (.int .u64 0) (.slice none 0 0) (.int .u64 T) (.int .u64 0) (.int .u64 0) (.slice none 0 0)
        refine bodyPost_ret (results_cell_row rfl _ _ w.heap.size 101 #[.int .i64 3, .int .u64 0, .int .i64 0, .int .u64 0, .slice none 0 0, .int .u64 T, .int .u64 0, .int .u64 0, .slice none 0 0] (0, 0) _ rfl hfin Try.underlying101 rfl (by kernel_rfl)) rfl ?_
        rw [HQ.out]
        refine ⟨[.int .i64 3, .int .u64 0, .int .i64 0, .int .u64 0, .slice none 0 0, .int .u64 T, .int .u64 0, .int .u64 0, .slice none 0 0], _, rfl, re_rep.2 ⟨_, _, rfl, ⟨by simp [Hd0, En0, Sn0] <;> omega, by simp [Hd0, En0, Sn0] <;> omega, by simp [Hd0, En0, Sn0] <;> omega, by simp [Hd0, En0, Sn0] <;> omega, by simp [Hd0, En0, Sn0] <;> omega, by simp [Hd0, En0, Sn0] <;> omega, by simp [Hd0, En0, Sn0] <;> omega, by simp [Hd0, En0, Sn0] <;> omega, by simp [Hd0, En0, Sn0] <;> omega, by simp [Hd0, En0, Sn0] <;> omega, by simp [Hd0, En0, Sn0] <;> omega, by simp [Hd0, En0, Sn0] <;> omega, by simp [Hd0, En0, Sn0] <;> omega, by simp [Hd0, En0, Sn0] <;> omega⟩, Enc.BsX.nil _ _, Enc.BsX.nil _ _⟩, aF.rd.chg hcf (by simp; omega) aF.of, aF.cg.then_new hcf (by simp)⟩
      · by_cases hk4 : K = 4
        · subst hk4
          have HQ : Hid (lrec b = (⟨4, Hd0, En0, 0, ⟨T, U, s4.1⟩⟩, ([], s4.2))) := by unfold Hid; rw [HP.out, if_neg (by decide), if_neg (by decide), if_neg (by decide), if_pos rfl]
          go_upto_region 10 with fail
          refine Rg.regionW Try.checked.mixed 68 21 (by kernel_rfl) [
            (false, (fun x_ _ => x_ = .pointer (some ⟨g, 0, none⟩))),
            (false, (fun x_ _ => x_ = .pointer (some ⟨g, 0, none⟩))),
            (false, (fun x_ _ => x_ = .pointer (some ⟨g, 0, none⟩))),
            (true, (fun x_ _ => x_ = .int .u64 T)),
            (false, (fun x_ _ => x_ = .pointer (some ⟨g, 0, none⟩))),
            (false, (fun x_ _ => x_ = .pointer (some ⟨g, 0, none⟩))),
            (false, (fun x_ _ => x_ = .pointer (some ⟨g, 0, none⟩))),
            (true, (fun x_ _ => x_ = .int .u64 U)),
            (false, (fun x_ _ => x_ = .pointer (some ⟨g, 0, none⟩))),
            (false, (fun x_ _ => x_ = .pointer (some ⟨g, 0, none⟩))),
            (false, (fun x_ _ => x_ = .pointer (some ⟨g, 0, none⟩))),
            (true, (fun v W => Nw w W v (s4.1) ∧ ∀ k, v.ownBlock = some k → w.heap.size < k)),
            (false, (fun x_ _ => x_ = .pointer (some ⟨w.heap.size, 6, none⟩))),
            (false, (fun x_ _ => x_ = .pointer (some ⟨w.heap.size, 6, none⟩))),
            (true, (fun x_ _ => x_ = undef)),
            (false, (fun x_ _ => x_ = .pointer (some ⟨w.heap.size, 6, none⟩))),
            (false, (fun x_ _ => x_ = .pointer (some ⟨w.heap.size, 7, none⟩))),
            (true, (fun x_ _ => x_ = undef)),
            (false, (fun x_ _ => x_ = .pointer (some ⟨w.heap.size, 6, none⟩))),
            (false, (fun x_ _ => x_ = .pointer (some ⟨w.heap.size, 8, none⟩))),
            (true, (fun x_ _ => x_ = undef))] (by kernel_rfl) ((RR w g w.heap.size (fun i => match i with | 0 => s1 | 1 => s2 | 2 => s4 | _ => ([], s4.2)) (fun i c W => match i with | 4 => c = #[.int .i64 4, .int .u64 0, .int .i64 0, .int .u64 0, .slice none 0 0, .int .u64 0, .int .u64 T, .int .u64 0, .slice none 0 0] | 5 => c = #[.int .i64 4, .int .u64 0, .int .i64 0, .int .u64 0, .slice none 0 0, .int .u64 0, .int .u64 T, .int .u64 U, .slice none 0 0] | 6 => ∃ A5 c6, c = #[.int .i64 4, .int .u64 0, .int .i64 0, .int .u64 0, .slice none 0 0, .int .u64 0, .int .u64 T, .int .u64 U, .slice A5 s4.1.length c6] ∧ Nw w W (.slice A5 s4.1.length c6) s4.1 ∧ ∀ k, (Value.slice A5 s4.1.length c6).ownBlock = some k → w.heap.size < k | _ => c = #[.int .i64 4, .int .u64 0, .int .i64 0, .int .u64 0, .slice none 0 0, .int .u64 0, .int .u64 0, .int .u64 0, .slice none 0 0]))) (Chg [g, w.heap.size]) rfl rfl rfl
            ?st ⟨v1, _, rfl, a2.drew⟩ ?ob ?en
          case st => exact ⟨fun _ _ _ h _ => h, fun _ _ _ h _ => h, fun _ _ _ h _ => h, fun _ _ _ h _ => h, fun _ _ _ h _ => h, fun _ _ _ h _ => h, fun _ _ _ h _ => h, fun _ _ _ h _ => h, fun _ _ _ h _ => h, fun _ _ _ h _ => h, fun _ _ _ h _ => h, fun _ _ _ h hx => ⟨h.1.chg hx (fun k hk => by have := h.2 k hk; simp; omega), h.2⟩, fun _ _ _ h _ => h, fun _ _ _ h _ => h, fun _ _ _ h _ => h, fun _ _ _ h _ => h, fun _ _ _ h _ => h, fun _ _ _ h _ => h, fun _ _ _ h _ => h, fun _ _ _ h _ => h, fun _ _ _ h _ => h, trivial⟩
          case ob =>
            refine ⟨fun i => Rg.at_runW [0] rfl ?_, ?_⟩
            · intro ρ W hR ⟨q0, _⟩
              replace q0 : ρ 0 = .pointer (some ⟨g, 0, none⟩) := q0
              refine ⟨rfl, ?_⟩
              exact Rg.run_ok (v := .pointer (some ⟨g, 0, none⟩)) (by simp [execOp, Rg.ev, go_sem, q0]) ⟨rfl, hR, Chg.refl _ _⟩
            refine ⟨fun i => Rg.at_runW [49] rfl ?_, ?_⟩
            · intro ρ W hR ⟨q49, _⟩
              replace q49 : ρ 49 = .pointer (some ⟨g, 0, none⟩) := q49
              refine ⟨rfl, ?_⟩
              exact Rg.run_ok (v := .pointer (some ⟨g, 0, none⟩)) (by simp [execOp, Rg.ev, go_sem, q49]) ⟨rfl, hR, Chg.refl _ _⟩
            refine ⟨fun i => Rg.at_runW [50] rfl ?_, ?_⟩
            · intro ρ W hR ⟨q50, _⟩
              replace q50 : ρ 50 = .pointer (some ⟨g, 0, none⟩) := q50
              refine ⟨rfl, ?_⟩
              exact Rg.run_ok (v := .pointer (some ⟨g, 0, none⟩)) (by simp [execOp, Rg.ev, go_sem, q50]) ⟨rfl, hR, Chg.refl _ _⟩
            refine ⟨Rg.at_runW [51] rfl ?_, ?_⟩
            · intro ρ W hR ⟨q51, _⟩
              replace q51 : ρ 51 = .pointer (some ⟨g, 0, none⟩) := q51
              refine ⟨rfl, ?_⟩
              obtain ⟨v5, c5, hc5, h5⟩ := hR
              refine Rg.run_enter (by simp [execOp, Rg.ev, go_sem, q51]; exact ⟨⟨rfl, rfl⟩, rfl⟩) ?_
              refine (N2.out W v5 h5.rd).mono ?_
              rintro e W2 ⟨rfl, r5⟩
              obtain ⟨v6, h6⟩ := h5.num hne r5
              exact ⟨_, rfl, rfl, ⟨v6, c5, hc5, h6⟩, r5.to⟩
            refine ⟨fun i => Rg.at_runW [0] rfl ?_, ?_⟩
            · intro ρ W hR ⟨q0, _⟩
              replace q0 : ρ 0 = .pointer (some ⟨g, 0, none⟩) := q0
              refine ⟨rfl, ?_⟩
              exact Rg.run_ok (v := .pointer (some ⟨g, 0, none⟩)) (by simp [execOp, Rg.ev, go_sem, q0]) ⟨rfl, hR, Chg.refl _ _⟩
            refine ⟨fun i => Rg.at_runW [53] rfl ?_, ?_⟩
            · intro ρ W hR ⟨q53, _⟩
              replace q53 : ρ 53 = .pointer (some ⟨g, 0, none⟩) := q53
              refine ⟨rfl, ?_⟩
              exact Rg.run_ok (v := .pointer (some ⟨g, 0, none⟩)) (by simp [execOp, Rg.ev, go_sem, q53]) ⟨rfl, hR, Chg.refl _ _⟩
            refine ⟨fun i => Rg.at_runW [54] rfl ?_, ?_⟩
            · intro ρ W hR ⟨q54, _⟩
              replace q54 : ρ 54 = .pointer (some ⟨g, 0, none⟩) := q54
              refine ⟨rfl, ?_⟩
              exact Rg.run_ok (v := .pointer (some ⟨g, 0, none⟩)) (by simp [execOp, Rg.ev, go_sem, q54]) ⟨rfl, hR, Chg.refl _ _⟩
            refine ⟨Rg.at_runW [55] rfl ?_, ?_⟩
            · intro ρ W hR ⟨q55, _⟩
              replace q55 : ρ 55 = .pointer (some ⟨g, 0, none⟩) := q55
              refine ⟨rfl, ?_⟩
              obtain ⟨v5, c5, hc5, h5⟩ := hR
              refine Rg.run_enter (by simp [execOp, Rg.ev, go_sem, q55]; exact ⟨⟨rfl, rfl⟩, rfl⟩) ?_
              refine (N4.out W v5 h5.rd).mono ?_
              rintro e W2 ⟨rfl, r5⟩
              obtain ⟨v6, h6⟩ := h5.num hne r5
              exact ⟨_, rfl, rfl, ⟨v6, c5, hc5, h6⟩, r5.to⟩
            refine ⟨fun i => Rg.at_runW [0] rfl ?_, ?_⟩
            · intro ρ W hR ⟨q0, _⟩
              replace q0 : ρ 0 = .pointer (some ⟨g, 0, none⟩) := q0
              refine ⟨rfl, ?_⟩
              exact Rg.run_ok (v := .pointer (some ⟨g, 0, none⟩)) (by simp [execOp, Rg.ev, go_sem, q0]) ⟨rfl, hR, Chg.refl _ _⟩
            refine ⟨fun i => Rg.at_runW [57] rfl ?_, ?_⟩
            · intro ρ W hR ⟨q57, _⟩
              replace q57 : ρ 57 = .pointer (some ⟨g, 0, none⟩) := q57
              refine ⟨rfl, ?_⟩
              exact Rg.run_ok (v := .pointer (some ⟨g, 0, none⟩)) (by simp [execOp, Rg.ev, go_sem, q57]) ⟨rfl, hR, Chg.refl _ _⟩
            refine ⟨fun i => Rg.at_runW [58] rfl ?_, ?_⟩
            · intro ρ W hR ⟨q58, _⟩
              replace q58 : ρ 58 = .pointer (some ⟨g, 0, none⟩) := q58
              refine ⟨rfl, ?_⟩
              exact Rg.run_ok (v := .pointer (some ⟨g, 0, none⟩)) (by simp [execOp, Rg.ev, go_sem, q58]) ⟨rfl, hR, Chg.refl _ _⟩
            refine ⟨Rg.at_runW [59] rfl ?_, ?_⟩
            · intro ρ W hR ⟨q59, _⟩
              replace q59 : ρ 59 = .pointer (some ⟨g, 0, none⟩) := q59
              refine ⟨rfl, ?_⟩
              obtain ⟨v5, c5, hc5, h5⟩ := hR
              have hsz := h5.cg.size
              have hgc := h5.bl.lt
              refine Rg.run_enter (by simp [execOp, Rg.ev, go_sem, q59]; exact ⟨⟨rfl, rfl⟩, rfl⟩) ?_
              refine (R4.out W v5 h5.rd).mono ?_
              rintro e W2 ⟨⟨m, A5, c6, hm, rfl, hz⟩, r5⟩
              have hm' := hm.out
              subst hm'
              obtain ⟨v6, h6⟩ := h5.num hne r5
              exact ⟨_, rfl, ⟨own_base hz hsz, fun k hk => Nat.lt_of_lt_of_le hgc (hz.lt k hk).1⟩, ⟨v6, c5, hc5, h6⟩, r5.to⟩
            refine ⟨fun i => Rg.at_runW [2] rfl ?_, ?_⟩
            · intro ρ W hR ⟨q2, _⟩
              replace q2 : ρ 2 = .pointer (some ⟨w.heap.size, 0, none⟩) := q2
              refine ⟨rfl, ?_⟩
              exact Rg.run_ok (v := .pointer (some ⟨w.heap.size, 6, none⟩)) (by simp [execOp, Rg.ev, go_sem, q2]) ⟨rfl, hR, Chg.refl _ _⟩
            refine ⟨fun i => Rg.at_runW [61] rfl ?_, ?_⟩
            · intro ρ W hR ⟨q61, _⟩
              replace q61 : ρ 61 = .pointer (some ⟨w.heap.size, 6, none⟩) := q61
              refine ⟨rfl, ?_⟩
              exact Rg.run_ok (v := .pointer (some ⟨w.heap.size, 6, none⟩)) (by simp [execOp, Rg.ev, go_sem, q61]) ⟨rfl, hR, Chg.refl _ _⟩
            refine ⟨Rg.at_runW [62, 52] rfl ?_, ?_⟩
            · intro ρ W hR ⟨q62, q52, _⟩
              replace q62 : ρ 62 = .pointer (some ⟨w.heap.size, 6, none⟩) := q62
              replace q52 : ρ 52 = .int .u64 T := q52
              refine ⟨rfl, ?_⟩
              obtain ⟨v5, c5, hc5, h5⟩ := hR
              obtain rfl : c5 = #[.int .i64 4, .int .u64 0, .int .i64 0, .int .u64 0, .slice none 0 0, .int .u64 0, .int .u64 0, .int .u64 0, .slice none 0 0] := hc5
              have z := h5.bl.frozen 6
              have hc : W.cell? ⟨w.heap.size, 6, none⟩ = some (.int .u64 0) := (h5.bl.cell 6).trans rfl
              exact Rg.run_skip (W' := W.setCell ⟨w.heap.size, 6, none⟩ (.int .u64 T)) (by simp [execOp, Rg.ev, go_sem, q62, q52, z, hc]) ⟨rfl, ⟨v5, _, rfl, h5.set hne (Nat.le_refl _) 6 (.int .u64 T)⟩, (Chg.refl _ _).set (by simp) _⟩
            refine ⟨fun i => Rg.at_runW [2] rfl ?_, ?_⟩
            · intro ρ W hR ⟨q2, _⟩
              replace q2 : ρ 2 = .pointer (some ⟨w.heap.size, 0, none⟩) := q2
              refine ⟨rfl, ?_⟩
              exact Rg.run_ok (v := .pointer (some ⟨w.heap.size, 6, none⟩)) (by simp [execOp, Rg.ev, go_sem, q2]) ⟨rfl, hR, Chg.refl _ _⟩
            refine ⟨fun i => Rg.at_runW [63] rfl ?_, ?_⟩
            · intro ρ W hR ⟨q63, _⟩
              replace q63 : ρ 63 = .pointer (some ⟨w.heap.size, 6, none⟩) := q63
              refine ⟨rfl, ?_⟩
              exact Rg.run_ok (v := .pointer (some ⟨w.heap.size, 7, none⟩)) (by simp [execOp, Rg.ev, go_sem, q63]) ⟨rfl, hR, Chg.refl _ _⟩
            refine ⟨Rg.at_runW [64, 56] rfl ?_, ?_⟩
            · intro ρ W hR ⟨q64, q56, _⟩
              replace q64 : ρ 64 = .pointer (some ⟨w.heap.size, 7, none⟩) := q64
              replace q56 : ρ 56 = .int .u64 U := q56
              refine ⟨rfl, ?_⟩
              obtain ⟨v5, c5, hc5, h5⟩ := hR
              obtain rfl : c5 = #[.int .i64 4, .int .u64 0, .int .i64 0, .int .u64 0, .slice none 0 0, .int .u64 0, .int .u64 T, .int .u64 0, .slice none 0 0] := hc5
              have z := h5.bl.frozen 7
              have hc : W.cell? ⟨w.heap.size, 7, none⟩ = some (.int .u64 0) := (h5.bl.cell 7).trans rfl
              exact Rg.run_skip (W' := W.setCell ⟨w.heap.size, 7, none⟩ (.int .u64 U)) (by simp [execOp, Rg.ev, go_sem, q64, q56, z, hc]) ⟨rfl, ⟨v5, _, rfl, h5.set hne (Nat.le_refl _) 7 (.int .u64 U)⟩, (Chg.refl _ _).set (by simp) _⟩
            refine ⟨fun i => Rg.at_runW [2] rfl ?_, ?_⟩
            · intro ρ W hR ⟨q2, _⟩
              replace q2 : ρ 2 = .pointer (some ⟨w.heap.size, 0, none⟩) := q2
              refine ⟨rfl, ?_⟩
              exact Rg.run_ok (v := .pointer (some ⟨w.heap.size, 6, none⟩)) (by simp [execOp, Rg.ev, go_sem, q2]) ⟨rfl, hR, Chg.refl _ _⟩
            refine ⟨fun i => Rg.at_runW [65] rfl ?_, ?_⟩
            · intro ρ W hR ⟨q65, _⟩
              replace q65 : ρ 65 = .pointer (some ⟨w.heap.size, 6, none⟩) := q65
              refine ⟨rfl, ?_⟩
              exact Rg.run_ok (v := .pointer (some ⟨w.heap.size, 8, none⟩)) (by simp [execOp, Rg.ev, go_sem, q65]) ⟨rfl, hR, Chg.refl _ _⟩
            refine ⟨Rg.at_runW [66, 60] rfl ?_, ?_⟩
            · intro ρ W hR ⟨q66, q60, _⟩
              replace q66 : ρ 66 = .pointer (some ⟨w.heap.size, 8, none⟩) := q66
              replace q60 : (fun v W => Nw w W v (s4.1) ∧ ∀ k, v.ownBlock = some k → w.heap.size < k) (ρ 60) W := q60
              refine ⟨rfl, ?_⟩
              obtain ⟨v5, c5, hc5, h5⟩ := hR
              obtain rfl : c5 = #[.int .i64 4, .int .u64 0, .int .i64 0, .int .u64 0, .slice none 0 0, .int .u64 0, .int .u64 T, .int .u64 U, .slice none 0 0] := hc5
              have z := h5.bl.frozen 8
              have hc : W.cell? ⟨w.heap.size, 8, none⟩ = some (.slice none 0 0) := (h5.bl.cell 8).trans rfl
              obtain ⟨qa, qb⟩ := q60
              obtain ⟨A5, c6, hv5, -, -⟩ := own_slice (id qa)
              rw [hv5] at qa qb
              exact Rg.run_skip (W' := W.setCell ⟨w.heap.size, 8, none⟩ (.slice A5 (s4.1).length c6)) (by simp [execOp, Rg.ev, go_sem, q66, hv5, z, hc]) ⟨rfl, ⟨v5, _, ⟨A5, c6, rfl, qa.chg ((Chg.refl [w.heap.size] W).set (by simp) _) (fun k hk => by have := qb k hk; simp; omega), qb⟩, h5.set hne (Nat.le_refl _) 8 (.slice A5 (s4.1).length c6)⟩, (Chg.refl _ _).set (by simp) _⟩
            trivial
          case en =>
            intro tm W hR hsz hk
            rw [Rg.fin_eq (ds := [49, 50, 51, 52, 53, 54, 55, 56, 57, 58, 59, 60, 61, 62, 63, 64, 65, 66]) rfl rfl rfl hsz hk]
            have k49 : tm.getD 49 undef = .pointer (some ⟨g, 0, none⟩) := hk 49
            have k50 : tm.getD 50 undef = .pointer (some ⟨g, 0, none⟩) := hk 50
            have k51 : tm.getD 51 undef = .pointer (some ⟨g, 0, none⟩) := hk 51
            have k52 : tm.getD 52 undef = .int .u64 T := hk 52
            have k53 : tm.getD 53 undef = .pointer (some ⟨g, 0, none⟩) := hk 53
            have k54 : tm.getD 54 undef = .pointer (some ⟨g, 0, none⟩) := hk 54
            have k55 : tm.getD 55 undef = .pointer (some ⟨g, 0, none⟩) := hk 55
            have k56 : tm.getD 56 undef = .int .u64 U := hk 56
            have k57 : tm.getD 57 undef = .pointer (some ⟨g, 0, none⟩) := hk 57
            have k58 : tm.getD 58 undef = .pointer (some ⟨g, 0, none⟩) := hk 58
            have k59 : tm.getD 59 undef = .pointer (some ⟨g, 0, none⟩) := hk 59
            have k60 : (fun v W => Nw w W v (s4.1) ∧ ∀ k, v.ownBlock = some k → w.heap.size < k) (tm.getD 60 undef) W := hk 60
            have k61 : tm.getD 61 undef = .pointer (some ⟨w.heap.size, 6, none⟩) := hk 61
            have k62 : tm.getD 62 undef = .pointer (some ⟨w.heap.size, 6, none⟩) := hk 62
            have k63 : tm.getD 63 undef = .pointer (some ⟨w.heap.size, 6, none⟩) := hk 63
            have k64 : tm.getD 64 undef = .pointer (some ⟨w.heap.size, 7, none⟩) := hk 64
            have k65 : tm.getD 65 undef = .pointer (some ⟨w.heap.size, 6, none⟩) := hk 65
            have k66 : tm.getD 66 undef = .pointer (some ⟨w.heap.size, 8, none⟩) := hk 66
            clear hk hsz
            simp only [Rg.putAll, List.setIfInBounds_toArray, List.set_cons_zero, List.set_cons_succ, k49, k50, k51, k52, k53, k54, k55, k56, k57, k58, k59, k61, k62, k63, k64, k65, k66]
            clear k49
            clear k50
            clear k51
            clear k52
            clear k53
            clear k54
            clear k55
            clear k56
            clear k57
            clear k58
            clear k59
            generalize tm.getD 60 undef = u60 at *
            clear k61
            clear k62
            clear k63
            clear k64
            clear k65
            clear k66
            refine Rg.nil_list ?_
            obtain ⟨vF, cF, ⟨A5, c6, hcF, hzF, hoF⟩, aF⟩ := hR
            subst hcF
            replace aF : RAt w W g w.heap.size vF ([], s4.2) #[.int .i64 4, .int .u64 0, .int .i64 0, .int .u64 0, .slice none 0 0, .int .u64 0, .int .u64 T, .int .u64 U, .slice A5 s4.1.length c6] := aF
            have x0 := (aF.bl.cell 0).trans rfl
            have zz0 := aF.bl.frozen 0
            have x1 := (aF.bl.cell 1).trans rfl
            have zz1 := aF.bl.frozen 1
            have x2 := (aF.bl.cell 2).trans rfl
            have zz2 := aF.bl.frozen 2
            have x3 := (aF.bl.cell 3).trans rfl
            have zz3 := aF.bl.frozen 3
            have x4 := (aF.bl.cell 4).trans rfl
            have zz4 := aF.bl.frozen 4
            have x5 := (aF.bl.cell 5).trans rfl
            have zz5 := aF.bl.frozen 5
            have x6 := (aF.bl.cell 6).trans rfl
            have zz6 := aF.bl.frozen 6
            have x7 := (aF.bl.cell 7).trans rfl
            have zz7 := aF.bl.frozen 7
            have x8 := (aF.bl.cell 8).trans rfl
            have zz8 := aF.bl.frozen 8
            go_wp2
            try simp only [Exit.inBlock, Exit.then]
            obtain ⟨hfin, hcf⟩ := put9 aF.bl (.int .i64 4) (.int .u64 0) (.int .i64 0) (.int .u64 0) (.slice none 0 0) (.int .u64 0) (.int .u64 T) (.int .u64 U) (.slice A5 s4.1.length c6)
            refine bodyPost_ret (results_cell_row rfl _ _ w.heap.size 101 #[.int .i64 4, .int .u64 0, .int .i64 0, .int .u64 0, .slice none 0 0, .int .u64 0, .int .u64 T, .int .u64 U, .slice A5 s4.1.length c6] (0, 0) _ rfl hfin Try.underlying101 rfl (by kernel_rfl)) rfl ?_
            rw [HQ.out]
            have hzF2 := hzF.chg hcf (fun k hk => by have := hoF k hk; simp; omega)
            refine ⟨[.int .i64 4, .int .u64 0, .int .i64 0, .int .u64 0, .slice none 0 0, .int .u64 0, .int .u64 T, .int .u64 U, .slice A5 s4.1.length c6], _, rfl, re_rep.2 ⟨_, _, rfl, ⟨by simp [Hd0, En0, Sn0] <;> omega, by simp [Hd0, En0, Sn0] <;> omega, by simp [Hd0, En0, Sn0] <;> omega, by simp [Hd0, En0, Sn0] <;> omega, by simp [Hd0, En0, Sn0] <;> omega, by simp [Hd0, En0, Sn0] <;> omega, by simp [Hd0, En0, Sn0] <;> omega, by simp [Hd0, En0, Sn0] <;> omega, by simp [Hd0, En0, Sn0] <;> omega, by simp [Hd0, En0, Sn0] <;> omega, by simp [Hd0, En0, Sn0] <;> omega, by simp [Hd0, En0, Sn0] <;> omega, by simp [Hd0, En0, Sn0] <;> omega, by simp [Hd0, En0, Sn0] <;> omega⟩, Enc.BsX.nil _ _, Enc.BsX.nw hzF2 (fun k hk => hk)⟩, aF.rd.chg hcf (by simp; omega) aF.of, aF.cg.then_new hcf (by simp)⟩
        · have HQ : Hid (lrec b = (⟨K, Hd0, En0, 0, Sn0⟩, s1)) := by unfold Hid; rw [HP.out, if_neg hk1, if_neg hk2, if_neg hk3, if_neg hk4]
          have aF : RAt w W2 g w.heap.size v1 s1 #[.int .i64 K, .int .u64 0, .int .i64 0, .int .u64 0, .slice none 0 0, .int .u64 0, .int .u64 0, .int .u64 0, .slice none 0 0] := a2
          go_upto_region 11 with fail
          have x0 := (aF.bl.cell 0).trans rfl
          have zz0 := aF.bl.frozen 0
          have x1 := (aF.bl.cell 1).trans rfl
          have zz1 := aF.bl.frozen 1
          have x2 := (aF.bl.cell 2).trans rfl
          have zz2 := aF.bl.frozen 2
          have x3 := (aF.bl.cell 3).trans rfl
          have zz3 := aF.bl.frozen 3
          have x4 := (aF.bl.cell 4).trans rfl
          have zz4 := aF.bl.frozen 4
          have x5 := (aF.bl.cell 5).trans rfl
          have zz5 := aF.bl.frozen 5
          have x6 := (aF.bl.cell 6).trans rfl
          have zz6 := aF.bl.frozen 6
          have x7 := (aF.bl.cell 7).trans rfl
          have zz7 := aF.bl.frozen 7
          have x8 := (aF.bl.cell 8).trans rfl
          have zz8 := aF.bl.frozen 8
          go_wp2
          try simp only [Exit.inBlock, Exit.then]
          obtain ⟨hfin, hcf⟩ := put9 aF.bl (.int .i64 K) (.int .u64 0) (.int .i64 0) (.int .u64 0) (.slice none 0 0) (.int .u64 0) (.int .u64 0) (.int .u64 0) (.slice none 0 0)
          refine bodyPost_ret (results_cell_row rfl _ _ w.heap.size 101 #[.int .i64 K, .int .u64 0, .int .i64 0, .int .u64 0, .slice none 0 0, .int .u64 0, .int .u64 0, .int .u64 0, .slice none 0 0] (0, 0) _ rfl hfin Try.underlying101 rfl (by kernel_rfl)) rfl ?_
          rw [HQ.out]
          refine ⟨[.int .i64 K, .int .u64 0, .int .i64 0, .int .u64 0, .slice none 0 0, .int .u64 0, .int .u64 0, .int .u64 0, .slice none 0 0], _, rfl, re_rep.2 ⟨_, _, rfl, ⟨by simp [Hd0, En0, Sn0] <;> omega, by simp [Hd0, En0, Sn0] <;> omega, by simp [Hd0, En0, Sn0] <;> omega, by simp [Hd0, En0, Sn0] <;> omega, by simp [Hd0, En0, Sn0] <;> omega, by simp [Hd0, En0, Sn0] <;> omega, by simp [Hd0, En0, Sn0] <;> omega, by simp [Hd0, En0, Sn0] <;> omega, by simp [Hd0, En0, Sn0] <;> omega, by simp [Hd0, En0, Sn0] <;> omega, by simp [Hd0, En0, Sn0] <;> omega, by simp [Hd0, En0, Sn0] <;> omega, by simp [Hd0, En0, Sn0] <;> omega, by simp [Hd0, En0, Sn0] <;> omega⟩, Enc.BsX.nil _ _, Enc.BsX.nil _ _⟩, aF.rd.chg hcf (by simp; omega) aF.of, aF.cg.then_new hcf (by simp)⟩
end Go.Proofs.Ytlblgopfdadalaa
