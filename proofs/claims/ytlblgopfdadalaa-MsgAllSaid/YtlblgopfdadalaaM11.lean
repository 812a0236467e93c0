/- A part of the proof of 'MsgAll'. -/
import Derived.Test.YtlblgopfdadalaaM1
import Derived.Laws.ResultCell
import Derived.Test.YtlblgopfdadalaaM10
namespace Go.Proofs.Ytlblgopfdadalaa
set_option linter.unusedVariables false
set_option linter.unusedSimpArgs false
set_option linter.unnecessarySimpa false
set_option maxRecDepth 100000
open Go.RowKit
theorem results_cell2 {P : Program} {fn : Func} {p u : Tmp} {ty : TypeId} (h : fn.results = #[.cell p ty, .tmp u]) (tmps : Array Value) (w : World) (g : Nat) (t : TypeId) (cs : Array Value) (fr : Nat × Nat) (d : TypeDesc)
    (hp : tmps.getD p undef = .pointer (some ⟨g, 0, none⟩)) (hg : w.heap[g]? = some (.cells cs t fr))
    (hu : P.underlying ty = some d) (hd : (match d with | .struct _ | .array _ _ => true | _ => false) = true) (hi : (P.info? ty).map (·.size) = some cs.size) :
    (results fn tmps).run P w = .ok (.tuple #[.agg cs, tmps.getD u undef]) w := by
  rw [results_cell_tmp h, hp]
  simp [asAddr, run_loadVar_row w g t ty cs fr d hg hu hd hi]
end Go.Proofs.Ytlblgopfdadalaa
namespace Go.Proofs.Ytlblgopfdadalaa
set_option linter.unusedVariables false
set_option linter.unusedSimpArgs false
set_option linter.unnecessarySimpa false
set_option maxRecDepth 100000
open Go.RowKit
/-- six cells written one behind the other -/
theorem Blk.six {W : World} {g : Nat} {c d : Cm} (h : Blk W g 28 (ccells d)) :
    Blk ((((((W.setCell ⟨g, 0, none⟩ (.int .i64 c.kind)).setCell ⟨g, 1, none⟩ (.int .i64 c.client)).setCell ⟨g, 2, none⟩ (.int .u64 c.seq)).setCell ⟨g, 3, none⟩ (str c.name)).setCell ⟨g, 4, none⟩ (str c.url)).setCell ⟨g, 5, none⟩ (.int .u64 c.till)) g 28 (ccells c) :=
  (((((h.set_ 0 _).set_ 1 _).set_ 2 _).set_ 3 _).set_ 4 _).set_ 5 _
theorem Chg.six {S : List Nat} {W0 W : World} {g : Nat} (h : Chg S W0 W) (hg : g ∈ S) (a b c d e f : Value) :
    Chg S W0 ((((((W.setCell ⟨g, 0, none⟩ a).setCell ⟨g, 1, none⟩ b).setCell ⟨g, 2, none⟩ c).setCell ⟨g, 3, none⟩ d).setCell ⟨g, 4, none⟩ e).setCell ⟨g, 5, none⟩ f) :=
  (((((h.set hg _).set hg _).set hg _).set hg _).set hg _).set hg _
theorem Blk.six0 {W : World} {g : Nat} {d : Cm} (h : Blk W g 28 (ccells d)) (a b c e f k : Value) :
    Blk ((((((W.setCell ⟨g, 0, none⟩ a).setCell ⟨g, 1, none⟩ b).setCell ⟨g, 2, none⟩ c).setCell ⟨g, 3, none⟩ e).setCell ⟨g, 4, none⟩ f).setCell ⟨g, 5, none⟩ k) g 28 #[a, b, c, e, f, k] :=
  (((((h.set_ 0 _).set_ 1 _).set_ 2 _).set_ 3 _).set_ 4 _).set_ 5 _
set_option maxHeartbeats 400000 in
theorem ctake_b (x : Value) (b : Bytes) (w : World) (hl : b.length ≤ 140737488350000) (hx : Bs w x b) :
    Calls Try.prog 101 #[x] w fun e w' => e = .returned (.tuple #[cv (ctake b).1, .int .i64 (ctake b).2]) ∧ Ext w w' := by
  obtain ⟨A, c, rfl, h1, h2, h3⟩ := id hx
  have a0 : Blk (w.alloc (.cells (ccells Cm.zero) 28)) w.heap.size 28 (ccells Cm.zero) := Blk.new w _ _
  by_cases hb : b = []
  · have hb2 : (b.length : Int) = 0 := by rw [hb]; rfl
    have HC : ctake b = (Cm.zero, 0) := if_pos hb
    rw [HC]
    clear hb HC
    go_enter Try.func101, Try.ntmps101
    go_wp2
    try simp only [Exit.inBlock, Exit.then]
    refine bodyPost_ret (results_cell2 rfl _ _ w.heap.size 28 (ccells Cm.zero) (0, 0) _ rfl a0 Try.underlying28 rfl (by kernel_rfl)) rfl ?_
    exact ⟨rfl, (Ext.rfl' w).alloc' _⟩
  · have hb2 : ¬ (b.length : Int) = 0 := by
      intro h; exact hb (List.length_eq_zero_iff.1 (by omega))
    obtain ⟨C, b7, e7, hP⟩ : ∃ C b7 e7, pall (b, 0) = (C, (b7, e7)) := ⟨_, _, _, rfl⟩
    have HC : Hid (ctake b = if e7 = 0 then (C, 0) else (Cm.zero, e7)) := by unfold Hid ctake; rw [if_neg hb, hP]
    have hall := fun W g v h => all_b g v (b, 0) W h
    rw [hP] at hall
    simp only at hall
    clear hP hb
    have HA := hide hall
    clear hall
    have hrd : RdAt 157 ((w.alloc (.cells (ccells Cm.zero) 28)).alloc (.cells #[.slice A b.length c, .int .i64 0] 157)) (w.heap.size + 1) (.slice A b.length c) (b, 0) := by
      have hbs : (w.alloc (.cells (ccells Cm.zero) 28)).heap.size = w.heap.size + 1 := by simp
      refine ⟨?_, hx.ext (((Ext.rfl' w).alloc' _).alloc' _), hx.off (by simp), hl⟩
      have := Blk.new (w.alloc (.cells (ccells Cm.zero) 28)) 157 #[.slice A b.length c, .int .i64 0]
      rwa [hbs] at this
    by_cases he : e7 = 0
    · subst he
      rw [HC.out, if_pos rfl]
      go_enter Try.func101, Try.ntmps101
      go_wp2_with fail
      refine (HA.out _ _ _ hrd).mono ?_
      rintro e W1 ⟨rfl, v1, r1, c1⟩
      have hB1 : Blk W1 w.heap.size 28 (ccells Cm.zero) := (a0.alloc _).chg c1 (by simp)
      have hs1 : w.heap.size + 1 < W1.heap.size := r1.blk.lt
      obtain ⟨g2, hg2⟩ : ∃ g2, W1.heap.size = g2 := ⟨_, rfl⟩
      have hcg : Ext w W1 := (((Ext.rfl' w).alloc' _).alloc' _).then_ c1 (by simp)
      have r2 := r1.ext ((Ext.rfl' W1).alloc' (.cells (ccells C) 28))
      have hB2 := hB1.alloc (.cells (ccells C) 28)
      have y1 : (W1.alloc (.cells (ccells C) 28)).cell? ⟨w.heap.size + 1, 1, none⟩ = some (.int .i64 0) := (r2.blk.cell 1).trans rfl
      have x0 := (hB2.cell 0).trans rfl
      have x1 := (hB2.cell 1).trans rfl
      have x2 := (hB2.cell 2).trans rfl
      have x3 := (hB2.cell 3).trans rfl
      have x4 := (hB2.cell 4).trans rfl
      have x5 := (hB2.cell 5).trans rfl
      have z0 := hB2.frozen 0
      have z1 := hB2.frozen 1
      have z2 := hB2.frozen 2
      have z3 := hB2.frozen 3
      have z4 := hB2.frozen 4
      have z5 := hB2.frozen 5
      go_wp2
      try simp only [Exit.inBlock, Exit.then]
      refine bodyPost_ret (results_cell2 rfl _ _ w.heap.size 28 (ccells C) (0, 0) _ rfl (hB2.six (c := C)) Try.underlying28 rfl (by kernel_rfl)) rfl ?_
      exact ⟨rfl, (hcg.alloc' _).then_ ((Chg.refl [w.heap.size] _).six (by simp) _ _ _ _ _ _) (by simp)⟩
    · rw [HC.out, if_neg he]
      go_enter Try.func101, Try.ntmps101
      go_wp2_with fail
      refine (HA.out _ _ _ hrd).mono ?_
      rintro e W1 ⟨rfl, v1, r1, c1⟩
      have hB1 : Blk W1 w.heap.size 28 (ccells Cm.zero) := (a0.alloc _).chg c1 (by simp)
      have hs1 : w.heap.size + 1 < W1.heap.size := r1.blk.lt
      obtain ⟨g2, hg2⟩ : ∃ g2, W1.heap.size = g2 := ⟨_, rfl⟩
      have hcg : Ext w W1 := (((Ext.rfl' w).alloc' _).alloc' _).then_ c1 (by simp)
      have r2 := r1.ext ((Ext.rfl' W1).alloc' (.cells (ccells C) 28))
      have hB2 := hB1.alloc (.cells (ccells C) 28)
      have y1 : (W1.alloc (.cells (ccells C) 28)).cell? ⟨w.heap.size + 1, 1, none⟩ = some (.int .i64 e7) := (r2.blk.cell 1).trans rfl
      have x0 := (hB2.cell 0).trans rfl
      have x1 := (hB2.cell 1).trans rfl
      have x2 := (hB2.cell 2).trans rfl
      have x3 := (hB2.cell 3).trans rfl
      have x4 := (hB2.cell 4).trans rfl
      have x5 := (hB2.cell 5).trans rfl
      have z0 := hB2.frozen 0
      have z1 := hB2.frozen 1
      have z2 := hB2.frozen 2
      have z3 := hB2.frozen 3
      have z4 := hB2.frozen 4
      have z5 := hB2.frozen 5
      go_wp2
      go_region
      go_wp2
      try simp only [Exit.inBlock, Exit.then]
      refine bodyPost_ret (results_cell2 rfl _ _ w.heap.size 28 #[.int .i64 0, .int .i64 0, .int .u64 0, .string ⟨#[]⟩, .string ⟨#[]⟩, .int .u64 0] (0, 0) _ rfl (hB2.six0 (.int .i64 0) (.int .i64 0) (.int .u64 0) (.string ⟨#[]⟩) (.string ⟨#[]⟩) (.int .u64 0)).drew Try.underlying28 rfl (by kernel_rfl)) rfl ?_
      exact ⟨rfl, (hcg.alloc' _).then_ ((Chg.refl [w.heap.size] _).six (by simp) (.int .i64 0) (.int .i64 0) (.int .u64 0) (.string ⟨#[]⟩) (.string ⟨#[]⟩) (.int .u64 0)).drew (by simp)⟩
end Go.Proofs.Ytlblgopfdadalaa
