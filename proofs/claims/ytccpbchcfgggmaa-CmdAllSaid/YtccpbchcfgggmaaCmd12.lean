/- CmdAll. -/
import Derived.Test.YtccpbchcfgggmaaCmd10
import Derived.Test.YtccpbchcfgggmaaCmd11
import Derived.Test.YtccpbchcfgggmaaTwin
namespace Go.Proofs.Ytccpbchcfgggmaa
set_option linter.unusedVariables false
set_option linter.unusedSimpArgs false
set_option linter.unnecessarySimpa false
set_option maxRecDepth 100000
open Go.RowKit
theorem rtakeCmd_b' (A : Option Addr) (n c : Nat) (b : Bytes) (w : World) (hl : b.length ≤ 140737488350000) (hx : Bs w (.slice A n c) b) (C : Cm) (E : Int) (h : ctake b = (C, E)) :
    Calls Try.prog 15 #[.slice A n c] w fun e w' => e = .returned (.tuple #[cv C, .int .i64 E]) ∧ Ext w w' := by
  have := rtakeCmd_b _ b w hl hx
  rw [h] at this
  exact this
set_option maxHeartbeats 3200000 in
theorem cmdAll_walk (cc : Array Value) (c : Cm) (x : Value) (b : Bytes) (w : World) (hc : cmE.rep w noneAt cc.toList c) (hx : Bs w x b) :
    Calls Try.prog 3 #[.agg cc, x] w fun e w' => e = .returned (.bool true) ∧ Ext w w' := by
  obtain ⟨rfl, wc⟩ := cmE_rep hc
  obtain ⟨A, cx, rfl, -, -, -⟩ := id hx
  clear hc
  have hL0 : Blk (w.alloc (.cells (ccells c) 24)) w.heap.size 24 (ccells c) := Blk.new w _ _
  have hxw0 : Ext w (w.alloc (.cells (ccells c) 24)) := (Ext.rfl' w).alloc' _
  go_enter Try.func3, Try.ntmps3
  go_wp2_with fail
  refine (begun17_b _).mono ?_
  rintro e W0 ⟨rfl, hx1⟩
  have hL1 := hL0.ext hx1
  have hxw := hxw0.trans' hx1
  have xa0 := (hL1.cell 0).trans rfl
  have xa1 := (hL1.cell 1).trans rfl
  have xa2 := (hL1.cell 2).trans rfl
  have xa3 := (hL1.cell 3).trans rfl
  have xa4 := (hL1.cell 4).trans rfl
  have xa5 := (hL1.cell 5).trans rfl
  go_wp2_with fail
  refine (may17_b c wc _).mono ?_
  rintro e Wa ⟨ra, rfl, fa, hxa⟩
  have hLa := hL1.ext hxa
  have hxwa := hxw.trans' hxa
  cases ra
  · go_wp2
    go_ret
    exact ⟨rfl, hxwa⟩
  have fa' := hide (fa rfl)
  clear fa
  by_cases hl : (300 : Int) < b.length
  · go_wp2
    go_ret
    exact ⟨rfl, hxwa⟩
  have hb1 := hx.ext hxwa
  go_wp2_with fail
  refine (twin_b _ b _ (by omega) hb1).mono ?_
  rintro e W1 ⟨g1, rfl, hg1, hT, hxb⟩
  have hxw1 := hxwa.trans' hxb
  obtain ⟨Y, E, HY⟩ : ∃ C E, ctake b = (C, E) := ⟨_, _, rfl⟩
  go_wp2_with fail
  refine (ctake_b' _ _ _ b W1 (by omega) (hT.bs (by omega)) Y E HY).mono ?_
  rintro e W2 ⟨rfl, hx2⟩
  obtain ⟨g2, hg2⟩ : ∃ g, W2.heap.size = g := ⟨_, rfl⟩
  have hX := Blk.new W2 24 (ccells Y)
  rw [hg2] at hX
  have hx2' := hx2.alloc' (.cells (ccells Y) 24)
  have hb2 := (hb1.ext hxb).ext hx2'
  go_wp2_with fail
  refine (rtakeCmd_b' _ _ _ b _ (by omega) hb2 Y E HY).mono ?_
  rintro e W3 ⟨rfl, hx3⟩
  clear HY
  obtain ⟨g3, hg3⟩ : ∃ g, W3.heap.size = g := ⟨_, rfl⟩
  obtain ⟨W1e, hW1e⟩ : ∃ W, W = W3.alloc (.cells (ccells Y) 24) := ⟨_, rfl⟩
  have hx3' := hx3.alloc' (.cells (ccells Y) 24)
  have hYe := Blk.new W3 24 (ccells Y)
  rw [hg3] at hYe
  have hXe := hX.ext hx3'
  have hLe := ((hLa.ext hxb).ext hx2').ext hx3'
  have hbe := hb2.ext hx3'
  have hTe := (hT.ext hx2').ext hx3'
  have hxe := (hxw1.trans' hx2').trans' hx3'
  obtain ⟨r, hr, heq⟩ := eq_cmd Y Y
  obtain rfl : r = true := hr.2 rfl
  have HE := hide heq
  clear heq hr
  have P := hide fun W => cput_b c fa'.out.ok (by have := fa'.out.n1; omega) (by have := fa'.out.u1; omega) W
  have RP := hide fun W => rputCmd_b c fa'.out.ok (by have := fa'.out.n1; omega) (by have := fa'.out.u1; omega) W
  rw [← hW1e] at hYe hLe hXe hbe hTe hxe
  go_wp2
  rw [← hW1e]
  clear hW1e
  obtain ⟨W1, hW1⟩ : ∃ W, W = W1e := ⟨_, rfl⟩
  subst hW1
  refine Rg.regionT Try.checked.mixed 54 23 (by kernel_rfl) [
    (fun x_ _ => x_ = cv c),
    (fun v W => Bs W v (cput c)),
    (fun x_ _ => x_ = str (cput c)),
    (fun x_ _ => x_ = cv c),
    (fun v W => Bs W v (cput c)),
    (fun x_ _ => x_ = str (cput c)),
    (fun x_ _ => x_ = .bool true),
    (fun x_ _ => x_ = .bool true),
    (fun x_ _ => x_ = cv Y),
    (fun x_ _ => x_ = cv Y),
    (fun x_ _ => x_ = .bool true),
    (fun x_ _ => x_ = .bool true),
    (fun x_ _ => x_ = .bool true),
    (fun x_ _ => x_ = .int .i64 E),
    (fun x_ _ => x_ = .int .i64 E),
    (fun x_ _ => x_ = .bool true),
    (fun x_ _ => x_ = .bool true),
    (fun x_ _ => x_ = .bool true),
    (fun x_ _ => x_ = .slice (some ⟨g1, 0, none⟩) b.length (b.length + 3)),
    (fun x_ _ => x_ = .slice A b.length cx),
    (fun x_ _ => x_ = .bool true),
    (fun x_ _ => x_ = .bool true),
    (fun x_ _ => x_ = .bool true)] (fun W => Ext W1 W) Ext rfl rfl rfl
    ?st ((Ext.rfl' W1).drew') ?ob ?en
  case st => exact ⟨fun _ _ _ h _ => h, fun _ _ _ h hx => h.ext hx, fun _ _ _ h _ => h, fun _ _ _ h _ => h, fun _ _ _ h hx => h.ext hx, fun _ _ _ h _ => h, fun _ _ _ h _ => h, fun _ _ _ h _ => h, fun _ _ _ h _ => h, fun _ _ _ h _ => h, fun _ _ _ h _ => h, fun _ _ _ h _ => h, fun _ _ _ h _ => h, fun _ _ _ h _ => h, fun _ _ _ h _ => h, fun _ _ _ h _ => h, fun _ _ _ h _ => h, fun _ _ _ h _ => h, fun _ _ _ h _ => h, fun _ _ _ h _ => h, fun _ _ _ h _ => h, fun _ _ _ h _ => h, fun _ _ _ h _ => h, trivial⟩
  case ob =>
    refine ⟨Rg.at_run [2] rfl ?_, ?_⟩
    · intro ρ W hR ⟨q2, _⟩
      replace q2 : ρ 2 = .pointer (some ⟨w.heap.size, 0, none⟩) := q2
      refine ⟨rfl, ?_⟩
      have c0_ : W.cell? ⟨w.heap.size, 0, none⟩ = some (.int .i64 c.kind) := ((hLe.ext hR).cell 0).trans rfl
      have c1_ : W.cell? ⟨w.heap.size, 1, none⟩ = some (.int .i64 c.client) := ((hLe.ext hR).cell 1).trans rfl
      have c2_ : W.cell? ⟨w.heap.size, 2, none⟩ = some (.int .u64 c.seq) := ((hLe.ext hR).cell 2).trans rfl
      have c3_ : W.cell? ⟨w.heap.size, 3, none⟩ = some (str c.name) := ((hLe.ext hR).cell 3).trans rfl
      have c4_ : W.cell? ⟨w.heap.size, 4, none⟩ = some (str c.url) := ((hLe.ext hR).cell 4).trans rfl
      have c5_ : W.cell? ⟨w.heap.size, 5, none⟩ = some (.int .u64 c.till) := ((hLe.ext hR).cell 5).trans rfl
      exact Rg.run_ok (v := cv c) (by simp [execOp, Rg.ev, go_sem, q2, c0_, c1_, c2_, c3_, c4_, c5_]) ⟨rfl, hR, Ext.rfl' _⟩
    refine ⟨Rg.at_run [32] rfl ?_, ?_⟩
    · intro ρ W hR ⟨q32, _⟩
      replace q32 : ρ 32 = cv c := q32
      refine ⟨rfl, ?_⟩
      refine Rg.run_enter (by simp [execOp, Rg.ev, go_sem, q32]; exact ⟨⟨rfl, rfl⟩, rfl⟩) ?_
      refine (P.out W).mono ?_
      rintro e w2 ⟨m, Am, cm, hm, rfl, hz, hxx⟩
      have hm' : m = cput c := hm.out
      subst hm'
      exact ⟨_, rfl, hz, hR.trans' hxx, hxx⟩
    refine ⟨Rg.at_run [33] rfl ?_, ?_⟩
    · intro ρ W hR ⟨q33, _⟩
      replace q33 : (fun v W => Bs W v (cput c)) (ρ 33) W := q33
      refine ⟨rfl, ?_⟩
      have hb : Bs W (ρ 33) (cput c) := q33
      have hs := run_str (P := Try.prog) hb Try.underlying25 Try.underlying5 Try.underlying9
      exact Rg.run_ok (v := str (cput c)) (by simp only [execOp, Rg.ev, Sem.run_bind, Sem.run_pure, Result.andThen_ok, hs]) ⟨rfl, hR, Ext.rfl' _⟩
    refine ⟨Rg.at_run [2] rfl ?_, ?_⟩
    · intro ρ W hR ⟨q2, _⟩
      replace q2 : ρ 2 = .pointer (some ⟨w.heap.size, 0, none⟩) := q2
      refine ⟨rfl, ?_⟩
      have c0_ : W.cell? ⟨w.heap.size, 0, none⟩ = some (.int .i64 c.kind) := ((hLe.ext hR).cell 0).trans rfl
      have c1_ : W.cell? ⟨w.heap.size, 1, none⟩ = some (.int .i64 c.client) := ((hLe.ext hR).cell 1).trans rfl
      have c2_ : W.cell? ⟨w.heap.size, 2, none⟩ = some (.int .u64 c.seq) := ((hLe.ext hR).cell 2).trans rfl
      have c3_ : W.cell? ⟨w.heap.size, 3, none⟩ = some (str c.name) := ((hLe.ext hR).cell 3).trans rfl
      have c4_ : W.cell? ⟨w.heap.size, 4, none⟩ = some (str c.url) := ((hLe.ext hR).cell 4).trans rfl
      have c5_ : W.cell? ⟨w.heap.size, 5, none⟩ = some (.int .u64 c.till) := ((hLe.ext hR).cell 5).trans rfl
      exact Rg.run_ok (v := cv c) (by simp [execOp, Rg.ev, go_sem, q2, c0_, c1_, c2_, c3_, c4_, c5_]) ⟨rfl, hR, Ext.rfl' _⟩
    refine ⟨Rg.at_run [35] rfl ?_, ?_⟩
    · intro ρ W hR ⟨q35, _⟩
      replace q35 : ρ 35 = cv c := q35
      refine ⟨rfl, ?_⟩
      refine Rg.run_enter (by simp [execOp, Rg.ev, go_sem, q35]; exact ⟨⟨rfl, rfl⟩, rfl⟩) ?_
      refine (RP.out W).mono ?_
      rintro e w2 ⟨m, Am, cm, hm, rfl, hz, hxx⟩
      have hm' : m = cput c := hm.out
      subst hm'
      exact ⟨_, rfl, hz, hR.trans' hxx, hxx⟩
    refine ⟨Rg.at_run [36] rfl ?_, ?_⟩
    · intro ρ W hR ⟨q36, _⟩
      replace q36 : (fun v W => Bs W v (cput c)) (ρ 36) W := q36
      refine ⟨rfl, ?_⟩
      have hb : Bs W (ρ 36) (cput c) := q36
      have hs := run_str (P := Try.prog) hb Try.underlying25 Try.underlying5 Try.underlying9
      exact Rg.run_ok (v := str (cput c)) (by simp only [execOp, Rg.ev, Sem.run_bind, Sem.run_pure, Result.andThen_ok, hs]) ⟨rfl, hR, Ext.rfl' _⟩
    refine ⟨Rg.at_run [34, 37] rfl ?_, ?_⟩
    · intro ρ W hR ⟨q34, q37, _⟩
      replace q34 : ρ 34 = str (cput c) := q34
      replace q37 : ρ 37 = str (cput c) := q37
      refine ⟨rfl, ?_⟩
      exact Rg.run_ok (v := .bool true) (by simp [execOp, Rg.ev, go_sem, q34, q37]) ⟨rfl, hR, Ext.rfl' _⟩
    refine ⟨Rg.at_run [38] rfl ?_, ?_⟩
    · intro ρ W hR ⟨q38, _⟩
      replace q38 : ρ 38 = .bool true := q38
      refine ⟨rfl, ?_⟩
      exact Rg.run_ok (v := .bool true) (by simp [execOp, Rg.ev, go_sem, q38]) ⟨rfl, hR, Ext.rfl' _⟩
    refine ⟨Rg.at_run [6, 39] rfl ?_, ?_⟩
    · intro ρ W hR ⟨q6, q39, _⟩
      replace q6 : ρ 6 = .pointer (some ⟨g2, 0, none⟩) := q6
      replace q39 : ρ 39 = .bool true := q39
      refine ⟨by simp [Rg.wants, q39], ?_⟩
      have c0_ : W.cell? ⟨g2, 0, none⟩ = some (.int .i64 Y.kind) := ((hXe.ext hR).cell 0).trans rfl
      have c1_ : W.cell? ⟨g2, 1, none⟩ = some (.int .i64 Y.client) := ((hXe.ext hR).cell 1).trans rfl
      have c2_ : W.cell? ⟨g2, 2, none⟩ = some (.int .u64 Y.seq) := ((hXe.ext hR).cell 2).trans rfl
      have c3_ : W.cell? ⟨g2, 3, none⟩ = some (str Y.name) := ((hXe.ext hR).cell 3).trans rfl
      have c4_ : W.cell? ⟨g2, 4, none⟩ = some (str Y.url) := ((hXe.ext hR).cell 4).trans rfl
      have c5_ : W.cell? ⟨g2, 5, none⟩ = some (.int .u64 Y.till) := ((hXe.ext hR).cell 5).trans rfl
      exact Rg.run_ok (v := cv Y) (by simp [execOp, Rg.ev, go_sem, q6, c0_, c1_, c2_, c3_, c4_, c5_]) ⟨rfl, hR, Ext.rfl' _⟩
    refine ⟨Rg.at_run [8, 39] rfl ?_, ?_⟩
    · intro ρ W hR ⟨q8, q39, _⟩
      replace q8 : ρ 8 = .pointer (some ⟨g3, 0, none⟩) := q8
      replace q39 : ρ 39 = .bool true := q39
      refine ⟨by simp [Rg.wants, q39], ?_⟩
      have c0_ : W.cell? ⟨g3, 0, none⟩ = some (.int .i64 Y.kind) := ((hYe.ext hR).cell 0).trans rfl
      have c1_ : W.cell? ⟨g3, 1, none⟩ = some (.int .i64 Y.client) := ((hYe.ext hR).cell 1).trans rfl
      have c2_ : W.cell? ⟨g3, 2, none⟩ = some (.int .u64 Y.seq) := ((hYe.ext hR).cell 2).trans rfl
      have c3_ : W.cell? ⟨g3, 3, none⟩ = some (str Y.name) := ((hYe.ext hR).cell 3).trans rfl
      have c4_ : W.cell? ⟨g3, 4, none⟩ = some (str Y.url) := ((hYe.ext hR).cell 4).trans rfl
      have c5_ : W.cell? ⟨g3, 5, none⟩ = some (.int .u64 Y.till) := ((hYe.ext hR).cell 5).trans rfl
      exact Rg.run_ok (v := cv Y) (by simp [execOp, Rg.ev, go_sem, q8, c0_, c1_, c2_, c3_, c4_, c5_]) ⟨rfl, hR, Ext.rfl' _⟩
    refine ⟨Rg.at_run [40, 41, 39] rfl ?_, ?_⟩
    · intro ρ W hR ⟨q40, q41, q39, _⟩
      replace q40 : ρ 40 = cv Y := q40
      replace q41 : ρ 41 = cv Y := q41
      replace q39 : ρ 39 = .bool true := q39
      refine ⟨by simp [Rg.wants, q39], ?_⟩
      have h2 := HE.out W
      exact Rg.run_ok (v := .bool true) (by simp only [execOp, Rg.ev, resolve, Sem.run_bind, Sem.run_pure, Result.andThen_ok, q40, q41]; rw [run_eqGuard_agg W .eql 24 _ _ (ccells Y) (ccells Y) (by kernel_rfl)]; simp only [Result.andThen_ok, h2]) ⟨rfl, hR, Ext.rfl' _⟩
    refine ⟨Rg.at_run [39, 42] rfl ?_, ?_⟩
    · intro ρ W hR ⟨q39, q42, _⟩
      replace q39 : ρ 39 = .bool true := q39
      replace q42 : ρ 42 = .bool true := q42
      refine ⟨rfl, ?_⟩
      exact Rg.run_ok (v := .bool true) (by simp [execOp, Rg.ev, go_sem, q39, q42]) ⟨rfl, hR, Ext.rfl' _⟩
    refine ⟨Rg.at_run [43] rfl ?_, ?_⟩
    · intro ρ W hR ⟨q43, _⟩
      replace q43 : ρ 43 = .bool true := q43
      refine ⟨rfl, ?_⟩
      exact Rg.run_ok (v := .bool true) (by simp [execOp, Rg.ev, go_sem, q43]) ⟨rfl, hR, Ext.rfl' _⟩
    refine ⟨Rg.at_run [7, 44] rfl ?_, ?_⟩
    · intro ρ W hR ⟨q7, q44, _⟩
      replace q7 : ρ 7 = .int .i64 E := q7
      replace q44 : ρ 44 = .bool true := q44
      refine ⟨by simp [Rg.wants, q44], ?_⟩
      exact Rg.run_ok (v := .int .i64 E) (by simp [execOp, Rg.ev, go_sem, q7]) ⟨rfl, hR, Ext.rfl' _⟩
    refine ⟨Rg.at_run [9, 44] rfl ?_, ?_⟩
    · intro ρ W hR ⟨q9, q44, _⟩
      replace q9 : ρ 9 = .int .i64 E := q9
      replace q44 : ρ 44 = .bool true := q44
      refine ⟨by simp [Rg.wants, q44], ?_⟩
      exact Rg.run_ok (v := .int .i64 E) (by simp [execOp, Rg.ev, go_sem, q9]) ⟨rfl, hR, Ext.rfl' _⟩
    refine ⟨Rg.at_run [45, 46, 44] rfl ?_, ?_⟩
    · intro ρ W hR ⟨q45, q46, q44, _⟩
      replace q45 : ρ 45 = .int .i64 E := q45
      replace q46 : ρ 46 = .int .i64 E := q46
      replace q44 : ρ 44 = .bool true := q44
      refine ⟨by simp [Rg.wants, q44], ?_⟩
      exact Rg.run_ok (v := .bool true) (by simp [execOp, Rg.ev, go_sem, q45, q46]) ⟨rfl, hR, Ext.rfl' _⟩
    refine ⟨Rg.at_run [44, 47] rfl ?_, ?_⟩
    · intro ρ W hR ⟨q44, q47, _⟩
      replace q44 : ρ 44 = .bool true := q44
      replace q47 : ρ 47 = .bool true := q47
      refine ⟨rfl, ?_⟩
      exact Rg.run_ok (v := .bool true) (by simp [execOp, Rg.ev, go_sem, q44, q47]) ⟨rfl, hR, Ext.rfl' _⟩
    refine ⟨Rg.at_run [48] rfl ?_, ?_⟩
    · intro ρ W hR ⟨q48, _⟩
      replace q48 : ρ 48 = .bool true := q48
      refine ⟨rfl, ?_⟩
      exact Rg.run_ok (v := .bool true) (by simp [execOp, Rg.ev, go_sem, q48]) ⟨rfl, hR, Ext.rfl' _⟩
    refine ⟨Rg.at_run [5, 49] rfl ?_, ?_⟩
    · intro ρ W hR ⟨q5, q49, _⟩
      replace q5 : ρ 5 = .slice (some ⟨g1, 0, none⟩) b.length (b.length + 3) := q5
      replace q49 : ρ 49 = .bool true := q49
      refine ⟨by simp [Rg.wants, q49], ?_⟩
      exact Rg.run_ok (v := .slice (some ⟨g1, 0, none⟩) b.length (b.length + 3)) (by simp [execOp, Rg.ev, go_sem, q5]) ⟨rfl, hR, Ext.rfl' _⟩
    refine ⟨Rg.at_run [1, 49] rfl ?_, ?_⟩
    · intro ρ W hR ⟨q1, q49, _⟩
      replace q1 : ρ 1 = .slice A b.length cx := q1
      replace q49 : ρ 49 = .bool true := q49
      refine ⟨by simp [Rg.wants, q49], ?_⟩
      exact Rg.run_ok (v := .slice A b.length cx) (by simp [execOp, Rg.ev, go_sem, q1]) ⟨rfl, hR, Ext.rfl' _⟩
    refine ⟨Rg.at_run [50, 51, 49] rfl ?_, ?_⟩
    · intro ρ W hR ⟨q50, q51, q49, _⟩
      replace q50 : ρ 50 = .slice (some ⟨g1, 0, none⟩) b.length (b.length + 3) := q50
      replace q51 : ρ 51 = .slice A b.length cx := q51
      replace q49 : ρ 49 = .bool true := q49
      refine ⟨by simp [Rg.wants, q49], ?_⟩
      refine Rg.run_enter (by simp [execOp, Rg.ev, go_sem, q50, q51]; exact ⟨⟨rfl, rfl⟩, rfl⟩) ?_
      refine (kept_b _ b g1 W (by omega) (hbe.ext hR) (hTe.ext hR)).mono ?_
      rintro e w2 ⟨rfl, rfl⟩
      exact ⟨_, rfl, rfl, hR, Ext.rfl' _⟩
    refine ⟨Rg.at_run [49, 52] rfl ?_, ?_⟩
    · intro ρ W hR ⟨q49, q52, _⟩
      replace q49 : ρ 49 = .bool true := q49
      replace q52 : ρ 52 = .bool true := q52
      refine ⟨rfl, ?_⟩
      exact Rg.run_ok (v := .bool true) (by simp [execOp, Rg.ev, go_sem, q49, q52]) ⟨rfl, hR, Ext.rfl' _⟩
    refine ⟨Rg.at_run [53] rfl ?_, ?_⟩
    · intro ρ W hR ⟨q53, _⟩
      replace q53 : ρ 53 = .bool true := q53
      refine ⟨rfl, ?_⟩
      exact Rg.run_ok (v := .bool true) (by simp [execOp, Rg.ev, go_sem, q53]) ⟨rfl, hR, Ext.rfl' _⟩
    trivial
  case en =>
    intro tm W hR hsz hk
    rw [Rg.fin_eq (ds := [32, 33, 34, 35, 36, 37, 38, 39, 40, 41, 42, 43, 44, 45, 46, 47, 48, 49, 50, 51, 52, 53, 4]) rfl rfl rfl hsz hk]
    have k4 : tm.getD 4 undef = .bool true := hk 4
    have k32 : tm.getD 32 undef = cv c := hk 32
    have k33 : (fun v W => Bs W v (cput c)) (tm.getD 33 undef) W := hk 33
    have k34 : tm.getD 34 undef = str (cput c) := hk 34
    have k35 : tm.getD 35 undef = cv c := hk 35
    have k36 : (fun v W => Bs W v (cput c)) (tm.getD 36 undef) W := hk 36
    have k37 : tm.getD 37 undef = str (cput c) := hk 37
    have k38 : tm.getD 38 undef = .bool true := hk 38
    have k39 : tm.getD 39 undef = .bool true := hk 39
    have k40 : tm.getD 40 undef = cv Y := hk 40
    have k41 : tm.getD 41 undef = cv Y := hk 41
    have k42 : tm.getD 42 undef = .bool true := hk 42
    have k43 : tm.getD 43 undef = .bool true := hk 43
    have k44 : tm.getD 44 undef = .bool true := hk 44
    have k45 : tm.getD 45 undef = .int .i64 E := hk 45
    have k46 : tm.getD 46 undef = .int .i64 E := hk 46
    have k47 : tm.getD 47 undef = .bool true := hk 47
    have k48 : tm.getD 48 undef = .bool true := hk 48
    have k49 : tm.getD 49 undef = .bool true := hk 49
    have k50 : tm.getD 50 undef = .slice (some ⟨g1, 0, none⟩) b.length (b.length + 3) := hk 50
    have k51 : tm.getD 51 undef = .slice A b.length cx := hk 51
    have k52 : tm.getD 52 undef = .bool true := hk 52
    have k53 : tm.getD 53 undef = .bool true := hk 53
    clear hk hsz
    simp only [Rg.putAll, List.setIfInBounds_toArray, List.set_cons_zero, List.set_cons_succ, k4, k32, k34, k35, k37, k38, k39, k40, k41, k42, k43, k44, k45, k46, k47, k48, k49, k50, k51, k52, k53]
    clear k4
    clear k32
    generalize tm.getD 33 undef = u33 at *
    clear k34
    clear k35
    generalize tm.getD 36 undef = u36 at *
    clear k37
    clear k38
    clear k39
    clear k40
    clear k41
    clear k42
    clear k43
    clear k44
    clear k45
    clear k46
    clear k47
    clear k48
    clear k49
    clear k50
    clear k51
    clear k52
    clear k53
    refine Rg.nil_list ?_
    go_wp2
    go_ret
    exact ⟨rfl, hxe.trans' hR⟩
end Go.Proofs.Ytccpbchcfgggmaa
