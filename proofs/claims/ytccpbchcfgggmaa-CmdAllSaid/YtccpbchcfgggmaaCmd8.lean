/- CmdOne. -/
import Derived.Test.YtccpbchcfgggmaaCmd7
import Derived.Laws.StructEq
namespace Go.Proofs.Ytccpbchcfgggmaa
set_option linter.unusedVariables false
set_option linter.unusedSimpArgs false
set_option linter.unnecessarySimpa false
set_option maxRecDepth 100000
open Go.RowKit
def cmE : Enc Cm := Enc.map (.pair .i64 (.pair .i64 (.pair .u64 (.pair .text (.pair .text (.pair .u64 .unit)))))) fun c => (c.kind, c.client, c.seq, c.name, c.url, c.till, ())
theorem cmE_rep {w : World} {X : Avoid} {cs : Array Value} {c : Cm} (h : cmE.rep w X cs.toList c) : cs = ccells c ∧ c.wide := by
  obtain ⟨c1, r1, e1, ⟨rfl, a1⟩, c2, r2, rfl, ⟨rfl, a2⟩, c3, r3, rfl, ⟨rfl, a3⟩, c4, r4, rfl, ⟨rfl, a4⟩, c5, r5, rfl, ⟨rfl, a5⟩, c6, r6, rfl, ⟨rfl, a6⟩, rfl⟩ := h
  refine ⟨?_, a1.1, a1.2, a2.1, a2.2, a3.1, a3.2, a4, a5, a6.1, a6.2⟩
  cases cs
  simp at e1
  subst e1
  rfl
open Enc in
theorem cmE_opens : Opens 24 cmE :=
  (opens_struct Try.underlying24 (by kernel_rfl) (.cons rfl (by kernel_rfl) (opens_int Try.underlying3 wf_i64) (.cons rfl (by kernel_rfl) (opens_int Try.underlying3 wf_i64) (.cons rfl (by kernel_rfl) (opens_int Try.underlying22 wf_u64)
    (.cons rfl (by kernel_rfl) (opens_text Try.underlying9) (.cons rfl (by kernel_rfl) (opens_text Try.underlying9) (.cons rfl (by kernel_rfl) (opens_int Try.underlying22 wf_u64) (.nil _)))))))).map _ fun ⟨a, b, c, d, e, f, _⟩ => ⟨⟨a, b, c, d, e, f⟩, rfl⟩
theorem eq_cmd (a b : Cm) : ∃ r : Bool, (r = true ↔ a = b) ∧ ∀ W, (binOp .eql 24 (cv a) (cv b)).run Try.prog W = .ok (.bool r) W := by
  obtain ⟨k, c, q, n, u, t⟩ := a
  obtain ⟨k', c', q', n', u', t'⟩ := b
  refine ⟨decide (k = k') && (decide (c = c') && (decide (q = q') && (decide (n = n') && (decide (u = u') && decide (t = t'))))), by simp, fun W => ?_⟩
  have hS : Try.prog.underlying 24 = some (.struct (Try.prog.fieldsOf 24)) := by kernel_rfl
  have hp : Try.prog.stoodInHeld 24 = false := by kernel_rfl
  have u1 := Try.underlying3
  have u2 := Try.underlying22
  have u3 := Try.underlying9
  rw [run_eql_struct, show (10000 : Nat) = 9999 + 1 from rfl, run_equalIn_agg W 9999 24 _ _ hS hp]
  simp only [Program.fieldsOf, Try.underlying24]
  go_simp
  by_cases h1 : k = k' <;> by_cases h2 : c = c' <;> by_cases h3 : q = q' <;> by_cases h4 : n = n' <;> by_cases h5 : u = u' <;> by_cases h6 : t = t' <;> simp [h1, h2, h3, h4, h5, h6]
set_option maxHeartbeats 1600000 in
theorem cmdOne_walk (ca : Array Value) (a : Cm) (cb : Array Value) (b : Cm) (w : World) (ha : cmE.rep w noneAt ca.toList a) (hb : cmE.rep w noneAt cb.toList b) :
    Calls Try.prog 5 #[.agg ca, .agg cb] w fun e w' => e = .returned (.bool true) ∧ Ext w w' := by
  obtain ⟨rfl, wa⟩ := cmE_rep ha
  obtain ⟨rfl, wb⟩ := cmE_rep hb
  clear ha hb
  have hLa0 : Blk ((w.alloc (.cells (ccells a) 24)).alloc (.cells (ccells b) 24)) w.heap.size 24 (ccells a) := (Blk.new w _ _).alloc _
  have hLb0 : Blk ((w.alloc (.cells (ccells a) 24)).alloc (.cells (ccells b) 24)) (w.heap.size + 1) 24 (ccells b) := by
    have := Blk.new (w.alloc (.cells (ccells a) 24)) 24 (ccells b)
    rwa [show (w.alloc (.cells (ccells a) 24)).heap.size = w.heap.size + 1 by simp] at this
  have hx0 : Ext w ((w.alloc (.cells (ccells a) 24)).alloc (.cells (ccells b) 24)) := ((Ext.rfl' w).alloc' _).alloc' _
  go_enter Try.func5, Try.ntmps5
  go_wp2_with fail
  refine (begun17_b _).mono ?_
  rintro e W0 ⟨rfl, hx1⟩
  have hLa1 := hLa0.ext hx1
  have hLb1 := hLb0.ext hx1
  have hxw := hx0.trans' hx1
  have xa0 := (hLa1.cell 0).trans rfl
  have xa1 := (hLa1.cell 1).trans rfl
  have xa2 := (hLa1.cell 2).trans rfl
  have xa3 := (hLa1.cell 3).trans rfl
  have xa4 := (hLa1.cell 4).trans rfl
  have xa5 := (hLa1.cell 5).trans rfl
  go_wp2_with fail
  refine (may17_b a wa _).mono ?_
  rintro e Wa ⟨ra, rfl, fa, hxa⟩
  have hLa2 := hLa1.ext hxa
  have hLb2 := hLb1.ext hxa
  have hxw2 := hxw.trans' hxa
  cases ra
  · go_wp2
    go_ret
    exact ⟨rfl, hxw2⟩
  · have fa' := hide (fa rfl)
    clear fa
    have xb0 := (hLb2.cell 0).trans rfl
    have xb1 := (hLb2.cell 1).trans rfl
    have xb2 := (hLb2.cell 2).trans rfl
    have xb3 := (hLb2.cell 3).trans rfl
    have xb4 := (hLb2.cell 4).trans rfl
    have xb5 := (hLb2.cell 5).trans rfl
    go_wp2_with fail
    refine (may17_b b wb _).mono ?_
    rintro e Wb ⟨rb, rfl, fb, hxb⟩
    have hLa := hLa2.ext hxb
    have hLb := hLb2.ext hxb
    have hxw3 := hxw2.trans' hxb
    cases rb
    · go_wp2
      go_ret
      exact ⟨rfl, hxw3⟩
    · have fb' := hide (fb rfl)
      clear fb
      have ya0 : Wb.cell? ⟨w.heap.size, 0, none⟩ = some (.int .i64 a.kind) := (hLa.cell 0).trans rfl
      have yb0 : Wb.cell? ⟨w.heap.size + 1, 0, none⟩ = some (.int .i64 b.kind) := (hLb.cell 0).trans rfl
      by_cases za : a.kind = 0
      · go_wp2
        go_ret
        exact ⟨rfl, hxw3⟩
      by_cases zb : b.kind = 0
      · go_wp2
        go_ret
        exact ⟨rfl, hxw3⟩
      have za' : (a.kind == 0) = false := by simpa using za
      have zb' : (b.kind == 0) = false := by simpa using zb
      obtain ⟨r, hr, heq⟩ := eq_cmd a b
      have PA := hide fun W => cput_b a fa'.out.ok (by have := fa'.out.n1; omega) (by have := fa'.out.u1; omega) W
      have PB := hide fun W => cput_b b fb'.out.ok (by have := fb'.out.n1; omega) (by have := fb'.out.u1; omega) W
      have HE1 : Hid ((cput a == cput b) = r) := by
        have h1 : cput a = cput b ↔ r = true := ⟨fun h => hr.2 (cput_inj a b fa'.out.ok fb'.out.ok za zb h), fun h => congrArg cput (hr.1 h)⟩
        unfold Hid
        cases r
        · exact beq_eq_false_iff_ne.2 fun h => by have := h1.1 h; cases this
        · exact beq_iff_eq.2 (h1.2 rfl)
      have HE2 := hide heq
      clear heq hr
      obtain ⟨W1, hW1⟩ : ∃ W1, W1 = Wb := ⟨_, rfl⟩
      subst hW1
      go_wp2
      refine Rg.regionT Try.checked.mixed 36 11 (by kernel_rfl) [
        (fun x_ _ => x_ = cv a),
        (fun v W => Bs W v (cput a)),
        (fun x_ _ => x_ = str (cput a)),
        (fun x_ _ => x_ = cv b),
        (fun v W => Bs W v (cput b)),
        (fun x_ _ => x_ = str (cput b)),
        (fun x_ _ => x_ = .bool r),
        (fun x_ _ => x_ = cv a),
        (fun x_ _ => x_ = cv b),
        (fun x_ _ => x_ = .bool r),
        (fun x_ _ => x_ = .bool true)] (fun W => Ext W1 W) Ext rfl rfl rfl
        ?st ((Ext.rfl' W1).drew') ?ob ?en
      case st => exact ⟨fun _ _ _ h _ => h, fun _ _ _ h hx => h.ext hx, fun _ _ _ h _ => h, fun _ _ _ h _ => h, fun _ _ _ h hx => h.ext hx, fun _ _ _ h _ => h, fun _ _ _ h _ => h, fun _ _ _ h _ => h, fun _ _ _ h _ => h, fun _ _ _ h _ => h, fun _ _ _ h _ => h, trivial⟩
      case ob =>
        refine ⟨Rg.at_run [2] rfl ?_, ?_⟩
        · intro ρ W hR ⟨q2, _⟩
          replace q2 : ρ 2 = .pointer (some ⟨w.heap.size, 0, none⟩) := q2
          refine ⟨rfl, ?_⟩
          have c0 := ((hLa.ext hR).cell 0).trans (rfl : (ccells a)[0]? = _)
          have c1 := ((hLa.ext hR).cell 1).trans (rfl : (ccells a)[1]? = _)
          have c2 := ((hLa.ext hR).cell 2).trans (rfl : (ccells a)[2]? = _)
          have c3 := ((hLa.ext hR).cell 3).trans (rfl : (ccells a)[3]? = _)
          have c4 := ((hLa.ext hR).cell 4).trans (rfl : (ccells a)[4]? = _)
          have c5 := ((hLa.ext hR).cell 5).trans (rfl : (ccells a)[5]? = _)
          exact Rg.run_ok (v := cv a) (by simp [execOp, Rg.ev, go_sem, q2, c0, c1, c2, c3, c4, c5]) ⟨rfl, hR, Ext.rfl' _⟩
        refine ⟨Rg.at_run [25] rfl ?_, ?_⟩
        · intro ρ W hR ⟨q25, _⟩
          replace q25 : ρ 25 = cv a := q25
          refine ⟨rfl, ?_⟩
          refine Rg.run_enter (by simp [execOp, Rg.ev, go_sem, q25]; exact ⟨⟨rfl, rfl⟩, rfl⟩) ?_
          refine (PA.out W).mono ?_
          rintro e w2 ⟨m, Am, cm, hm, rfl, hz, hxx⟩
          have hm' := hm.out
          subst hm'
          exact ⟨_, rfl, hz, hR.trans' hxx, hxx⟩
        refine ⟨Rg.at_run [26] rfl ?_, ?_⟩
        · intro ρ W hR ⟨q26, _⟩
          replace q26 : (fun v W => Bs W v (cput a)) (ρ 26) W := q26
          refine ⟨rfl, ?_⟩
          have hb : Bs W (ρ 26) (cput a) := q26
          have hs := run_str (P := Try.prog) hb Try.underlying25 Try.underlying5 Try.underlying9
          exact Rg.run_ok (v := str (cput a)) (by simp only [execOp, Rg.ev, Sem.run_bind, Sem.run_pure, Result.andThen_ok, hs]) ⟨rfl, hR, Ext.rfl' _⟩
        refine ⟨Rg.at_run [3] rfl ?_, ?_⟩
        · intro ρ W hR ⟨q3, _⟩
          replace q3 : ρ 3 = .pointer (some ⟨w.heap.size + 1, 0, none⟩) := q3
          refine ⟨rfl, ?_⟩
          have c0 := ((hLb.ext hR).cell 0).trans (rfl : (ccells b)[0]? = _)
          have c1 := ((hLb.ext hR).cell 1).trans (rfl : (ccells b)[1]? = _)
          have c2 := ((hLb.ext hR).cell 2).trans (rfl : (ccells b)[2]? = _)
          have c3 := ((hLb.ext hR).cell 3).trans (rfl : (ccells b)[3]? = _)
          have c4 := ((hLb.ext hR).cell 4).trans (rfl : (ccells b)[4]? = _)
          have c5 := ((hLb.ext hR).cell 5).trans (rfl : (ccells b)[5]? = _)
          exact Rg.run_ok (v := cv b) (by simp [execOp, Rg.ev, go_sem, q3, c0, c1, c2, c3, c4, c5]) ⟨rfl, hR, Ext.rfl' _⟩
        refine ⟨Rg.at_run [28] rfl ?_, ?_⟩
        · intro ρ W hR ⟨q28, _⟩
          replace q28 : ρ 28 = cv b := q28
          refine ⟨rfl, ?_⟩
          refine Rg.run_enter (by simp [execOp, Rg.ev, go_sem, q28]; exact ⟨⟨rfl, rfl⟩, rfl⟩) ?_
          refine (PB.out W).mono ?_
          rintro e w2 ⟨m, Am, cm, hm, rfl, hz, hxx⟩
          have hm' := hm.out
          subst hm'
          exact ⟨_, rfl, hz, hR.trans' hxx, hxx⟩
        refine ⟨Rg.at_run [29] rfl ?_, ?_⟩
        · intro ρ W hR ⟨q29, _⟩
          replace q29 : (fun v W => Bs W v (cput b)) (ρ 29) W := q29
          refine ⟨rfl, ?_⟩
          have hb : Bs W (ρ 29) (cput b) := q29
          have hs := run_str (P := Try.prog) hb Try.underlying25 Try.underlying5 Try.underlying9
          exact Rg.run_ok (v := str (cput b)) (by simp only [execOp, Rg.ev, Sem.run_bind, Sem.run_pure, Result.andThen_ok, hs]) ⟨rfl, hR, Ext.rfl' _⟩
        refine ⟨Rg.at_run [27, 30] rfl ?_, ?_⟩
        · intro ρ W hR ⟨q27, q30, _⟩
          replace q27 : ρ 27 = str (cput a) := q27
          replace q30 : ρ 30 = str (cput b) := q30
          refine ⟨rfl, ?_⟩
          exact Rg.run_ok (v := .bool r) (by simp [execOp, Rg.ev, go_sem, q27, q30, HE1.out]) ⟨rfl, hR, Ext.rfl' _⟩
        refine ⟨Rg.at_run [2] rfl ?_, ?_⟩
        · intro ρ W hR ⟨q2, _⟩
          replace q2 : ρ 2 = .pointer (some ⟨w.heap.size, 0, none⟩) := q2
          refine ⟨rfl, ?_⟩
          have c0 := ((hLa.ext hR).cell 0).trans (rfl : (ccells a)[0]? = _)
          have c1 := ((hLa.ext hR).cell 1).trans (rfl : (ccells a)[1]? = _)
          have c2 := ((hLa.ext hR).cell 2).trans (rfl : (ccells a)[2]? = _)
          have c3 := ((hLa.ext hR).cell 3).trans (rfl : (ccells a)[3]? = _)
          have c4 := ((hLa.ext hR).cell 4).trans (rfl : (ccells a)[4]? = _)
          have c5 := ((hLa.ext hR).cell 5).trans (rfl : (ccells a)[5]? = _)
          exact Rg.run_ok (v := cv a) (by simp [execOp, Rg.ev, go_sem, q2, c0, c1, c2, c3, c4, c5]) ⟨rfl, hR, Ext.rfl' _⟩
        refine ⟨Rg.at_run [3] rfl ?_, ?_⟩
        · intro ρ W hR ⟨q3, _⟩
          replace q3 : ρ 3 = .pointer (some ⟨w.heap.size + 1, 0, none⟩) := q3
          refine ⟨rfl, ?_⟩
          have c0 := ((hLb.ext hR).cell 0).trans (rfl : (ccells b)[0]? = _)
          have c1 := ((hLb.ext hR).cell 1).trans (rfl : (ccells b)[1]? = _)
          have c2 := ((hLb.ext hR).cell 2).trans (rfl : (ccells b)[2]? = _)
          have c3 := ((hLb.ext hR).cell 3).trans (rfl : (ccells b)[3]? = _)
          have c4 := ((hLb.ext hR).cell 4).trans (rfl : (ccells b)[4]? = _)
          have c5 := ((hLb.ext hR).cell 5).trans (rfl : (ccells b)[5]? = _)
          exact Rg.run_ok (v := cv b) (by simp [execOp, Rg.ev, go_sem, q3, c0, c1, c2, c3, c4, c5]) ⟨rfl, hR, Ext.rfl' _⟩
        refine ⟨Rg.at_run [32, 33] rfl ?_, ?_⟩
        · intro ρ W hR ⟨q32, q33, _⟩
          replace q32 : ρ 32 = cv a := q32
          replace q33 : ρ 33 = cv b := q33
          refine ⟨rfl, ?_⟩
          have h2 := HE2.out W
          exact Rg.run_ok (v := .bool r) (by simp only [execOp, Rg.ev, resolve, Sem.run_bind, Sem.run_pure, Result.andThen_ok, q32, q33]; rw [run_eqGuard_agg W .eql 24 _ _ (ccells a) (ccells b) (by kernel_rfl)]; simp only [Result.andThen_ok, h2]) ⟨rfl, hR, Ext.rfl' _⟩
        refine ⟨Rg.at_run [31, 34] rfl ?_, ?_⟩
        · intro ρ W hR ⟨q31, q34, _⟩
          replace q31 : ρ 31 = .bool r := q31
          replace q34 : ρ 34 = .bool r := q34
          refine ⟨rfl, ?_⟩
          exact Rg.run_ok (v := .bool true) (by simp [execOp, Rg.ev, go_sem, q31, q34]) ⟨rfl, hR, Ext.rfl' _⟩
        trivial
      case en =>
        intro tm W hR hsz hk
        rw [Rg.fin_eq (ds := [25, 26, 27, 28, 29, 30, 31, 32, 33, 34, 35]) rfl rfl rfl hsz hk]
        have k25 : tm.getD 25 undef = cv a := hk 25
        have k26 : (fun v W => Bs W v (cput a)) (tm.getD 26 undef) W := hk 26
        have k27 : tm.getD 27 undef = str (cput a) := hk 27
        have k28 : tm.getD 28 undef = cv b := hk 28
        have k29 : (fun v W => Bs W v (cput b)) (tm.getD 29 undef) W := hk 29
        have k30 : tm.getD 30 undef = str (cput b) := hk 30
        have k31 : tm.getD 31 undef = .bool r := hk 31
        have k32 : tm.getD 32 undef = cv a := hk 32
        have k33 : tm.getD 33 undef = cv b := hk 33
        have k34 : tm.getD 34 undef = .bool r := hk 34
        have k35 : tm.getD 35 undef = .bool true := hk 35
        clear hk hsz
        simp only [Rg.putAll, List.setIfInBounds_toArray, List.set_cons_zero, List.set_cons_succ, k25, k27, k28, k30, k31, k32, k33, k34, k35]
        clear k25
        generalize tm.getD 26 undef = u26 at *
        clear k27
        clear k28
        generalize tm.getD 29 undef = u29 at *
        clear k30
        clear k31
        clear k32
        clear k33
        clear k34
        clear k35

        go_wp2
        go_ret
        exact ⟨rfl, hxw3.trans' hR⟩
end Go.Proofs.Ytccpbchcfgggmaa
