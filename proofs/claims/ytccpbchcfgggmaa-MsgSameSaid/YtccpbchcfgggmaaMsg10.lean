/- MsgSame. -/
import Derived.Test.YtccpbchcfgggmaaMsg9
import Derived.Test.YtccpbchcfgggmaaMsgL
import Derived.Test.YtccpbchcfgggmaaMsgR
import Derived.Test.YtccpbchcfgggmaaRow2
import Derived.Test.YtccpbchcfgggmaaRgT
namespace Go.Proofs.Ytccpbchcfgggmaa
set_option linter.unusedVariables false
set_option linter.unusedSimpArgs false
set_option linter.unnecessarySimpa false
set_option maxRecDepth 100000
open Go.RowKit
set_option maxHeartbeats 6400000 in
theorem msgSame_walk (ca : Array Value) (m : Mg) (cb : Array Value) (n : Mg) (w : World) (ha : mgE.rep w noneAt ca.toList m) (hb : mgE.rep w noneAt cb.toList n) :
    Calls Try.prog 9 #[.agg ca, .agg cb] w fun e w' => e = .returned (.bool true) ∧ Ext w w' := by
  obtain ⟨ve, vs, hca, hmw, hm1, hm2, -⟩ := mg_rep.1 ha
  obtain ⟨ue, us, hcb, hnw, hn1, hn2, -⟩ := mg_rep.1 hb
  obtain rfl : ca = (mgcells m ve vs).toArray := by rw [← hca]
  obtain rfl : cb = (mgcells n ue us).toArray := by rw [← hcb]
  clear ha hb hca hcb
  obtain ⟨Ae, ce, rfl, -, -⟩ := hm1.form
  obtain ⟨As, cs, rfl, -, -, -⟩ := id hm2
  obtain ⟨Be, de, rfl, -, -⟩ := hn1.form
  obtain ⟨Bt, ds, rfl, -, -, -⟩ := id hn2
  go_enter Try.func9, Try.ntmps9
  repeat (first | with_reducible refine two_stop ?_ | go_step)
  intro W g hg hA hB hx
  subst hg
  go_wp2_with fail
  refine (begun24_b _).mono ?_
  rintro e W1 ⟨rfl, hx1⟩
  have hA1 := hA.ext hx1
  have hB1 := hB.ext hx1
  have hxw1 := hx.trans' hx1
  go_wp2_with (refine ld_row rfl 44 _ rfl _ rfl 44 _ _ hA1 Try.underlying44 rfl (by kernel_rfl) ?_)
  refine (light_b m _ _ _ (hm1.ext hxw1) (hm2.ext hxw1) hmw).mono ?_
  rintro e W2 ⟨b1, rfl, hx2, hl1⟩
  have hB2 := hB1.ext hx2
  have hA2 := hA1.ext hx2
  have hxw2 := hxw1.trans' hx2
  cases b1 with
  | false =>
    go_wp2
    go_ret
    exact ⟨rfl, hxw2⟩
  | true =>
  have hml := hl1 rfl
  clear hl1
  go_wp2_with (refine ld_row rfl 44 _ rfl _ rfl 44 _ _ hB2 Try.underlying44 rfl (by kernel_rfl) ?_)
  refine (light_b n _ _ _ (hn1.ext hxw2) (hn2.ext hxw2) hnw).mono ?_
  rintro e W3 ⟨b2, rfl, hx3, hl2⟩
  have hA3 := hA2.ext hx3
  have hB3 := hB2.ext hx3
  have hxw3 := hxw2.trans' hx3
  cases b2 with
  | false =>
    go_wp2
    go_ret
    exact ⟨rfl, hxw3⟩
  | true =>
  have hnl := hl2 rfl
  clear hl2
  have a13 : W3.cell? ⟨w.heap.size, 13, none⟩ = some (.int .i64 m.cmd.kind) := (hA3.cell 13).trans rfl
  have b13 : W3.cell? ⟨w.heap.size + 1, 13, none⟩ = some (.int .i64 n.cmd.kind) := (hB3.cell 13).trans rfl
  by_cases hk1 : m.cmd.kind = 0
  · have hk1' : (m.cmd.kind == 0) = true := by simpa using hk1
    go_wp2
    go_ret
    exact ⟨rfl, hxw3⟩
  by_cases hk2 : n.cmd.kind = 0
  · have hk1' : (m.cmd.kind == 0) = false := by simpa using hk1
    have hk2' : (n.cmd.kind == 0) = true := by simpa using hk2
    go_wp2
    go_ret
    exact ⟨rfl, hxw3⟩
  have hk1' : (m.cmd.kind == 0) = false := by simpa using hk1
  have hk2' : (n.cmd.kind == 0) = false := by simpa using hk2
  have hwm : msgW.ok m := Mg.okW hmw hml (.inl hk1) (Sl.terms hm1)
  have hwn : msgW.ok n := Mg.okW hnw hnl (.inl hk2) (Sl.terms hn1)
  have hiff := Mg.enc_iff hwm hwn
  go_upto_region 5 with fail
  generalize W3 = W4 at *
  replace hm1 := hm1.ext hxw3
  replace hm2 := hm2.ext hxw3
  replace hn1 := hn1.ext hxw3
  replace hn2 := hn2.ext hxw3
  have hA4 := hA3
  have hB4 := hB3
  clear hA hB hA1 hB1 hA2 hB2 hA3 hB3 hxw1 hxw2 hx1 hx2 hx3 a13 b13 hwm hwn
  by_cases hmn : m = n
  · have henc : msgC.enc m = msgC.enc n := hiff.2 hmn
    clear hiff
    refine Rg.regionT Try.checked.mixed 43 17 (by kernel_rfl) [
      (fun x_ _ => x_ = .agg (mgcells m (.slice Ae m.ents.length ce) (.slice As m.snap.state.length cs)).toArray),
      (fun x_ _ => x_ = .agg (mgcells m (.slice Ae m.ents.length ce) (.slice As m.snap.state.length cs)).toArray),
      (fun x_ _ => x_ = .bool true),
      (fun x_ _ => x_ = .bool true),
      (fun x_ _ => x_ = .agg (mgcells m (.slice Ae m.ents.length ce) (.slice As m.snap.state.length cs)).toArray),
      (fun x_ _ => x_ = .agg (mgcells n (.slice Be n.ents.length de) (.slice Bt n.snap.state.length ds)).toArray),
      (fun x_ _ => x_ = .bool true),
      (fun x_ _ => x_ = .agg (mgcells m (.slice Ae m.ents.length ce) (.slice As m.snap.state.length cs)).toArray),
      (fun v W => Bs W v (msgC.enc m)),
      (fun x_ _ => x_ = str (msgC.enc m)),
      (fun x_ _ => x_ = .agg (mgcells n (.slice Be n.ents.length de) (.slice Bt n.snap.state.length ds)).toArray),
      (fun v W => Bs W v (msgC.enc n)),
      (fun x_ _ => x_ = str (msgC.enc n)),
      (fun x_ _ => x_ = .bool true),
      (fun x_ _ => x_ = .bool true),
      (fun x_ _ => x_ = .bool true),
      (fun x_ _ => x_ = .bool true)] (fun W => Ext W4 W) Ext rfl rfl rfl
      ?st ((Ext.rfl' W4).drew') ?ob ?en
    case st => exact ⟨fun _ _ _ h _ => h, fun _ _ _ h _ => h, fun _ _ _ h _ => h, fun _ _ _ h _ => h, fun _ _ _ h _ => h, fun _ _ _ h _ => h, fun _ _ _ h _ => h, fun _ _ _ h _ => h, fun _ _ _ h hx => h.ext hx, fun _ _ _ h _ => h, fun _ _ _ h _ => h, fun _ _ _ h hx => h.ext hx, fun _ _ _ h _ => h, fun _ _ _ h _ => h, fun _ _ _ h _ => h, fun _ _ _ h _ => h, fun _ _ _ h _ => h, trivial⟩
    case ob =>
      refine ⟨Rg.at_run [2] rfl ?_, ?_⟩
      · intro ρ W hR ⟨q2, _⟩
        replace q2 : ρ 2 = .pointer (some ⟨w.heap.size, 0, none⟩) := q2
        refine ⟨rfl, ?_⟩
        exact Rg.run_ok (v := .agg (mgcells m (.slice Ae m.ents.length ce) (.slice As m.snap.state.length cs)).toArray) (Rg.load_row 44 (.tmp 2) rfl w.heap.size q2 44 _ _ (hA4.ext hR) Try.underlying44 rfl (by kernel_rfl)) ⟨rfl, hR, Ext.rfl' _⟩
      refine ⟨Rg.at_run [2] rfl ?_, ?_⟩
      · intro ρ W hR ⟨q2, _⟩
        replace q2 : ρ 2 = .pointer (some ⟨w.heap.size, 0, none⟩) := q2
        refine ⟨rfl, ?_⟩
        exact Rg.run_ok (v := .agg (mgcells m (.slice Ae m.ents.length ce) (.slice As m.snap.state.length cs)).toArray) (Rg.load_row 44 (.tmp 2) rfl w.heap.size q2 44 _ _ (hA4.ext hR) Try.underlying44 rfl (by kernel_rfl)) ⟨rfl, hR, Ext.rfl' _⟩
      refine ⟨Rg.at_run [27, 28] rfl ?_, ?_⟩
      · intro ρ W hR ⟨q27, q28, _⟩
        replace q27 : ρ 27 = .agg (mgcells m (.slice Ae m.ents.length ce) (.slice As m.snap.state.length cs)).toArray := q27
        replace q28 : ρ 28 = .agg (mgcells m (.slice Ae m.ents.length ce) (.slice As m.snap.state.length cs)).toArray := q28
        refine ⟨rfl, ?_⟩
        refine Rg.enter_fn (args := #[.agg (mgcells m (.slice Ae m.ents.length ce) (.slice As m.snap.state.length cs)).toArray, .agg (mgcells m (.slice Ae m.ents.length ce) (.slice As m.snap.state.length cs)).toArray]) rfl (by simp only [List.map_toArray, List.map_cons, List.map_nil, Rg.ev, q27, q28]) (by kernel_rfl) ?_
        refine (msame_b m m _ _ _ _ W (hm1.ext hR) (hm2.ext hR) (hm1.ext hR) (hm2.ext hR)).mono ?_
        rintro e_ w2 ⟨⟨r, rfl, hr⟩, hxx⟩
        obtain rfl : r = true := hr.2 rfl
        exact ⟨_, rfl, rfl, hR.trans' hxx, hxx⟩
      refine ⟨Rg.at_run [29] rfl ?_, ?_⟩
      · intro ρ W hR ⟨q29, _⟩
        replace q29 : ρ 29 = .bool true := q29
        refine ⟨rfl, ?_⟩
        exact Rg.run_ok (v := .bool true) (by simp [execOp, Rg.ev, go_sem, q29]) ⟨rfl, hR, Ext.rfl' _⟩
      refine ⟨Rg.at_run [2, 30] rfl ?_, ?_⟩
      · intro ρ W hR ⟨q2, q30, _⟩
        replace q2 : ρ 2 = .pointer (some ⟨w.heap.size, 0, none⟩) := q2
        replace q30 : ρ 30 = .bool true := q30
        refine ⟨by simp [Rg.wants, q30], ?_⟩
        exact Rg.run_ok (v := .agg (mgcells m (.slice Ae m.ents.length ce) (.slice As m.snap.state.length cs)).toArray) (Rg.load_row 44 (.tmp 2) rfl w.heap.size q2 44 _ _ (hA4.ext hR) Try.underlying44 rfl (by kernel_rfl)) ⟨rfl, hR, Ext.rfl' _⟩
      refine ⟨Rg.at_run [3, 30] rfl ?_, ?_⟩
      · intro ρ W hR ⟨q3, q30, _⟩
        replace q3 : ρ 3 = .pointer (some ⟨w.heap.size + 1, 0, none⟩) := q3
        replace q30 : ρ 30 = .bool true := q30
        refine ⟨by simp [Rg.wants, q30], ?_⟩
        exact Rg.run_ok (v := .agg (mgcells n (.slice Be n.ents.length de) (.slice Bt n.snap.state.length ds)).toArray) (Rg.load_row 44 (.tmp 3) rfl (w.heap.size + 1) q3 44 _ _ (hB4.ext hR) Try.underlying44 rfl (by kernel_rfl)) ⟨rfl, hR, Ext.rfl' _⟩
      refine ⟨Rg.at_run [31, 32, 30] rfl ?_, ?_⟩
      · intro ρ W hR ⟨q31, q32, q30, _⟩
        replace q31 : ρ 31 = .agg (mgcells m (.slice Ae m.ents.length ce) (.slice As m.snap.state.length cs)).toArray := q31
        replace q32 : ρ 32 = .agg (mgcells n (.slice Be n.ents.length de) (.slice Bt n.snap.state.length ds)).toArray := q32
        replace q30 : ρ 30 = .bool true := q30
        refine ⟨by simp [Rg.wants, q30], ?_⟩
        refine Rg.enter_fn (args := #[.agg (mgcells m (.slice Ae m.ents.length ce) (.slice As m.snap.state.length cs)).toArray, .agg (mgcells n (.slice Be n.ents.length de) (.slice Bt n.snap.state.length ds)).toArray]) rfl (by simp only [List.map_toArray, List.map_cons, List.map_nil, Rg.ev, q31, q32]) (by kernel_rfl) ?_
        refine (msame_b m n _ _ _ _ W (hm1.ext hR) (hm2.ext hR) (hn1.ext hR) (hn2.ext hR)).mono ?_
        rintro e_ w2 ⟨⟨r, rfl, hr⟩, hxx⟩
        obtain rfl : r = true := hr.2 hmn
        exact ⟨_, rfl, rfl, hR.trans' hxx, hxx⟩
      refine ⟨Rg.at_run [2, 30] rfl ?_, ?_⟩
      · intro ρ W hR ⟨q2, q30, _⟩
        replace q2 : ρ 2 = .pointer (some ⟨w.heap.size, 0, none⟩) := q2
        replace q30 : ρ 30 = .bool true := q30
        refine ⟨by simp [Rg.wants, q30], ?_⟩
        exact Rg.run_ok (v := .agg (mgcells m (.slice Ae m.ents.length ce) (.slice As m.snap.state.length cs)).toArray) (Rg.load_row 44 (.tmp 2) rfl w.heap.size q2 44 _ _ (hA4.ext hR) Try.underlying44 rfl (by kernel_rfl)) ⟨rfl, hR, Ext.rfl' _⟩
      refine ⟨Rg.at_run [34, 30] rfl ?_, ?_⟩
      · intro ρ W hR ⟨q34, q30, _⟩
        replace q34 : ρ 34 = .agg (mgcells m (.slice Ae m.ents.length ce) (.slice As m.snap.state.length cs)).toArray := q34
        replace q30 : ρ 30 = .bool true := q30
        refine ⟨by simp [Rg.wants, q30], ?_⟩
        refine Rg.enter_fn (args := #[.agg (mgcells m (.slice Ae m.ents.length ce) (.slice As m.snap.state.length cs)).toArray]) rfl (by simp only [List.map_toArray, List.map_cons, List.map_nil, Rg.ev, q34]) (by kernel_rfl) ?_
        refine (mput_b m _ _ W hmw hml (hm1.ext hR) (hm2.ext hR)).mono ?_
        rintro e w2 ⟨m9, A9, c9, hm9, rfl, hz, hxx⟩
        have hm' := hm9.out
        subst hm'
        exact ⟨_, rfl, hz, hR.trans' hxx, hxx⟩
      refine ⟨Rg.at_run [35, 30] rfl ?_, ?_⟩
      · intro ρ W hR ⟨q35, q30, _⟩
        replace q35 : (fun v W => Bs W v (msgC.enc m)) (ρ 35) W := q35
        replace q30 : ρ 30 = .bool true := q30
        refine ⟨by simp [Rg.wants, q30], ?_⟩
        have hb : Bs W (ρ 35) (msgC.enc m) := q35
        have hs := run_str (P := Try.prog) hb Try.underlying25 Try.underlying5 Try.underlying9
        exact Rg.run_ok (v := str (msgC.enc m)) (by simp only [execOp, Rg.ev, Sem.run_bind, Sem.run_pure, Result.andThen_ok, hs]) ⟨rfl, hR, Ext.rfl' _⟩
      refine ⟨Rg.at_run [3, 30] rfl ?_, ?_⟩
      · intro ρ W hR ⟨q3, q30, _⟩
        replace q3 : ρ 3 = .pointer (some ⟨w.heap.size + 1, 0, none⟩) := q3
        replace q30 : ρ 30 = .bool true := q30
        refine ⟨by simp [Rg.wants, q30], ?_⟩
        exact Rg.run_ok (v := .agg (mgcells n (.slice Be n.ents.length de) (.slice Bt n.snap.state.length ds)).toArray) (Rg.load_row 44 (.tmp 3) rfl (w.heap.size + 1) q3 44 _ _ (hB4.ext hR) Try.underlying44 rfl (by kernel_rfl)) ⟨rfl, hR, Ext.rfl' _⟩
      refine ⟨Rg.at_run [37, 30] rfl ?_, ?_⟩
      · intro ρ W hR ⟨q37, q30, _⟩
        replace q37 : ρ 37 = .agg (mgcells n (.slice Be n.ents.length de) (.slice Bt n.snap.state.length ds)).toArray := q37
        replace q30 : ρ 30 = .bool true := q30
        refine ⟨by simp [Rg.wants, q30], ?_⟩
        refine Rg.enter_fn (args := #[.agg (mgcells n (.slice Be n.ents.length de) (.slice Bt n.snap.state.length ds)).toArray]) rfl (by simp only [List.map_toArray, List.map_cons, List.map_nil, Rg.ev, q37]) (by kernel_rfl) ?_
        refine (mput_b n _ _ W hnw hnl (hn1.ext hR) (hn2.ext hR)).mono ?_
        rintro e w2 ⟨m9, A9, c9, hm9, rfl, hz, hxx⟩
        have hm' := hm9.out
        subst hm'
        exact ⟨_, rfl, hz, hR.trans' hxx, hxx⟩
      refine ⟨Rg.at_run [38, 30] rfl ?_, ?_⟩
      · intro ρ W hR ⟨q38, q30, _⟩
        replace q38 : (fun v W => Bs W v (msgC.enc n)) (ρ 38) W := q38
        replace q30 : ρ 30 = .bool true := q30
        refine ⟨by simp [Rg.wants, q30], ?_⟩
        have hb : Bs W (ρ 38) (msgC.enc n) := q38
        have hs := run_str (P := Try.prog) hb Try.underlying25 Try.underlying5 Try.underlying9
        exact Rg.run_ok (v := str (msgC.enc n)) (by simp only [execOp, Rg.ev, Sem.run_bind, Sem.run_pure, Result.andThen_ok, hs]) ⟨rfl, hR, Ext.rfl' _⟩
      refine ⟨Rg.at_run [36, 39, 30] rfl ?_, ?_⟩
      · intro ρ W hR ⟨q36, q39, q30, _⟩
        replace q36 : ρ 36 = str (msgC.enc m) := q36
        replace q39 : ρ 39 = str (msgC.enc n) := q39
        replace q30 : ρ 30 = .bool true := q30
        refine ⟨by simp [Rg.wants, q30], ?_⟩
        exact Rg.run_ok (v := .bool true) (by simp [execOp, Rg.ev, go_sem, q36, q39, henc]) ⟨rfl, hR, Ext.rfl' _⟩
      refine ⟨Rg.at_run [33, 40, 30] rfl ?_, ?_⟩
      · intro ρ W hR ⟨q33, q40, q30, _⟩
        replace q33 : ρ 33 = .bool true := q33
        replace q40 : ρ 40 = .bool true := q40
        replace q30 : ρ 30 = .bool true := q30
        refine ⟨by simp [Rg.wants, q30], ?_⟩
        exact Rg.run_ok (v := .bool true) (by simp [execOp, Rg.ev, go_sem, q33, q40]) ⟨rfl, hR, Ext.rfl' _⟩
      refine ⟨Rg.at_run [30, 41] rfl ?_, ?_⟩
      · intro ρ W hR ⟨q30, q41, _⟩
        replace q30 : ρ 30 = .bool true := q30
        replace q41 : ρ 41 = .bool true := q41
        refine ⟨rfl, ?_⟩
        exact Rg.run_ok (v := .bool true) (by simp [execOp, Rg.ev, go_sem, q30, q41]) ⟨rfl, hR, Ext.rfl' _⟩
      refine ⟨Rg.at_run [42] rfl ?_, ?_⟩
      · intro ρ W hR ⟨q42, _⟩
        replace q42 : ρ 42 = .bool true := q42
        refine ⟨rfl, ?_⟩
        exact Rg.run_ok (v := .bool true) (by simp [execOp, Rg.ev, go_sem, q42]) ⟨rfl, hR, Ext.rfl' _⟩
      trivial
    case en =>
      intro tm W hR hsz hk
      rw [Rg.fin_eq (ds := [27, 28, 29, 30, 31, 32, 33, 34, 35, 36, 37, 38, 39, 40, 41, 42, 4]) rfl rfl rfl hsz hk]
      have k4 : tm.getD 4 undef = .bool true := hk 4
      have k27 : tm.getD 27 undef = .agg (mgcells m (.slice Ae m.ents.length ce) (.slice As m.snap.state.length cs)).toArray := hk 27
      have k28 : tm.getD 28 undef = .agg (mgcells m (.slice Ae m.ents.length ce) (.slice As m.snap.state.length cs)).toArray := hk 28
      have k29 : tm.getD 29 undef = .bool true := hk 29
      have k30 : tm.getD 30 undef = .bool true := hk 30
      have k31 : tm.getD 31 undef = .agg (mgcells m (.slice Ae m.ents.length ce) (.slice As m.snap.state.length cs)).toArray := hk 31
      have k32 : tm.getD 32 undef = .agg (mgcells n (.slice Be n.ents.length de) (.slice Bt n.snap.state.length ds)).toArray := hk 32
      have k33 : tm.getD 33 undef = .bool true := hk 33
      have k34 : tm.getD 34 undef = .agg (mgcells m (.slice Ae m.ents.length ce) (.slice As m.snap.state.length cs)).toArray := hk 34
      have k35 : (fun v W => Bs W v (msgC.enc m)) (tm.getD 35 undef) W := hk 35
      have k36 : tm.getD 36 undef = str (msgC.enc m) := hk 36
      have k37 : tm.getD 37 undef = .agg (mgcells n (.slice Be n.ents.length de) (.slice Bt n.snap.state.length ds)).toArray := hk 37
      have k38 : (fun v W => Bs W v (msgC.enc n)) (tm.getD 38 undef) W := hk 38
      have k39 : tm.getD 39 undef = str (msgC.enc n) := hk 39
      have k40 : tm.getD 40 undef = .bool true := hk 40
      have k41 : tm.getD 41 undef = .bool true := hk 41
      have k42 : tm.getD 42 undef = .bool true := hk 42
      clear hk hsz
      simp only [Rg.putAll, List.setIfInBounds_toArray, List.set_cons_zero, List.set_cons_succ, k4, k27, k28, k29, k30, k31, k32, k33, k34, k36, k37, k39, k40, k41, k42]
      clear k4
      clear k27
      clear k28
      clear k29
      clear k30
      clear k31
      clear k32
      clear k33
      clear k34
      generalize tm.getD 35 undef = u35 at *
      clear k36
      clear k37
      generalize tm.getD 38 undef = u38 at *
      clear k39
      clear k40
      clear k41
      clear k42
      refine Rg.nil_list ?_
      go_wp2
      go_ret
      exact ⟨rfl, hxw3.trans' hR⟩
  · have henc : ¬ msgC.enc m = msgC.enc n := fun h => hmn (hiff.1 h)
    clear hiff
    refine Rg.regionT Try.checked.mixed 43 17 (by kernel_rfl) [
      (fun x_ _ => x_ = .agg (mgcells m (.slice Ae m.ents.length ce) (.slice As m.snap.state.length cs)).toArray),
      (fun x_ _ => x_ = .agg (mgcells m (.slice Ae m.ents.length ce) (.slice As m.snap.state.length cs)).toArray),
      (fun x_ _ => x_ = .bool true),
      (fun x_ _ => x_ = .bool true),
      (fun x_ _ => x_ = .agg (mgcells m (.slice Ae m.ents.length ce) (.slice As m.snap.state.length cs)).toArray),
      (fun x_ _ => x_ = .agg (mgcells n (.slice Be n.ents.length de) (.slice Bt n.snap.state.length ds)).toArray),
      (fun x_ _ => x_ = .bool false),
      (fun x_ _ => x_ = .agg (mgcells m (.slice Ae m.ents.length ce) (.slice As m.snap.state.length cs)).toArray),
      (fun v W => Bs W v (msgC.enc m)),
      (fun x_ _ => x_ = str (msgC.enc m)),
      (fun x_ _ => x_ = .agg (mgcells n (.slice Be n.ents.length de) (.slice Bt n.snap.state.length ds)).toArray),
      (fun v W => Bs W v (msgC.enc n)),
      (fun x_ _ => x_ = str (msgC.enc n)),
      (fun x_ _ => x_ = .bool false),
      (fun x_ _ => x_ = .bool true),
      (fun x_ _ => x_ = .bool true),
      (fun x_ _ => x_ = .bool true)] (fun W => Ext W4 W) Ext rfl rfl rfl
      ?st ((Ext.rfl' W4).drew') ?ob ?en
    case st => exact ⟨fun _ _ _ h _ => h, fun _ _ _ h _ => h, fun _ _ _ h _ => h, fun _ _ _ h _ => h, fun _ _ _ h _ => h, fun _ _ _ h _ => h, fun _ _ _ h _ => h, fun _ _ _ h _ => h, fun _ _ _ h hx => h.ext hx, fun _ _ _ h _ => h, fun _ _ _ h _ => h, fun _ _ _ h hx => h.ext hx, fun _ _ _ h _ => h, fun _ _ _ h _ => h, fun _ _ _ h _ => h, fun _ _ _ h _ => h, fun _ _ _ h _ => h, trivial⟩
    case ob =>
      refine ⟨Rg.at_run [2] rfl ?_, ?_⟩
      · intro ρ W hR ⟨q2, _⟩
        replace q2 : ρ 2 = .pointer (some ⟨w.heap.size, 0, none⟩) := q2
        refine ⟨rfl, ?_⟩
        exact Rg.run_ok (v := .agg (mgcells m (.slice Ae m.ents.length ce) (.slice As m.snap.state.length cs)).toArray) (Rg.load_row 44 (.tmp 2) rfl w.heap.size q2 44 _ _ (hA4.ext hR) Try.underlying44 rfl (by kernel_rfl)) ⟨rfl, hR, Ext.rfl' _⟩
      refine ⟨Rg.at_run [2] rfl ?_, ?_⟩
      · intro ρ W hR ⟨q2, _⟩
        replace q2 : ρ 2 = .pointer (some ⟨w.heap.size, 0, none⟩) := q2
        refine ⟨rfl, ?_⟩
        exact Rg.run_ok (v := .agg (mgcells m (.slice Ae m.ents.length ce) (.slice As m.snap.state.length cs)).toArray) (Rg.load_row 44 (.tmp 2) rfl w.heap.size q2 44 _ _ (hA4.ext hR) Try.underlying44 rfl (by kernel_rfl)) ⟨rfl, hR, Ext.rfl' _⟩
      refine ⟨Rg.at_run [27, 28] rfl ?_, ?_⟩
      · intro ρ W hR ⟨q27, q28, _⟩
        replace q27 : ρ 27 = .agg (mgcells m (.slice Ae m.ents.length ce) (.slice As m.snap.state.length cs)).toArray := q27
        replace q28 : ρ 28 = .agg (mgcells m (.slice Ae m.ents.length ce) (.slice As m.snap.state.length cs)).toArray := q28
        refine ⟨rfl, ?_⟩
        refine Rg.enter_fn (args := #[.agg (mgcells m (.slice Ae m.ents.length ce) (.slice As m.snap.state.length cs)).toArray, .agg (mgcells m (.slice Ae m.ents.length ce) (.slice As m.snap.state.length cs)).toArray]) rfl (by simp only [List.map_toArray, List.map_cons, List.map_nil, Rg.ev, q27, q28]) (by kernel_rfl) ?_
        refine (msame_b m m _ _ _ _ W (hm1.ext hR) (hm2.ext hR) (hm1.ext hR) (hm2.ext hR)).mono ?_
        rintro e_ w2 ⟨⟨r, rfl, hr⟩, hxx⟩
        obtain rfl : r = true := hr.2 rfl
        exact ⟨_, rfl, rfl, hR.trans' hxx, hxx⟩
      refine ⟨Rg.at_run [29] rfl ?_, ?_⟩
      · intro ρ W hR ⟨q29, _⟩
        replace q29 : ρ 29 = .bool true := q29
        refine ⟨rfl, ?_⟩
        exact Rg.run_ok (v := .bool true) (by simp [execOp, Rg.ev, go_sem, q29]) ⟨rfl, hR, Ext.rfl' _⟩
      refine ⟨Rg.at_run [2, 30] rfl ?_, ?_⟩
      · intro ρ W hR ⟨q2, q30, _⟩
        replace q2 : ρ 2 = .pointer (some ⟨w.heap.size, 0, none⟩) := q2
        replace q30 : ρ 30 = .bool true := q30
        refine ⟨by simp [Rg.wants, q30], ?_⟩
        exact Rg.run_ok (v := .agg (mgcells m (.slice Ae m.ents.length ce) (.slice As m.snap.state.length cs)).toArray) (Rg.load_row 44 (.tmp 2) rfl w.heap.size q2 44 _ _ (hA4.ext hR) Try.underlying44 rfl (by kernel_rfl)) ⟨rfl, hR, Ext.rfl' _⟩
      refine ⟨Rg.at_run [3, 30] rfl ?_, ?_⟩
      · intro ρ W hR ⟨q3, q30, _⟩
        replace q3 : ρ 3 = .pointer (some ⟨w.heap.size + 1, 0, none⟩) := q3
        replace q30 : ρ 30 = .bool true := q30
        refine ⟨by simp [Rg.wants, q30], ?_⟩
        exact Rg.run_ok (v := .agg (mgcells n (.slice Be n.ents.length de) (.slice Bt n.snap.state.length ds)).toArray) (Rg.load_row 44 (.tmp 3) rfl (w.heap.size + 1) q3 44 _ _ (hB4.ext hR) Try.underlying44 rfl (by kernel_rfl)) ⟨rfl, hR, Ext.rfl' _⟩
      refine ⟨Rg.at_run [31, 32, 30] rfl ?_, ?_⟩
      · intro ρ W hR ⟨q31, q32, q30, _⟩
        replace q31 : ρ 31 = .agg (mgcells m (.slice Ae m.ents.length ce) (.slice As m.snap.state.length cs)).toArray := q31
        replace q32 : ρ 32 = .agg (mgcells n (.slice Be n.ents.length de) (.slice Bt n.snap.state.length ds)).toArray := q32
        replace q30 : ρ 30 = .bool true := q30
        refine ⟨by simp [Rg.wants, q30], ?_⟩
        refine Rg.enter_fn (args := #[.agg (mgcells m (.slice Ae m.ents.length ce) (.slice As m.snap.state.length cs)).toArray, .agg (mgcells n (.slice Be n.ents.length de) (.slice Bt n.snap.state.length ds)).toArray]) rfl (by simp only [List.map_toArray, List.map_cons, List.map_nil, Rg.ev, q31, q32]) (by kernel_rfl) ?_
        refine (msame_b m n _ _ _ _ W (hm1.ext hR) (hm2.ext hR) (hn1.ext hR) (hn2.ext hR)).mono ?_
        rintro e_ w2 ⟨⟨r, rfl, hr⟩, hxx⟩
        obtain rfl : r = false := (by cases r with | false => rfl | true => exact absurd (hr.1 rfl) hmn)
        exact ⟨_, rfl, rfl, hR.trans' hxx, hxx⟩
      refine ⟨Rg.at_run [2, 30] rfl ?_, ?_⟩
      · intro ρ W hR ⟨q2, q30, _⟩
        replace q2 : ρ 2 = .pointer (some ⟨w.heap.size, 0, none⟩) := q2
        replace q30 : ρ 30 = .bool true := q30
        refine ⟨by simp [Rg.wants, q30], ?_⟩
        exact Rg.run_ok (v := .agg (mgcells m (.slice Ae m.ents.length ce) (.slice As m.snap.state.length cs)).toArray) (Rg.load_row 44 (.tmp 2) rfl w.heap.size q2 44 _ _ (hA4.ext hR) Try.underlying44 rfl (by kernel_rfl)) ⟨rfl, hR, Ext.rfl' _⟩
      refine ⟨Rg.at_run [34, 30] rfl ?_, ?_⟩
      · intro ρ W hR ⟨q34, q30, _⟩
        replace q34 : ρ 34 = .agg (mgcells m (.slice Ae m.ents.length ce) (.slice As m.snap.state.length cs)).toArray := q34
        replace q30 : ρ 30 = .bool true := q30
        refine ⟨by simp [Rg.wants, q30], ?_⟩
        refine Rg.enter_fn (args := #[.agg (mgcells m (.slice Ae m.ents.length ce) (.slice As m.snap.state.length cs)).toArray]) rfl (by simp only [List.map_toArray, List.map_cons, List.map_nil, Rg.ev, q34]) (by kernel_rfl) ?_
        refine (mput_b m _ _ W hmw hml (hm1.ext hR) (hm2.ext hR)).mono ?_
        rintro e w2 ⟨m9, A9, c9, hm9, rfl, hz, hxx⟩
        have hm' := hm9.out
        subst hm'
        exact ⟨_, rfl, hz, hR.trans' hxx, hxx⟩
      refine ⟨Rg.at_run [35, 30] rfl ?_, ?_⟩
      · intro ρ W hR ⟨q35, q30, _⟩
        replace q35 : (fun v W => Bs W v (msgC.enc m)) (ρ 35) W := q35
        replace q30 : ρ 30 = .bool true := q30
        refine ⟨by simp [Rg.wants, q30], ?_⟩
        have hb : Bs W (ρ 35) (msgC.enc m) := q35
        have hs := run_str (P := Try.prog) hb Try.underlying25 Try.underlying5 Try.underlying9
        exact Rg.run_ok (v := str (msgC.enc m)) (by simp only [execOp, Rg.ev, Sem.run_bind, Sem.run_pure, Result.andThen_ok, hs]) ⟨rfl, hR, Ext.rfl' _⟩
      refine ⟨Rg.at_run [3, 30] rfl ?_, ?_⟩
      · intro ρ W hR ⟨q3, q30, _⟩
        replace q3 : ρ 3 = .pointer (some ⟨w.heap.size + 1, 0, none⟩) := q3
        replace q30 : ρ 30 = .bool true := q30
        refine ⟨by simp [Rg.wants, q30], ?_⟩
        exact Rg.run_ok (v := .agg (mgcells n (.slice Be n.ents.length de) (.slice Bt n.snap.state.length ds)).toArray) (Rg.load_row 44 (.tmp 3) rfl (w.heap.size + 1) q3 44 _ _ (hB4.ext hR) Try.underlying44 rfl (by kernel_rfl)) ⟨rfl, hR, Ext.rfl' _⟩
      refine ⟨Rg.at_run [37, 30] rfl ?_, ?_⟩
      · intro ρ W hR ⟨q37, q30, _⟩
        replace q37 : ρ 37 = .agg (mgcells n (.slice Be n.ents.length de) (.slice Bt n.snap.state.length ds)).toArray := q37
        replace q30 : ρ 30 = .bool true := q30
        refine ⟨by simp [Rg.wants, q30], ?_⟩
        refine Rg.enter_fn (args := #[.agg (mgcells n (.slice Be n.ents.length de) (.slice Bt n.snap.state.length ds)).toArray]) rfl (by simp only [List.map_toArray, List.map_cons, List.map_nil, Rg.ev, q37]) (by kernel_rfl) ?_
        refine (mput_b n _ _ W hnw hnl (hn1.ext hR) (hn2.ext hR)).mono ?_
        rintro e w2 ⟨m9, A9, c9, hm9, rfl, hz, hxx⟩
        have hm' := hm9.out
        subst hm'
        exact ⟨_, rfl, hz, hR.trans' hxx, hxx⟩
      refine ⟨Rg.at_run [38, 30] rfl ?_, ?_⟩
      · intro ρ W hR ⟨q38, q30, _⟩
        replace q38 : (fun v W => Bs W v (msgC.enc n)) (ρ 38) W := q38
        replace q30 : ρ 30 = .bool true := q30
        refine ⟨by simp [Rg.wants, q30], ?_⟩
        have hb : Bs W (ρ 38) (msgC.enc n) := q38
        have hs := run_str (P := Try.prog) hb Try.underlying25 Try.underlying5 Try.underlying9
        exact Rg.run_ok (v := str (msgC.enc n)) (by simp only [execOp, Rg.ev, Sem.run_bind, Sem.run_pure, Result.andThen_ok, hs]) ⟨rfl, hR, Ext.rfl' _⟩
      refine ⟨Rg.at_run [36, 39, 30] rfl ?_, ?_⟩
      · intro ρ W hR ⟨q36, q39, q30, _⟩
        replace q36 : ρ 36 = str (msgC.enc m) := q36
        replace q39 : ρ 39 = str (msgC.enc n) := q39
        replace q30 : ρ 30 = .bool true := q30
        refine ⟨by simp [Rg.wants, q30], ?_⟩
        exact Rg.run_ok (v := .bool false) (by simp [execOp, Rg.ev, go_sem, q36, q39, henc]) ⟨rfl, hR, Ext.rfl' _⟩
      refine ⟨Rg.at_run [33, 40, 30] rfl ?_, ?_⟩
      · intro ρ W hR ⟨q33, q40, q30, _⟩
        replace q33 : ρ 33 = .bool false := q33
        replace q40 : ρ 40 = .bool false := q40
        replace q30 : ρ 30 = .bool true := q30
        refine ⟨by simp [Rg.wants, q30], ?_⟩
        exact Rg.run_ok (v := .bool true) (by simp [execOp, Rg.ev, go_sem, q33, q40]) ⟨rfl, hR, Ext.rfl' _⟩
      refine ⟨Rg.at_run [30, 41] rfl ?_, ?_⟩
      · intro ρ W hR ⟨q30, q41, _⟩
        replace q30 : ρ 30 = .bool true := q30
        replace q41 : ρ 41 = .bool true := q41
        refine ⟨rfl, ?_⟩
        exact Rg.run_ok (v := .bool true) (by simp [execOp, Rg.ev, go_sem, q30, q41]) ⟨rfl, hR, Ext.rfl' _⟩
      refine ⟨Rg.at_run [42] rfl ?_, ?_⟩
      · intro ρ W hR ⟨q42, _⟩
        replace q42 : ρ 42 = .bool true := q42
        refine ⟨rfl, ?_⟩
        exact Rg.run_ok (v := .bool true) (by simp [execOp, Rg.ev, go_sem, q42]) ⟨rfl, hR, Ext.rfl' _⟩
      trivial
    case en =>
      intro tm W hR hsz hk
      rw [Rg.fin_eq (ds := [27, 28, 29, 30, 31, 32, 33, 34, 35, 36, 37, 38, 39, 40, 41, 42, 4]) rfl rfl rfl hsz hk]
      have k4 : tm.getD 4 undef = .bool true := hk 4
      have k27 : tm.getD 27 undef = .agg (mgcells m (.slice Ae m.ents.length ce) (.slice As m.snap.state.length cs)).toArray := hk 27
      have k28 : tm.getD 28 undef = .agg (mgcells m (.slice Ae m.ents.length ce) (.slice As m.snap.state.length cs)).toArray := hk 28
      have k29 : tm.getD 29 undef = .bool true := hk 29
      have k30 : tm.getD 30 undef = .bool true := hk 30
      have k31 : tm.getD 31 undef = .agg (mgcells m (.slice Ae m.ents.length ce) (.slice As m.snap.state.length cs)).toArray := hk 31
      have k32 : tm.getD 32 undef = .agg (mgcells n (.slice Be n.ents.length de) (.slice Bt n.snap.state.length ds)).toArray := hk 32
      have k33 : tm.getD 33 undef = .bool false := hk 33
      have k34 : tm.getD 34 undef = .agg (mgcells m (.slice Ae m.ents.length ce) (.slice As m.snap.state.length cs)).toArray := hk 34
      have k35 : (fun v W => Bs W v (msgC.enc m)) (tm.getD 35 undef) W := hk 35
      have k36 : tm.getD 36 undef = str (msgC.enc m) := hk 36
      have k37 : tm.getD 37 undef = .agg (mgcells n (.slice Be n.ents.length de) (.slice Bt n.snap.state.length ds)).toArray := hk 37
      have k38 : (fun v W => Bs W v (msgC.enc n)) (tm.getD 38 undef) W := hk 38
      have k39 : tm.getD 39 undef = str (msgC.enc n) := hk 39
      have k40 : tm.getD 40 undef = .bool false := hk 40
      have k41 : tm.getD 41 undef = .bool true := hk 41
      have k42 : tm.getD 42 undef = .bool true := hk 42
      clear hk hsz
      simp only [Rg.putAll, List.setIfInBounds_toArray, List.set_cons_zero, List.set_cons_succ, k4, k27, k28, k29, k30, k31, k32, k33, k34, k36, k37, k39, k40, k41, k42]
      clear k4
      clear k27
      clear k28
      clear k29
      clear k30
      clear k31
      clear k32
      clear k33
      clear k34
      generalize tm.getD 35 undef = u35 at *
      clear k36
      clear k37
      generalize tm.getD 38 undef = u38 at *
      clear k39
      clear k40
      clear k41
      clear k42
      refine Rg.nil_list ?_
      go_wp2
      go_ret
      exact ⟨rfl, hxw3.trans' hR⟩
end Go.Proofs.Ytccpbchcfgggmaa
