/- A part of the proof of 'StateBytes'. -/
import Derived.Test.YtamimdlaclglkaaGreatB39
import Derived.Test.YtamimdlaclglkaaGreatB40
import Derived.Test.YtamimdlaclglkaaGreatB41
import Derived.Test.YtamimdlaclglkaaGreatB44
import Derived.Test.YtamimdlaclglkaaGreatB15
import Derived.Test.YtamimdlaclglkaaGreatB8
import Derived.JoinedCond
import Derived.Test.YtamimdlaclglkaaGreatB2
namespace Go.Proofs.YtamimdlaclglkaaGreat
set_option linter.unusedVariables false
set_option linter.unusedSimpArgs false
set_option linter.unnecessarySimpa false
set_option maxRecDepth 100000
open Go.RowKit
set_option maxHeartbeats 12800000 in
theorem stateBytes_walk (a1 : Array Value) (s : St) (x : Value) (b : Bytes) (w : World) (hs : stE.rep w noneAt a1.toList s) (hx : Bs w x b) (hws : stW s ≤ 1048576) :
    Calls Tryz.prog 5 #[.agg a1, x] w fun e w' => e = .returned (.bool true) ∧ Ext w w' := by
  obtain ⟨vl, vs, hc1, -, -, s3, s4⟩ := st_rep.1 hs
  obtain ⟨A1, c1, rfl, -, -⟩ := s3.form
  obtain ⟨B1, d1, rfl, -, -⟩ := s4.form
  obtain rfl : a1 = #[.int .u64 s.now, .int .u64 s.count, .slice A1 s.links.length c1, .slice B1 s.sess.length d1] := by cases a1; simpa using hc1
  clear s3 s4 hc1
  obtain ⟨Ax, cx, rfl, -, -, -⟩ := id hx
  have hB := Blk.new w 28 #[.int .u64 s.now, .int .u64 s.count, .slice A1 s.links.length c1, .slice B1 s.sess.length d1]
  have hxr : Ext w (w.alloc (.cells #[.int .u64 s.now, .int .u64 s.count, .slice A1 s.links.length c1, .slice B1 s.sess.length d1] 28)) := (Ext.rfl' w).alloc' _
  obtain ⟨g, hg⟩ : ∃ g, w.heap.size = g := ⟨_, rfl⟩
  rw [hg] at hB
  replace hs := stE.ext hs hxr
  replace hx := hx.ext hxr
  go_enter Tryz.func5, Tryz.ntmps5
  go_upto_region 1 with fail
  try rw [hg]
  generalize (w.alloc (.cells #[.int .u64 s.now, .int .u64 s.count, .slice A1 s.links.length c1, .slice B1 s.sess.length d1] 28)) = w0 at *
  clear hg
  go_wp2_with fail
  refine (begun20_b w0).mono ?_
  rintro e w1 ⟨rfl, hx1⟩
  replace hB := hB.ext hx1
  replace hs := stE.ext hs hx1
  replace hx := hx.ext hx1
  replace hxr := hxr.trans' hx1
  have b0 := (hB.cell 0).trans rfl
  have b1 := (hB.cell 1).trans rfl
  have b2 := (hB.cell 2).trans rfl
  have b3 := (hB.cell 3).trans rfl
  go_wp2_with fail
  refine (light_b s _ w1 hs).mono ?_
  rintro e w2 ⟨bl, rfl, hx2, hl1⟩
  clear b0 b1 b2 b3
  replace hB := hB.ext hx2
  replace hs := stE.ext hs hx2
  replace hx := hx.ext hx2
  replace hxr := hxr.trans' hx2
  cases bl with
  | false =>
    go_wp2_with fail
    go_ret
    exact ⟨rfl, hxr⟩
  | true =>
  have HL1 := hide (hl1 rfl)
  clear hl1
  by_cases hlb : (400 : Int) < b.length
  · go_wp2_with fail
    go_ret
    exact ⟨rfl, hxr⟩
  have HB := hide hlb
  go_wp2_with fail
  refine (twin_b _ b w2 (by have := HB.out; omega) hx).mono ?_
  rintro e w3 ⟨gt, rfl, hgt, htw, hx3⟩
  clear hgt hlb
  replace hB := hB.ext hx3
  replace hs := stE.ext hs hx3
  replace hx := hx.ext hx3
  replace hxr := hxr.trans' hx3
  go_wp2_with fail
  refine (sttake_b _ b noneAt w3 (by have := HB.out; omega) (htw.bs (by have := HB.out; omega)) (fun _ h => h.elim)).mono ?_
  rintro e w4 ⟨t, k, At, ct, Au, cu, htk, rfl, hrT, hx4⟩
  obtain ⟨g6, hg6⟩ : ∃ g_, w4.heap.size = g_ := ⟨_, rfl⟩
  have hT := Blk.new w4 28 #[.int .u64 t.now, .int .u64 t.count, .slice At t.links.length ct, .slice Au t.sess.length cu]
  rw [hg6] at hT
  have hz := (Ext.rfl' w4).alloc' (.cells #[.int .u64 t.now, .int .u64 t.count, .slice At t.links.length ct, .slice Au t.sess.length cu] 28)
  go_upto_region 7 with fail
  try rw [hg6]
  replace hB := hB.ext (hx4.trans' hz)
  replace hs := stE.ext hs (hx4.trans' hz)
  replace hx := hx.ext (hx4.trans' hz)
  replace hxr := hxr.trans' (hx4.trans' hz)
  replace htw := htw.ext (hx4.trans' hz)
  replace hrT := stE.ext hrT hz
  clear hg6 hz hx4
  generalize (w4.alloc (.cells #[.int .u64 t.now, .int .u64 t.count, .slice At t.links.length ct, .slice Au t.sess.length cu] 28)) = w5 at *
  go_wp2_with fail
  refine (rttake_b _ b w5 (by have := HB.out; omega) hx).mono ?_
  rintro e w6 ⟨t2, k2, Bt, dt, Bu, du, htk2, rfl, hrU, hx6⟩
  have htt := htk2.out
  rw [← htk.out] at htt
  obtain ⟨e1, e2⟩ := Prod.mk.inj htt.symm
  subst e1 e2
  clear htt htk htk2
  obtain ⟨g8, hg8⟩ : ∃ g_, w6.heap.size = g_ := ⟨_, rfl⟩
  have hU := Blk.new w6 28 #[.int .u64 t.now, .int .u64 t.count, .slice Bt t.links.length dt, .slice Bu t.sess.length du]
  rw [hg8] at hU
  have hz := (Ext.rfl' w6).alloc' (.cells #[.int .u64 t.now, .int .u64 t.count, .slice Bt t.links.length dt, .slice Bu t.sess.length du] 28)
  go_upto_region 8 with fail
  try rw [hg8]
  replace hB := hB.ext (hx6.trans' hz)
  replace hT := hT.ext (hx6.trans' hz)
  replace hs := stE.ext hs (hx6.trans' hz)
  replace hx := hx.ext (hx6.trans' hz)
  replace hxr := hxr.trans' (hx6.trans' hz)
  replace htw := htw.ext (hx6.trans' hz)
  replace hrT := stE.ext hrT (hx6.trans' hz)
  replace hrU := stE.ext hrU hz
  clear hg8 hz hx6
  generalize (w6.alloc (.cells #[.int .u64 t.now, .int .u64 t.count, .slice Bt t.links.length dt, .slice Bu t.sess.length du] 28)) = w7 at *
  have HRS := hide (fun (W : World) (hx : Ext w7 W) => rsameS_b t t _ _ W (stE.ext hrT hx) (stE.ext hrU hx))
  have HPS := hide (fun (W : World) (hx : Ext w7 W) => stput_b s _ W (stE.ext hs hx) (HL1.out.put hws) (by have := HL1.out.1; omega) (by have := HL1.out.2.1; omega) (fun x hx => by have := (HL1.out.sess x hx).1; omega))
  have HPR := hide (fun (W : World) (hx : Ext w7 W) => rputState_b s _ W (stE.ext hs hx) (HL1.out.put hws) (fun x hx => (HL1.out.sess x hx).2.2.1) (fun x hx d hd => by have := ((HL1.out.sess x hx).done d hd).2; omega) (by have := HL1.out.1; omega) (by have := HL1.out.2.1; omega) (fun x hx => by have := (HL1.out.sess x hx).1; omega))
  have HKE := hide (fun (W : World) (hz : Ext w7 W) => kept_b _ b gt W (by have := HB.out; omega) (hx.ext hz) (htw.ext hz))
  obtain ⟨QS, hQS⟩ : ∃ q, stB s = q := ⟨_, rfl⟩
  rw [hQS] at HPS HPR
  clear hQS
  refine Rg.regionT Tryz.checked.mixed 54 23 (by kernel_rfl) [
    (fun x_ _ => x_ = .agg #[.int .u64 s.now, .int .u64 s.count, .slice A1 s.links.length c1, .slice B1 s.sess.length d1]),
    (fun v W => Bs W v QS),
    (fun x_ _ => x_ = str QS),
    (fun x_ _ => x_ = .agg #[.int .u64 s.now, .int .u64 s.count, .slice A1 s.links.length c1, .slice B1 s.sess.length d1]),
    (fun v W => Bs W v QS),
    (fun x_ _ => x_ = str QS),
    (fun x_ _ => x_ = .bool true),
    (fun x_ _ => x_ = .bool true),
    (fun x_ _ => x_ = .int .i64 k),
    (fun x_ _ => x_ = .int .i64 k),
    (fun x_ _ => x_ = .bool true),
    (fun x_ _ => x_ = .bool true),
    (fun x_ _ => x_ = .bool true),
    (fun x_ _ => x_ = .agg #[.int .u64 t.now, .int .u64 t.count, .slice At t.links.length ct, .slice Au t.sess.length cu]),
    (fun x_ _ => x_ = .agg #[.int .u64 t.now, .int .u64 t.count, .slice Bt t.links.length dt, .slice Bu t.sess.length du]),
    (fun x_ _ => x_ = .bool true),
    (fun x_ _ => x_ = .bool true),
    (fun x_ _ => x_ = .bool true),
    (fun x_ _ => x_ = .slice (some ⟨gt, 0, none⟩) b.length (b.length + 3)),
    (fun x_ _ => x_ = .slice Ax b.length cx),
    (fun x_ _ => x_ = .bool true),
    (fun x_ _ => x_ = .bool true),
    (fun x_ _ => x_ = .bool true)] (fun W => Ext w7 W) Ext rfl rfl rfl
    ?st ((Ext.rfl' w7).drew') ?ob ?en
  case st => exact ⟨fun _ _ _ h _ => h, fun _ _ _ h hx => h.ext hx, fun _ _ _ h _ => h, fun _ _ _ h _ => h, fun _ _ _ h hx => h.ext hx, fun _ _ _ h _ => h, fun _ _ _ h _ => h, fun _ _ _ h _ => h, fun _ _ _ h _ => h, fun _ _ _ h _ => h, fun _ _ _ h _ => h, fun _ _ _ h _ => h, fun _ _ _ h _ => h, fun _ _ _ h _ => h, fun _ _ _ h _ => h, fun _ _ _ h _ => h, fun _ _ _ h _ => h, fun _ _ _ h _ => h, fun _ _ _ h _ => h, fun _ _ _ h _ => h, fun _ _ _ h _ => h, fun _ _ _ h _ => h, fun _ _ _ h _ => h, trivial⟩
  case ob =>
    refine ⟨Rg.at_run [2] rfl ?_, ?_⟩
    · intro ρ W hR ⟨q2, _⟩
      replace q2 : ρ 2 = .pointer (some ⟨g, 0, none⟩) := q2
      refine ⟨rfl, ?_⟩
      have c0_ : W.cell? ⟨g, 0, none⟩ = some (.int .u64 s.now) := ((hB.ext hR).cell 0).trans rfl
      have c1_ : W.cell? ⟨g, 1, none⟩ = some (.int .u64 s.count) := ((hB.ext hR).cell 1).trans rfl
      have c2_ : W.cell? ⟨g, 2, none⟩ = some (.slice A1 s.links.length c1) := ((hB.ext hR).cell 2).trans rfl
      have c3_ : W.cell? ⟨g, 3, none⟩ = some (.slice B1 s.sess.length d1) := ((hB.ext hR).cell 3).trans rfl
      exact Rg.run_ok (v := .agg #[.int .u64 s.now, .int .u64 s.count, .slice A1 s.links.length c1, .slice B1 s.sess.length d1]) (by simp [execOp, Rg.ev, go_sem, q2, c0_, c1_, c2_, c3_]) ⟨rfl, hR, Ext.rfl' _⟩
    refine ⟨Rg.at_run [32] rfl ?_, ?_⟩
    · intro ρ W hR ⟨q32, _⟩
      replace q32 : ρ 32 = .agg #[.int .u64 s.now, .int .u64 s.count, .slice A1 s.links.length c1, .slice B1 s.sess.length d1] := q32
      refine ⟨rfl, ?_⟩
      refine Rg.enter_fn (args := #[.agg #[.int .u64 s.now, .int .u64 s.count, .slice A1 s.links.length c1, .slice B1 s.sess.length d1]]) rfl (by simp only [List.map_toArray, List.map_cons, List.map_nil, Rg.ev, q32]) (by kernel_rfl) ?_
      refine (HPS.out W hR).mono ?_
      rintro e w2 ⟨m9, Am9, cm9, hm9, rfl, hz9, hxx⟩
      have hm' := hm9.out
      subst hm'
      exact ⟨_, rfl, hz9.bs, hR.trans' hxx, hxx⟩
    refine ⟨Rg.at_run [33] rfl ?_, ?_⟩
    · intro ρ W hR ⟨q33, _⟩
      replace q33 : (fun v W => Bs W v QS) (ρ 33) W := q33
      refine ⟨rfl, ?_⟩
      have hb : Bs W (ρ 33) QS := q33
      have hs := run_str (P := Tryz.prog) hb Tryz.underlying22 Tryz.underlying5 Tryz.underlying9
      exact Rg.run_ok (v := str QS) (by simp only [execOp, Rg.ev, Sem.run_bind, Sem.run_pure, Result.andThen_ok, hs]) ⟨rfl, hR, Ext.rfl' _⟩
    refine ⟨Rg.at_run [2] rfl ?_, ?_⟩
    · intro ρ W hR ⟨q2, _⟩
      replace q2 : ρ 2 = .pointer (some ⟨g, 0, none⟩) := q2
      refine ⟨rfl, ?_⟩
      have c0_ : W.cell? ⟨g, 0, none⟩ = some (.int .u64 s.now) := ((hB.ext hR).cell 0).trans rfl
      have c1_ : W.cell? ⟨g, 1, none⟩ = some (.int .u64 s.count) := ((hB.ext hR).cell 1).trans rfl
      have c2_ : W.cell? ⟨g, 2, none⟩ = some (.slice A1 s.links.length c1) := ((hB.ext hR).cell 2).trans rfl
      have c3_ : W.cell? ⟨g, 3, none⟩ = some (.slice B1 s.sess.length d1) := ((hB.ext hR).cell 3).trans rfl
      exact Rg.run_ok (v := .agg #[.int .u64 s.now, .int .u64 s.count, .slice A1 s.links.length c1, .slice B1 s.sess.length d1]) (by simp [execOp, Rg.ev, go_sem, q2, c0_, c1_, c2_, c3_]) ⟨rfl, hR, Ext.rfl' _⟩
    refine ⟨Rg.at_run [35] rfl ?_, ?_⟩
    · intro ρ W hR ⟨q35, _⟩
      replace q35 : ρ 35 = .agg #[.int .u64 s.now, .int .u64 s.count, .slice A1 s.links.length c1, .slice B1 s.sess.length d1] := q35
      refine ⟨rfl, ?_⟩
      refine Rg.enter_fn (args := #[.agg #[.int .u64 s.now, .int .u64 s.count, .slice A1 s.links.length c1, .slice B1 s.sess.length d1]]) rfl (by simp only [List.map_toArray, List.map_cons, List.map_nil, Rg.ev, q35]) (by kernel_rfl) ?_
      refine (HPR.out W hR).mono ?_
      rintro e w2 ⟨m9, Am9, cm9, hm9, rfl, hz9, hxx⟩
      have hm' := hm9.out
      subst hm'
      exact ⟨_, rfl, hz9.bs, hR.trans' hxx, hxx⟩
    refine ⟨Rg.at_run [36] rfl ?_, ?_⟩
    · intro ρ W hR ⟨q36, _⟩
      replace q36 : (fun v W => Bs W v QS) (ρ 36) W := q36
      refine ⟨rfl, ?_⟩
      have hb : Bs W (ρ 36) QS := q36
      have hs := run_str (P := Tryz.prog) hb Tryz.underlying22 Tryz.underlying5 Tryz.underlying9
      exact Rg.run_ok (v := str QS) (by simp only [execOp, Rg.ev, Sem.run_bind, Sem.run_pure, Result.andThen_ok, hs]) ⟨rfl, hR, Ext.rfl' _⟩
    refine ⟨Rg.at_run [34, 37] rfl ?_, ?_⟩
    · intro ρ W hR ⟨q34, q37, _⟩
      replace q34 : ρ 34 = str QS := q34
      replace q37 : ρ 37 = str QS := q37
      refine ⟨rfl, ?_⟩
      exact Rg.run_ok (v := .bool true) (by simp [execOp, Rg.ev, go_sem, q34, q37]) ⟨rfl, hR, Ext.rfl' _⟩
    refine ⟨Rg.at_run [38] rfl ?_, ?_⟩
    · intro ρ W hR ⟨q38, _⟩
      replace q38 : ρ 38 = .bool true := q38
      refine ⟨rfl, ?_⟩
      exact Rg.run_ok (v := .bool true) (by simp [execOp, Rg.ev, go_sem, q38]) ⟨rfl, hR, Ext.rfl' _⟩
    refine ⟨Rg.at_run [7, 39] rfl ?_, ?_⟩
    · intro ρ W hR ⟨q7, q39, _⟩
      replace q7 : ρ 7 = .int .i64 k := q7
      replace q39 : ρ 39 = .bool true := q39
      refine ⟨by simp [Rg.wants, q39], ?_⟩
      exact Rg.run_ok (v := .int .i64 k) (by simp [execOp, Rg.ev, go_sem, q7]) ⟨rfl, hR, Ext.rfl' _⟩
    refine ⟨Rg.at_run [9, 39] rfl ?_, ?_⟩
    · intro ρ W hR ⟨q9, q39, _⟩
      replace q9 : ρ 9 = .int .i64 k := q9
      replace q39 : ρ 39 = .bool true := q39
      refine ⟨by simp [Rg.wants, q39], ?_⟩
      exact Rg.run_ok (v := .int .i64 k) (by simp [execOp, Rg.ev, go_sem, q9]) ⟨rfl, hR, Ext.rfl' _⟩
    refine ⟨Rg.at_run [40, 41, 39] rfl ?_, ?_⟩
    · intro ρ W hR ⟨q40, q41, q39, _⟩
      replace q40 : ρ 40 = .int .i64 k := q40
      replace q41 : ρ 41 = .int .i64 k := q41
      replace q39 : ρ 39 = .bool true := q39
      refine ⟨by simp [Rg.wants, q39], ?_⟩
      exact Rg.run_ok (v := .bool true) (by simp [execOp, Rg.ev, go_sem, q40, q41]) ⟨rfl, hR, Ext.rfl' _⟩
    refine ⟨Rg.at_run [39, 42] rfl ?_, ?_⟩
    · intro ρ W hR ⟨q39, q42, _⟩
      replace q39 : ρ 39 = .bool true := q39
      replace q42 : ρ 42 = .bool true := q42
      refine ⟨rfl, ?_⟩
      exact Rg.run_ok (v := .bool true) (by simp [execOp, Rg.ev, go_sem, q39, q42]) ⟨rfl, hR, Ext.rfl' _⟩
    refine ⟨Rg.at_run [43] rfl ?_, ?_⟩
    · intro ρ W hR ⟨q43, _⟩
      replace q43 : ρ 43 = .bool true := q43
      refine ⟨rfl, ?_⟩
      exact Rg.run_ok (v := .bool true) (by simp [execOp, Rg.ev, go_sem, q43]) ⟨rfl, hR, Ext.rfl' _⟩
    refine ⟨Rg.at_run [6, 44] rfl ?_, ?_⟩
    · intro ρ W hR ⟨q6, q44, _⟩
      replace q6 : ρ 6 = .pointer (some ⟨g6, 0, none⟩) := q6
      replace q44 : ρ 44 = .bool true := q44
      refine ⟨by simp [Rg.wants, q44], ?_⟩
      have c0_ : W.cell? ⟨g6, 0, none⟩ = some (.int .u64 t.now) := ((hT.ext hR).cell 0).trans rfl
      have c1_ : W.cell? ⟨g6, 1, none⟩ = some (.int .u64 t.count) := ((hT.ext hR).cell 1).trans rfl
      have c2_ : W.cell? ⟨g6, 2, none⟩ = some (.slice At t.links.length ct) := ((hT.ext hR).cell 2).trans rfl
      have c3_ : W.cell? ⟨g6, 3, none⟩ = some (.slice Au t.sess.length cu) := ((hT.ext hR).cell 3).trans rfl
      exact Rg.run_ok (v := .agg #[.int .u64 t.now, .int .u64 t.count, .slice At t.links.length ct, .slice Au t.sess.length cu]) (by simp [execOp, Rg.ev, go_sem, q6, c0_, c1_, c2_, c3_]) ⟨rfl, hR, Ext.rfl' _⟩
    refine ⟨Rg.at_run [8, 44] rfl ?_, ?_⟩
    · intro ρ W hR ⟨q8, q44, _⟩
      replace q8 : ρ 8 = .pointer (some ⟨g8, 0, none⟩) := q8
      replace q44 : ρ 44 = .bool true := q44
      refine ⟨by simp [Rg.wants, q44], ?_⟩
      have c0_ : W.cell? ⟨g8, 0, none⟩ = some (.int .u64 t.now) := ((hU.ext hR).cell 0).trans rfl
      have c1_ : W.cell? ⟨g8, 1, none⟩ = some (.int .u64 t.count) := ((hU.ext hR).cell 1).trans rfl
      have c2_ : W.cell? ⟨g8, 2, none⟩ = some (.slice Bt t.links.length dt) := ((hU.ext hR).cell 2).trans rfl
      have c3_ : W.cell? ⟨g8, 3, none⟩ = some (.slice Bu t.sess.length du) := ((hU.ext hR).cell 3).trans rfl
      exact Rg.run_ok (v := .agg #[.int .u64 t.now, .int .u64 t.count, .slice Bt t.links.length dt, .slice Bu t.sess.length du]) (by simp [execOp, Rg.ev, go_sem, q8, c0_, c1_, c2_, c3_]) ⟨rfl, hR, Ext.rfl' _⟩
    refine ⟨Rg.at_run [45, 46, 44] rfl ?_, ?_⟩
    · intro ρ W hR ⟨q45, q46, q44, _⟩
      replace q45 : ρ 45 = .agg #[.int .u64 t.now, .int .u64 t.count, .slice At t.links.length ct, .slice Au t.sess.length cu] := q45
      replace q46 : ρ 46 = .agg #[.int .u64 t.now, .int .u64 t.count, .slice Bt t.links.length dt, .slice Bu t.sess.length du] := q46
      replace q44 : ρ 44 = .bool true := q44
      refine ⟨by simp [Rg.wants, q44], ?_⟩
      refine Rg.enter_fn (args := #[.agg #[.int .u64 t.now, .int .u64 t.count, .slice At t.links.length ct, .slice Au t.sess.length cu], .agg #[.int .u64 t.now, .int .u64 t.count, .slice Bt t.links.length dt, .slice Bu t.sess.length du]]) rfl (by simp only [List.map_toArray, List.map_cons, List.map_nil, Rg.ev, q45, q46]) (by kernel_rfl) ?_
      refine (HRS.out W hR).mono ?_
      rintro e_ w9 ⟨b9, rfl, hxx, hb9⟩
      obtain rfl : b9 = true := hb9.out.2 (by trivial)
      exact ⟨_, rfl, rfl, hR.trans' hxx, hxx⟩
    refine ⟨Rg.at_run [44, 47] rfl ?_, ?_⟩
    · intro ρ W hR ⟨q44, q47, _⟩
      replace q44 : ρ 44 = .bool true := q44
      replace q47 : ρ 47 = .bool true := q47
      refine ⟨rfl, ?_⟩
      exact Rg.run_ok (v := .bool true) (by simp [execOp, Rg.ev, go_sem, q44, q47]) ⟨rfl, hR, Ext.rfl' _⟩
    refine ⟨Rg.at_run [48] rfl ?_, ?_⟩
    · intro ρ W hR ⟨q48, _⟩
      replace q48 : ρ 48 = .bool true := q48
      refine ⟨rfl, ?_⟩
      exact Rg.run_ok (v := .bool true) (by simp [execOp, Rg.ev, go_sem, q48]) ⟨rfl, hR, Ext.rfl' _⟩
    refine ⟨Rg.at_run [5, 49] rfl ?_, ?_⟩
    · intro ρ W hR ⟨q5, q49, _⟩
      replace q5 : ρ 5 = .slice (some ⟨gt, 0, none⟩) b.length (b.length + 3) := q5
      replace q49 : ρ 49 = .bool true := q49
      refine ⟨by simp [Rg.wants, q49], ?_⟩
      exact Rg.run_ok (v := .slice (some ⟨gt, 0, none⟩) b.length (b.length + 3)) (by simp [execOp, Rg.ev, go_sem, q5]) ⟨rfl, hR, Ext.rfl' _⟩
    refine ⟨Rg.at_run [1, 49] rfl ?_, ?_⟩
    · intro ρ W hR ⟨q1, q49, _⟩
      replace q1 : ρ 1 = .slice Ax b.length cx := q1
      replace q49 : ρ 49 = .bool true := q49
      refine ⟨by simp [Rg.wants, q49], ?_⟩
      exact Rg.run_ok (v := .slice Ax b.length cx) (by simp [execOp, Rg.ev, go_sem, q1]) ⟨rfl, hR, Ext.rfl' _⟩
    refine ⟨Rg.at_run [50, 51, 49] rfl ?_, ?_⟩
    · intro ρ W hR ⟨q50, q51, q49, _⟩
      replace q50 : ρ 50 = .slice (some ⟨gt, 0, none⟩) b.length (b.length + 3) := q50
      replace q51 : ρ 51 = .slice Ax b.length cx := q51
      replace q49 : ρ 49 = .bool true := q49
      refine ⟨by simp [Rg.wants, q49], ?_⟩
      refine Rg.enter_fn (args := #[.slice (some ⟨gt, 0, none⟩) b.length (b.length + 3), .slice Ax b.length cx]) rfl (by simp only [List.map_toArray, List.map_cons, List.map_nil, Rg.ev, q50, q51]) (by kernel_rfl) ?_
      refine (HKE.out W hR).mono ?_
      rintro e_ w9 ⟨rfl, rfl⟩
      exact ⟨_, rfl, rfl, hR, Ext.rfl' _⟩
    refine ⟨Rg.at_run [49, 52] rfl ?_, ?_⟩
    · intro ρ W hR ⟨q49, q52, _⟩
      replace q49 : ρ 49 = .bool true := q49
      replace q52 : ρ 52 = .bool true := q52
      refine ⟨rfl, ?_⟩
      exact Rg.run_ok (v := .bool true) (by simp [execOp, Rg.ev, go_sem, q49, q52]) ⟨rfl, hR, Ext.rfl' _⟩
    refine ⟨Rg.at_run [53] rfl ?_, ?_⟩
    · intro ρ W hR ⟨q53, _⟩
      replace q53 : ρ 53 = .bool true := q53
      refine ⟨rfl, ?_⟩
      exact Rg.run_ok (v := .bool true) (by simp [execOp, Rg.ev, go_sem, q53]) ⟨rfl, hR, Ext.rfl' _⟩
    trivial
  case en =>
    intro tm W hR hsz hk
    rw [Rg.fin_eq (ds := [32, 33, 34, 35, 36, 37, 38, 39, 40, 41, 42, 43, 44, 45, 46, 47, 48, 49, 50, 51, 52, 53, 4]) rfl rfl rfl hsz hk]
    have k4 : tm.getD 4 undef = .bool true := hk 4
    have k32 : tm.getD 32 undef = .agg #[.int .u64 s.now, .int .u64 s.count, .slice A1 s.links.length c1, .slice B1 s.sess.length d1] := hk 32
    have k33 : (fun v W => Bs W v QS) (tm.getD 33 undef) W := hk 33
    have k34 : tm.getD 34 undef = str QS := hk 34
    have k35 : tm.getD 35 undef = .agg #[.int .u64 s.now, .int .u64 s.count, .slice A1 s.links.length c1, .slice B1 s.sess.length d1] := hk 35
    have k36 : (fun v W => Bs W v QS) (tm.getD 36 undef) W := hk 36
    have k37 : tm.getD 37 undef = str QS := hk 37
    have k38 : tm.getD 38 undef = .bool true := hk 38
    have k39 : tm.getD 39 undef = .bool true := hk 39
    have k40 : tm.getD 40 undef = .int .i64 k := hk 40
    have k41 : tm.getD 41 undef = .int .i64 k := hk 41
    have k42 : tm.getD 42 undef = .bool true := hk 42
    have k43 : tm.getD 43 undef = .bool true := hk 43
    have k44 : tm.getD 44 undef = .bool true := hk 44
    have k45 : tm.getD 45 undef = .agg #[.int .u64 t.now, .int .u64 t.count, .slice At t.links.length ct, .slice Au t.sess.length cu] := hk 45
    have k46 : tm.getD 46 undef = .agg #[.int .u64 t.now, .int .u64 t.count, .slice Bt t.links.length dt, .slice Bu t.sess.length du] := hk 46
    have k47 : tm.getD 47 undef = .bool true := hk 47
    have k48 : tm.getD 48 undef = .bool true := hk 48
    have k49 : tm.getD 49 undef = .bool true := hk 49
    have k50 : tm.getD 50 undef = .slice (some ⟨gt, 0, none⟩) b.length (b.length + 3) := hk 50
    have k51 : tm.getD 51 undef = .slice Ax b.length cx := hk 51
    have k52 : tm.getD 52 undef = .bool true := hk 52
    have k53 : tm.getD 53 undef = .bool true := hk 53
    clear hk hsz
    simp only [Rg.putAll, List.setIfInBounds_toArray, List.set_cons_zero, List.set_cons_succ, k4, k32, k34, k35, k37, k38, k39, k40, k41, k42, k43, k44, k45, k46, k47, k48, k49, k50, k51, k52, k53]
    clear k4
    clear k32
    generalize tm.getD 33 undef = u33 at *
    clear k34
    clear k35
    generalize tm.getD 36 undef = u36 at *
    clear k37
    clear k38
    clear k39
    clear k40
    clear k41
    clear k42
    clear k43
    clear k44
    clear k45
    clear k46
    clear k47
    clear k48
    clear k49
    clear k50
    clear k51
    clear k52
    clear k53
    refine Rg.nil_list ?_
    go_wp2
    go_ret
    exact ⟨rfl, hxr.trans' hR⟩
end Go.Proofs.YtamimdlaclglkaaGreat
namespace Go.Proofs.YtamimdlaclglkaaGreat.stateBytes
set_option linter.unusedVariables false
set_option linter.unusedSimpArgs false
set_option linter.unnecessarySimpa false
set_option maxRecDepth 100000
open Go.ChangeShapes Go.WideShapes Go.ChangeAt Go.RowKit
open Go.ChangeMaps (open_string shut_string)
set_option maxRecDepth 100000 in
set_option maxHeartbeats 2000000 in
theorem lifted (os : Os) (started : os.Started) (H : Type) (enc : TypeId × Value → H) (F : Stop.Interp) :
    ReturnsInHanded {} Tryz.checked os 5 .any ((Rows.OpenSpec.upto Rows.stateBytesSpec).pre6 enc Tryz.prog Tryz.f5 Rows.stateBytesUptoRow.domain false) (((Rows.OpenSpec.upto Rows.stateBytesSpec).at F).post enc Tryz.prog Tryz.f5 false true false false) := by
  refine returnsInHanded_of_cond (C := Tryz.checked) (s := Rows.OpenSpec.upto Rows.stateBytesSpec) (k := Rows.uptoSmall) rfl own started (by kernel_rfl) Tryz.func5
    (OpenSpec.witness (enc := enc) (C := Tryz.checked) (s := Rows.OpenSpec.upto Rows.stateBytesSpec) (k := Rows.uptoSmall) rfl false ⟨#[], #[.agg #[.int .u64 0, .int .u64 0, .slice none 0 0, .slice none 0 0], .slice none 0 0], []⟩ 8 (by kernel_rfl) (by kernel_rfl) (by kernel_rfl)
      (x := ([.agg [.lit (.int .u64 0), .lit (.int .u64 0), .nil, .nil], .nil], [], [])) (by kernel_rfl) rfl (by kernel_rfl)) ?_
  intro W base args ds gs before hval0 hW _ hk _
  have hval : ∀ (j : Nat) t v, Tryz.f5.params[j]? = some t → args[j]? = some v → Value.okWide Tryz.prog W .any base t v := hval0
  have hW' := hW
  obtain ⟨p, q, hA0, hV, rfl, hfz, hnd⟩ := hW
  have hA : DataW.TrodAll enc Tryz.prog W 0 (fun _ => true) true Tryz.f5.params.toList args.toList ds p := hA0
  rw [Tryz.params5] at hA hval
  obtain ⟨v0, vs0, d0, ds0, p0, q0, hargs, rfl, rfl, h0, r0⟩ := trodAll_cons hA
  obtain ⟨v1, vs1, d1, ds1, p1, q1, rfl, rfl, rfl, h1, r1⟩ := trodAll_cons r0
  obtain ⟨rfl, rfl, rfl⟩ := trodAll_nil r1
  obtain rfl : args = #[v0, v1] := by cases args; simp_all
  obtain ⟨rfl, rfl⟩ := trodVars_none hV
  have k0 := h0
  have lt0 : ∀ x ∈ p0, x.block < W.heap.size := by obtain ⟨m, hm⟩ := k0; exact DataW.trod_lt m _ _ _ hm
  obtain ⟨cs0, rfl, hsz0⟩ := okWide_struct Tryz.underlying28 (hval 0 28 v0 rfl rfl)
  obtain ⟨b0, hb0⟩ : ∃ b, (stE).rep W noneAt cs0.toList b := by
    obtain ⟨fuel, hf⟩ := h0
    exact stE_opens _ enc W fuel _ _ hf
  obtain ⟨a1, len1, cap1, rfl⟩ := okWide_slice Tryz.underlying22 (hval 1 22 v1 rfl rfl)
  have k1 := h1
  have lt1 : ∀ x ∈ p1, x.block < W.heap.size := by obtain ⟨m, hm⟩ := k1; exact DataW.trod_lt m _ _ _ hm
  obtain ⟨b1, hb1⟩ : ∃ b, Bs W (.slice a1 len1 cap1) b := by
    obtain ⟨fuel, hf⟩ := h1
    rcases open_ints Tryz.underlying22 Tryz.underlying5 (by kernel_rfl) hf with ⟨hcs, _⟩ | ⟨x, l, c, zs, hcs, _, hl, hm, hz, _, hcell, hwz⟩
    · simp [Value.cells] at hcs
      obtain ⟨rfl, rfl, rfl⟩ := hcs
      exact ⟨[], bs_none⟩
    · simp [Value.cells] at hcs
      obtain ⟨rfl, rfl, rfl⟩ := hcs
      exact bs_of_ints hl hm (by simpa using hz) hcell hwz
  clear hA0 hval0
  have hbk : Rows.uptoBulkAll _ ≤ 1048576 := of_decide_eq_true hk
  simp only [List.cons_append, List.nil_append, List.append_nil, Rows.uptoBulkAll] at hbk
  have bw0 : stW b0 ≤ 1048576 := by
    obtain ⟨fuel, hf⟩ := k0
    have h9 : stW b0 ≤ Rows.uptoBulk d0 := stE_wt _ enc W fuel _ _ b0 hf hb0
    omega
  refine (stateBytes_walk cs0 b0 _ b1 W hb0 hb1 bw0).mono fun e W' ⟨he, bel⟩ => ?_
  subst he
  exact ⟨_, rfl, _, _, _, [], _, [], hW', trodAll_mk1 (shut_bool Tryz.underlying4 _), (trodAll_cons_mk (Below.trod laidOut (by kernel_rfl) (of_decide_eq_true (by kernel_rfl)) k0 bel lt0) (trodAll_cons_mk (Below.trod laidOut (by kernel_rfl) (of_decide_eq_true (by kernel_rfl)) k1 bel lt1) trodAll_mk0)), rfl, bel.frame _, fun h => by cases h⟩
theorem over : Rows.stateBytesUptoRow.holds Tryz.pinned (Rows.OpenSpec.upto Rows.stateBytesSpec) :=
  OpenClaim.holds_of_cond 5 Tryz.f5 rfl rfl rfl rfl rfl rfl rfl ⟨rfl, rfl, rfl, rfl, rfl⟩ rfl rfl rfl rfl rfl (by kernel_rfl) Tryz.func5 (by kernel_rfl)
    (of_decide_eq_true (by kernel_rfl)) (by unfold Func.isWrapper; first | (rw [if_pos (by decide +kernel)]; kernel_rfl) | (rw [if_neg (by decide +kernel)]; exact ⟨rfl, rfl⟩))
    (fun os started H enc _ F => lifted os started H enc F)
/-- THE STATEMENT -/
theorem proved : Rows.StateBytesUptoSaid := over
#print axioms proved
end Go.Proofs.YtamimdlaclglkaaGreat.stateBytes
