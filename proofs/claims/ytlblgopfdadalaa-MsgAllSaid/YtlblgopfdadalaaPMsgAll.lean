/- A part of the proof of 'MsgAll'. -/
import Derived.Test.YtlblgopfdadalaaM21
import Derived.Test.YtlblgopfdadalaaM22
import Derived.Test.YtlblgopfdadalaaM24
import Derived.Test.YtlblgopfdadalaaM26
import Derived.Test.YtlblgopfdadalaaM28
import Derived.Test.YtlblgopfdadalaaM29
import Derived.Test.YtlblgopfdadalaaM25
import Derived.Test.YtlblgopfdadalaaM7
import Derived.Test.YtlblgopfdadalaaM3
namespace Go.Proofs.Ytlblgopfdadalaa
set_option linter.unusedVariables false
set_option linter.unusedSimpArgs false
set_option linter.unnecessarySimpa false
set_option maxRecDepth 100000
open Go.RowKit
set_option maxHeartbeats 12800000 in
theorem msgAll_walk (ca : Array Value) (m : Mg) (cb : Array Value) (n : Mg) (x : Value) (b : Bytes) (w : World) (ha : mgE.rep w noneAt ca.toList m) (hb : mgE.rep w noneAt cb.toList n) (hx : Bs w x b) :
    Calls Try.prog 3 #[.agg ca, .agg cb, x] w fun e w' => e = .returned (.bool true) ∧ Ext w w' := by
  obtain ⟨ve, vs, hca, hmw, hm1, hm2, -⟩ := mg_rep.1 ha
  obtain ⟨ue, us, hcb, hnw, hn1, hn2, -⟩ := mg_rep.1 hb
  obtain rfl : ca = (mgcells m ve vs).toArray := by rw [← hca]
  obtain rfl : cb = (mgcells n ue us).toArray := by rw [← hcb]
  clear ha hb hca hcb
  obtain ⟨Ae, ce, rfl, -, -⟩ := hm1.form
  obtain ⟨As, cs, rfl, -, -, -⟩ := id hm2
  obtain ⟨Be, de, rfl, -, -⟩ := hn1.form
  obtain ⟨Bt, ds, rfl, -, -, -⟩ := id hn2
  obtain ⟨Ax, cx, rfl, -, -, -⟩ := id hx
  obtain ⟨M, E, hME⟩ : ∃ M E, mtake b = (M, E) := ⟨_, _, rfl⟩
  have HT1 := hide (fun (W : World) (y : Value) (hl : b.length ≤ 140737488350000) (h : Bs W y b) => mtake_b y b W hl h)
  have HT2 := hide (fun (W : World) (y : Value) (hl : b.length ≤ 140737488350000) (h : Bs W y b) => rtakeMsg_b y b W hl h)
  rw [hME] at HT1 HT2
  simp only at HT1 HT2
  clear hME
  go_enter Try.func3, Try.ntmps3
  repeat (first | with_reducible refine two_stop ?_ | go_step)
  intro W g hg hA hB hxw
  subst hg
  go_wp2_with fail
  refine (begun24_b _).mono ?_
  rintro e W1 ⟨rfl, hx1⟩
  replace hA := hA.ext hx1
  replace hB := hB.ext hx1
  replace hxw := hxw.trans' hx1
  clear hx1
  go_wp2_with (refine ld_row rfl 33 _ rfl _ rfl 33 _ _ hA Try.underlying33 rfl (by kernel_rfl) ?_)
  refine (light_b m _ _ _ (hm1.ext hxw) (hm2.ext hxw) hmw).mono ?_
  rintro e W2 ⟨b1, rfl, hx2, hl1⟩
  replace hA := hA.ext hx2
  replace hB := hB.ext hx2
  replace hxw := hxw.trans' hx2
  clear hx2
  cases b1 with
  | false =>
    go_wp2
    go_ret
    exact ⟨rfl, hxw⟩
  | true =>
  have hml := hl1 rfl
  clear hl1
  go_wp2_with (refine ld_row rfl 33 _ rfl _ rfl 33 _ _ hB Try.underlying33 rfl (by kernel_rfl) ?_)
  refine (light_b n _ _ _ (hn1.ext hxw) (hn2.ext hxw) hnw).mono ?_
  rintro e W3 ⟨b2, rfl, hx3, hl2⟩
  replace hA := hA.ext hx3
  replace hB := hB.ext hx3
  replace hxw := hxw.trans' hx3
  clear hx3
  cases b2 with
  | false =>
    go_wp2
    go_ret
    exact ⟨rfl, hxw⟩
  | true =>
  clear hl2
  by_cases hlb : (500 : Int) < b.length
  · go_wp2_with fail
    go_ret
    exact ⟨rfl, hxw⟩
  have HB := hide hlb
  replace hx := hx.ext hxw
  go_wp2_with fail
  refine (twin_b _ b W3 (by have := HB.out; omega) hx).mono ?_
  rintro e W4 ⟨gt, rfl, hgt, htw, hx4⟩
  clear hgt hlb
  replace hA := hA.ext hx4
  replace hB := hB.ext hx4
  replace hx := hx.ext hx4
  replace hxw := hxw.trans' hx4
  go_wp2_with fail
  refine (HT1.out W4 _ (by have := HB.out; omega) (htw.bs (by have := HB.out; omega))).mono ?_
  rintro e W5 ⟨y1, z1, rfl, h11, h12, hx5⟩
  obtain ⟨E1, e1, rfl, -, -⟩ := h11.form
  obtain ⟨S1, s1, rfl, -, -, -⟩ := id h12
  have hN1 := Blk.new W5 33 (mgcells Mg0 (.slice none 0 0) (.slice none 0 0)).toArray
  go_wp2_with (refine st_stop rfl 33 _ _ rfl W5.heap.size (mgcells M (.slice E1 M.ents.length e1) (.slice S1 M.snap.state.length s1)).toArray rfl rfl 33 _ hN1 (by kernel_rfl) (by simp) (mg_one _ _ _ _ _ _ _) ?_)
  intro W6 hX hc1
  have hz1 : Ext W5 W6 := ((Ext.rfl' W5).alloc' _).then_ hc1 (by simp)
  replace h11 := h11.ext hz1
  replace h12 := h12.ext hz1
  have hy1 := hx5.trans' hz1
  clear hN1 hc1 hx5 hz1
  generalize W5.heap.size = g8 at *
  replace hA := hA.ext hy1
  replace hB := hB.ext hy1
  replace hx := hx.ext hy1
  replace htw := htw.ext hy1
  replace hxw := hxw.trans' hy1
  clear hy1
  go_wp2_with fail
  refine (HT2.out W6 _ (by have := HB.out; omega) hx).mono ?_
  rintro e W8 ⟨y2, z2, rfl, h21, h22, hx8⟩
  obtain ⟨E2, e2, rfl, -, -⟩ := h21.form
  obtain ⟨S2, s2, rfl, -, -, -⟩ := id h22
  have hN2 := Blk.new W8 33 (mgcells Mg0 (.slice none 0 0) (.slice none 0 0)).toArray
  go_wp2_with (refine st_stop rfl 33 _ _ rfl W8.heap.size (mgcells M (.slice E2 M.ents.length e2) (.slice S2 M.snap.state.length s2)).toArray rfl rfl 33 _ hN2 (by kernel_rfl) (by simp) (mg_one _ _ _ _ _ _ _) ?_)
  intro W7 hY hc2
  have hz2 : Ext W8 W7 := ((Ext.rfl' W8).alloc' _).then_ hc2 (by simp)
  replace h21 := h21.ext hz2
  replace h22 := h22.ext hz2
  have hy2 := hx8.trans' hz2
  clear hN2 hc2 hx8 hz2
  generalize W8.heap.size = g10 at *
  replace hA := hA.ext hy2
  replace hB := hB.ext hy2
  replace hX := hX.ext hy2
  replace h11 := h11.ext hy2
  replace h12 := h12.ext hy2
  replace hx := hx.ext hy2
  replace htw := htw.ext hy2
  replace hxw := hxw.trans' hy2
  clear hy2 HT1 HT2
  replace hm1 := hm1.ext hxw
  replace hm2 := hm2.ext hxw
  replace hn1 := hn1.ext hxw
  replace hn2 := hn2.ext hxw
  go_upto_region 8 with fail
  obtain ⟨bb, hbb⟩ : ∃ r : Bool, (r = true ↔ m = n) := by
    by_cases h : m = n
    · exact ⟨true, by simp [h]⟩
    · exact ⟨false, by simp [h]⟩
  have HBB : ∀ r : Bool, (r = true ↔ m = n) → r = bb := fun r hr => by
    cases r with
    | true => exact (hbb.2 (hr.1 rfl)).symm
    | false =>
      cases bb with
      | false => rfl
      | true => exact absurd (hr.2 (hbb.1 rfl)) (by simp)
  have HSM := hide (fun (W : World) (hx : Ext W7 W) => rsameMsg_b M M _ _ _ _ W (h11.ext hx) (h12.ext hx) (h21.ext hx) (h22.ext hx))
  have HS1 := hide (fun (W : World) (hx : Ext W7 W) => msame_b m n _ _ _ _ W (hm1.ext hx) (hm2.ext hx) (hn1.ext hx) (hn2.ext hx))
  have HS2 := hide (fun (W : World) (hx : Ext W7 W) => rsameMsg_b m n _ _ _ _ W (hm1.ext hx) (hm2.ext hx) (hn1.ext hx) (hn2.ext hx))
  have HPS := hide (fun (W : World) (hx : Ext W7 W) => mput_b m _ _ W hmw hml (hm1.ext hx) (hm2.ext hx))
  have HPR := hide (fun (W : World) (hx : Ext W7 W) => rputMsg_b m _ _ W hmw hml (hm1.ext hx) (hm2.ext hx))
  have HKE := hide (fun (W : World) (hz : Ext W7 W) => kept_b _ b gt W (by have := HB.out; omega) (hx.ext hz) (htw.ext hz))
  obtain ⟨QS, hQS⟩ : ∃ q, msgC.enc m = q := ⟨_, rfl⟩
  rw [hQS] at HPS HPR
  clear hQS hbb
  refine Rg.regionT Try.checked.mixed 70 32 (by kernel_rfl) [
    (fun x_ _ => x_ = .agg (mgcells m (.slice Ae m.ents.length ce) (.slice As m.snap.state.length cs)).toArray),
    (fun v W => Bs W v QS),
    (fun x_ _ => x_ = str QS),
    (fun x_ _ => x_ = .agg (mgcells m (.slice Ae m.ents.length ce) (.slice As m.snap.state.length cs)).toArray),
    (fun v W => Bs W v QS),
    (fun x_ _ => x_ = str QS),
    (fun x_ _ => x_ = .bool true),
    (fun x_ _ => x_ = .bool true),
    (fun x_ _ => x_ = .int .i64 E),
    (fun x_ _ => x_ = .int .i64 E),
    (fun x_ _ => x_ = .bool true),
    (fun x_ _ => x_ = .bool true),
    (fun x_ _ => x_ = .bool true),
    (fun x_ _ => x_ = .agg (mgcells M (.slice E1 M.ents.length e1) (.slice S1 M.snap.state.length s1)).toArray),
    (fun x_ _ => x_ = .agg (mgcells M (.slice E2 M.ents.length e2) (.slice S2 M.snap.state.length s2)).toArray),
    (fun x_ _ => x_ = .bool true),
    (fun x_ _ => x_ = .bool true),
    (fun x_ _ => x_ = .bool true),
    (fun x_ _ => x_ = .agg (mgcells m (.slice Ae m.ents.length ce) (.slice As m.snap.state.length cs)).toArray),
    (fun x_ _ => x_ = .agg (mgcells n (.slice Be n.ents.length de) (.slice Bt n.snap.state.length ds)).toArray),
    (fun x_ _ => x_ = .bool bb),
    (fun x_ _ => x_ = .agg (mgcells m (.slice Ae m.ents.length ce) (.slice As m.snap.state.length cs)).toArray),
    (fun x_ _ => x_ = .agg (mgcells n (.slice Be n.ents.length de) (.slice Bt n.snap.state.length ds)).toArray),
    (fun x_ _ => x_ = .bool bb),
    (fun x_ _ => x_ = .bool true),
    (fun x_ _ => x_ = .bool true),
    (fun x_ _ => x_ = .bool true),
    (fun x_ _ => x_ = .slice (some ⟨gt, 0, none⟩) b.length (b.length + 3)),
    (fun x_ _ => x_ = .slice Ax b.length cx),
    (fun x_ _ => x_ = .bool true),
    (fun x_ _ => x_ = .bool true),
    (fun x_ _ => x_ = .bool true)] (fun W => Ext W7 W) Ext rfl rfl rfl
    ?st ((Ext.rfl' W7).drew') ?ob ?en
  case st => exact ⟨fun _ _ _ h _ => h, fun _ _ _ h hx => h.ext hx, fun _ _ _ h _ => h, fun _ _ _ h _ => h, fun _ _ _ h hx => h.ext hx, fun _ _ _ h _ => h, fun _ _ _ h _ => h, fun _ _ _ h _ => h, fun _ _ _ h _ => h, fun _ _ _ h _ => h, fun _ _ _ h _ => h, fun _ _ _ h _ => h, fun _ _ _ h _ => h, fun _ _ _ h _ => h, fun _ _ _ h _ => h, fun _ _ _ h _ => h, fun _ _ _ h _ => h, fun _ _ _ h _ => h, fun _ _ _ h _ => h, fun _ _ _ h _ => h, fun _ _ _ h _ => h, fun _ _ _ h _ => h, fun _ _ _ h _ => h, fun _ _ _ h _ => h, fun _ _ _ h _ => h, fun _ _ _ h _ => h, fun _ _ _ h _ => h, fun _ _ _ h _ => h, fun _ _ _ h _ => h, fun _ _ _ h _ => h, fun _ _ _ h _ => h, fun _ _ _ h _ => h, trivial⟩
  case ob =>
    refine ⟨Rg.at_run [3] rfl ?_, ?_⟩
    · intro ρ W hR ⟨q3, _⟩
      replace q3 : ρ 3 = .pointer (some ⟨w.heap.size, 0, none⟩) := q3
      refine ⟨rfl, ?_⟩
      exact Rg.run_ok (v := .agg (mgcells m (.slice Ae m.ents.length ce) (.slice As m.snap.state.length cs)).toArray) (Rg.load_row 33 (.tmp 3) rfl w.heap.size q3 33 _ _ (hA.ext hR) Try.underlying33 rfl (by kernel_rfl)) ⟨rfl, hR, Ext.rfl' _⟩
    refine ⟨Rg.at_run [39] rfl ?_, ?_⟩
    · intro ρ W hR ⟨q39, _⟩
      replace q39 : ρ 39 = .agg (mgcells m (.slice Ae m.ents.length ce) (.slice As m.snap.state.length cs)).toArray := q39
      refine ⟨rfl, ?_⟩
      refine Rg.enter_fn (args := #[.agg (mgcells m (.slice Ae m.ents.length ce) (.slice As m.snap.state.length cs)).toArray]) rfl (by simp only [List.map_toArray, List.map_cons, List.map_nil, Rg.ev, q39]) (by kernel_rfl) ?_
      refine (HPS.out W hR).mono ?_
      rintro e w2 ⟨m9, Am9, cm9, hm9, rfl, hz9, hxx⟩
      have hm' := hm9.out
      subst hm'
      exact ⟨_, rfl, hz9, hR.trans' hxx, hxx⟩
    refine ⟨Rg.at_run [40] rfl ?_, ?_⟩
    · intro ρ W hR ⟨q40, _⟩
      replace q40 : (fun v W => Bs W v QS) (ρ 40) W := q40
      refine ⟨rfl, ?_⟩
      have hb : Bs W (ρ 40) QS := q40
      have hs := run_str (P := Try.prog) hb Try.underlying24 Try.underlying5 Try.underlying9
      exact Rg.run_ok (v := str QS) (by simp only [execOp, Rg.ev, Sem.run_bind, Sem.run_pure, Result.andThen_ok, hs]) ⟨rfl, hR, Ext.rfl' _⟩
    refine ⟨Rg.at_run [3] rfl ?_, ?_⟩
    · intro ρ W hR ⟨q3, _⟩
      replace q3 : ρ 3 = .pointer (some ⟨w.heap.size, 0, none⟩) := q3
      refine ⟨rfl, ?_⟩
      exact Rg.run_ok (v := .agg (mgcells m (.slice Ae m.ents.length ce) (.slice As m.snap.state.length cs)).toArray) (Rg.load_row 33 (.tmp 3) rfl w.heap.size q3 33 _ _ (hA.ext hR) Try.underlying33 rfl (by kernel_rfl)) ⟨rfl, hR, Ext.rfl' _⟩
    refine ⟨Rg.at_run [42] rfl ?_, ?_⟩
    · intro ρ W hR ⟨q42, _⟩
      replace q42 : ρ 42 = .agg (mgcells m (.slice Ae m.ents.length ce) (.slice As m.snap.state.length cs)).toArray := q42
      refine ⟨rfl, ?_⟩
      refine Rg.enter_fn (args := #[.agg (mgcells m (.slice Ae m.ents.length ce) (.slice As m.snap.state.length cs)).toArray]) rfl (by simp only [List.map_toArray, List.map_cons, List.map_nil, Rg.ev, q42]) (by kernel_rfl) ?_
      refine (HPR.out W hR).mono ?_
      rintro e w2 ⟨m9, Am9, cm9, hm9, rfl, hz9, hxx⟩
      have hm' := hm9.out
      subst hm'
      exact ⟨_, rfl, hz9.bs, hR.trans' hxx, hxx⟩
    refine ⟨Rg.at_run [43] rfl ?_, ?_⟩
    · intro ρ W hR ⟨q43, _⟩
      replace q43 : (fun v W => Bs W v QS) (ρ 43) W := q43
      refine ⟨rfl, ?_⟩
      have hb : Bs W (ρ 43) QS := q43
      have hs := run_str (P := Try.prog) hb Try.underlying24 Try.underlying5 Try.underlying9
      exact Rg.run_ok (v := str QS) (by simp only [execOp, Rg.ev, Sem.run_bind, Sem.run_pure, Result.andThen_ok, hs]) ⟨rfl, hR, Ext.rfl' _⟩
    refine ⟨Rg.at_run [41, 44] rfl ?_, ?_⟩
    · intro ρ W hR ⟨q41, q44, _⟩
      replace q41 : ρ 41 = str QS := q41
      replace q44 : ρ 44 = str QS := q44
      refine ⟨rfl, ?_⟩
      exact Rg.run_ok (v := .bool true) (by simp [execOp, Rg.ev, go_sem, q41, q44]) ⟨rfl, hR, Ext.rfl' _⟩
    refine ⟨Rg.at_run [45] rfl ?_, ?_⟩
    · intro ρ W hR ⟨q45, _⟩
      replace q45 : ρ 45 = .bool true := q45
      refine ⟨rfl, ?_⟩
      exact Rg.run_ok (v := .bool true) (by simp [execOp, Rg.ev, go_sem, q45]) ⟨rfl, hR, Ext.rfl' _⟩
    refine ⟨Rg.at_run [9, 46] rfl ?_, ?_⟩
    · intro ρ W hR ⟨q9, q46, _⟩
      replace q9 : ρ 9 = .int .i64 E := q9
      replace q46 : ρ 46 = .bool true := q46
      refine ⟨by simp [Rg.wants, q46], ?_⟩
      exact Rg.run_ok (v := .int .i64 E) (by simp [execOp, Rg.ev, go_sem, q9]) ⟨rfl, hR, Ext.rfl' _⟩
    refine ⟨Rg.at_run [11, 46] rfl ?_, ?_⟩
    · intro ρ W hR ⟨q11, q46, _⟩
      replace q11 : ρ 11 = .int .i64 E := q11
      replace q46 : ρ 46 = .bool true := q46
      refine ⟨by simp [Rg.wants, q46], ?_⟩
      exact Rg.run_ok (v := .int .i64 E) (by simp [execOp, Rg.ev, go_sem, q11]) ⟨rfl, hR, Ext.rfl' _⟩
    refine ⟨Rg.at_run [47, 48, 46] rfl ?_, ?_⟩
    · intro ρ W hR ⟨q47, q48, q46, _⟩
      replace q47 : ρ 47 = .int .i64 E := q47
      replace q48 : ρ 48 = .int .i64 E := q48
      replace q46 : ρ 46 = .bool true := q46
      refine ⟨by simp [Rg.wants, q46], ?_⟩
      exact Rg.run_ok (v := .bool true) (by simp [execOp, Rg.ev, go_sem, q47, q48]) ⟨rfl, hR, Ext.rfl' _⟩
    refine ⟨Rg.at_run [46, 49] rfl ?_, ?_⟩
    · intro ρ W hR ⟨q46, q49, _⟩
      replace q46 : ρ 46 = .bool true := q46
      replace q49 : ρ 49 = .bool true := q49
      refine ⟨rfl, ?_⟩
      exact Rg.run_ok (v := .bool true) (by simp [execOp, Rg.ev, go_sem, q46, q49]) ⟨rfl, hR, Ext.rfl' _⟩
    refine ⟨Rg.at_run [50] rfl ?_, ?_⟩
    · intro ρ W hR ⟨q50, _⟩
      replace q50 : ρ 50 = .bool true := q50
      refine ⟨rfl, ?_⟩
      exact Rg.run_ok (v := .bool true) (by simp [execOp, Rg.ev, go_sem, q50]) ⟨rfl, hR, Ext.rfl' _⟩
    refine ⟨Rg.at_run [8, 51] rfl ?_, ?_⟩
    · intro ρ W hR ⟨q8, q51, _⟩
      replace q8 : ρ 8 = .pointer (some ⟨g8, 0, none⟩) := q8
      replace q51 : ρ 51 = .bool true := q51
      refine ⟨by simp [Rg.wants, q51], ?_⟩
      exact Rg.run_ok (v := .agg (mgcells M (.slice E1 M.ents.length e1) (.slice S1 M.snap.state.length s1)).toArray) (Rg.load_row 33 (.tmp 8) rfl g8 q8 33 _ _ (hX.ext hR) Try.underlying33 rfl (by kernel_rfl)) ⟨rfl, hR, Ext.rfl' _⟩
    refine ⟨Rg.at_run [10, 51] rfl ?_, ?_⟩
    · intro ρ W hR ⟨q10, q51, _⟩
      replace q10 : ρ 10 = .pointer (some ⟨g10, 0, none⟩) := q10
      replace q51 : ρ 51 = .bool true := q51
      refine ⟨by simp [Rg.wants, q51], ?_⟩
      exact Rg.run_ok (v := .agg (mgcells M (.slice E2 M.ents.length e2) (.slice S2 M.snap.state.length s2)).toArray) (Rg.load_row 33 (.tmp 10) rfl g10 q10 33 _ _ (hY.ext hR) Try.underlying33 rfl (by kernel_rfl)) ⟨rfl, hR, Ext.rfl' _⟩
    refine ⟨Rg.at_run [52, 53, 51] rfl ?_, ?_⟩
    · intro ρ W hR ⟨q52, q53, q51, _⟩
      replace q52 : ρ 52 = .agg (mgcells M (.slice E1 M.ents.length e1) (.slice S1 M.snap.state.length s1)).toArray := q52
      replace q53 : ρ 53 = .agg (mgcells M (.slice E2 M.ents.length e2) (.slice S2 M.snap.state.length s2)).toArray := q53
      replace q51 : ρ 51 = .bool true := q51
      refine ⟨by simp [Rg.wants, q51], ?_⟩
      refine Rg.enter_fn (args := #[.agg (mgcells M (.slice E1 M.ents.length e1) (.slice S1 M.snap.state.length s1)).toArray, .agg (mgcells M (.slice E2 M.ents.length e2) (.slice S2 M.snap.state.length s2)).toArray]) rfl (by simp only [List.map_toArray, List.map_cons, List.map_nil, Rg.ev, q52, q53]) (by kernel_rfl) ?_
      refine (HSM.out W hR).mono ?_
      rintro e_ w9 ⟨r, rfl, hxx, hr⟩
      obtain rfl : r = true := hr.out.2 (by trivial)
      exact ⟨_, rfl, rfl, hR.trans' hxx, hxx⟩
    refine ⟨Rg.at_run [51, 54] rfl ?_, ?_⟩
    · intro ρ W hR ⟨q51, q54, _⟩
      replace q51 : ρ 51 = .bool true := q51
      replace q54 : ρ 54 = .bool true := q54
      refine ⟨rfl, ?_⟩
      exact Rg.run_ok (v := .bool true) (by simp [execOp, Rg.ev, go_sem, q51, q54]) ⟨rfl, hR, Ext.rfl' _⟩
    refine ⟨Rg.at_run [55] rfl ?_, ?_⟩
    · intro ρ W hR ⟨q55, _⟩
      replace q55 : ρ 55 = .bool true := q55
      refine ⟨rfl, ?_⟩
      exact Rg.run_ok (v := .bool true) (by simp [execOp, Rg.ev, go_sem, q55]) ⟨rfl, hR, Ext.rfl' _⟩
    refine ⟨Rg.at_run [3, 56] rfl ?_, ?_⟩
    · intro ρ W hR ⟨q3, q56, _⟩
      replace q3 : ρ 3 = .pointer (some ⟨w.heap.size, 0, none⟩) := q3
      replace q56 : ρ 56 = .bool true := q56
      refine ⟨by simp [Rg.wants, q56], ?_⟩
      exact Rg.run_ok (v := .agg (mgcells m (.slice Ae m.ents.length ce) (.slice As m.snap.state.length cs)).toArray) (Rg.load_row 33 (.tmp 3) rfl w.heap.size q3 33 _ _ (hA.ext hR) Try.underlying33 rfl (by kernel_rfl)) ⟨rfl, hR, Ext.rfl' _⟩
    refine ⟨Rg.at_run [4, 56] rfl ?_, ?_⟩
    · intro ρ W hR ⟨q4, q56, _⟩
      replace q4 : ρ 4 = .pointer (some ⟨w.heap.size + 1, 0, none⟩) := q4
      replace q56 : ρ 56 = .bool true := q56
      refine ⟨by simp [Rg.wants, q56], ?_⟩
      exact Rg.run_ok (v := .agg (mgcells n (.slice Be n.ents.length de) (.slice Bt n.snap.state.length ds)).toArray) (Rg.load_row 33 (.tmp 4) rfl (w.heap.size + 1) q4 33 _ _ (hB.ext hR) Try.underlying33 rfl (by kernel_rfl)) ⟨rfl, hR, Ext.rfl' _⟩
    refine ⟨Rg.at_run [57, 58, 56] rfl ?_, ?_⟩
    · intro ρ W hR ⟨q57, q58, q56, _⟩
      replace q57 : ρ 57 = .agg (mgcells m (.slice Ae m.ents.length ce) (.slice As m.snap.state.length cs)).toArray := q57
      replace q58 : ρ 58 = .agg (mgcells n (.slice Be n.ents.length de) (.slice Bt n.snap.state.length ds)).toArray := q58
      replace q56 : ρ 56 = .bool true := q56
      refine ⟨by simp [Rg.wants, q56], ?_⟩
      refine Rg.enter_fn (args := #[.agg (mgcells m (.slice Ae m.ents.length ce) (.slice As m.snap.state.length cs)).toArray, .agg (mgcells n (.slice Be n.ents.length de) (.slice Bt n.snap.state.length ds)).toArray]) rfl (by simp only [List.map_toArray, List.map_cons, List.map_nil, Rg.ev, q57, q58]) (by kernel_rfl) ?_
      refine (HS1.out W hR).mono ?_
      rintro e_ w9 ⟨⟨r, rfl, hr⟩, hxx⟩
      have hrb := HBB r hr
      rw [hrb]
      exact ⟨_, rfl, rfl, hR.trans' hxx, hxx⟩
    refine ⟨Rg.at_run [3, 56] rfl ?_, ?_⟩
    · intro ρ W hR ⟨q3, q56, _⟩
      replace q3 : ρ 3 = .pointer (some ⟨w.heap.size, 0, none⟩) := q3
      replace q56 : ρ 56 = .bool true := q56
      refine ⟨by simp [Rg.wants, q56], ?_⟩
      exact Rg.run_ok (v := .agg (mgcells m (.slice Ae m.ents.length ce) (.slice As m.snap.state.length cs)).toArray) (Rg.load_row 33 (.tmp 3) rfl w.heap.size q3 33 _ _ (hA.ext hR) Try.underlying33 rfl (by kernel_rfl)) ⟨rfl, hR, Ext.rfl' _⟩
    refine ⟨Rg.at_run [4, 56] rfl ?_, ?_⟩
    · intro ρ W hR ⟨q4, q56, _⟩
      replace q4 : ρ 4 = .pointer (some ⟨w.heap.size + 1, 0, none⟩) := q4
      replace q56 : ρ 56 = .bool true := q56
      refine ⟨by simp [Rg.wants, q56], ?_⟩
      exact Rg.run_ok (v := .agg (mgcells n (.slice Be n.ents.length de) (.slice Bt n.snap.state.length ds)).toArray) (Rg.load_row 33 (.tmp 4) rfl (w.heap.size + 1) q4 33 _ _ (hB.ext hR) Try.underlying33 rfl (by kernel_rfl)) ⟨rfl, hR, Ext.rfl' _⟩
    refine ⟨Rg.at_run [60, 61, 56] rfl ?_, ?_⟩
    · intro ρ W hR ⟨q60, q61, q56, _⟩
      replace q60 : ρ 60 = .agg (mgcells m (.slice Ae m.ents.length ce) (.slice As m.snap.state.length cs)).toArray := q60
      replace q61 : ρ 61 = .agg (mgcells n (.slice Be n.ents.length de) (.slice Bt n.snap.state.length ds)).toArray := q61
      replace q56 : ρ 56 = .bool true := q56
      refine ⟨by simp [Rg.wants, q56], ?_⟩
      refine Rg.enter_fn (args := #[.agg (mgcells m (.slice Ae m.ents.length ce) (.slice As m.snap.state.length cs)).toArray, .agg (mgcells n (.slice Be n.ents.length de) (.slice Bt n.snap.state.length ds)).toArray]) rfl (by simp only [List.map_toArray, List.map_cons, List.map_nil, Rg.ev, q60, q61]) (by kernel_rfl) ?_
      refine (HS2.out W hR).mono ?_
      rintro e_ w9 ⟨r, rfl, hxx, hr⟩
      have hrb := HBB r hr.out
      rw [hrb]
      exact ⟨_, rfl, rfl, hR.trans' hxx, hxx⟩
    refine ⟨Rg.at_run [59, 62, 56] rfl ?_, ?_⟩
    · intro ρ W hR ⟨q59, q62, q56, _⟩
      replace q59 : ρ 59 = .bool bb := q59
      replace q62 : ρ 62 = .bool bb := q62
      replace q56 : ρ 56 = .bool true := q56
      refine ⟨by simp [Rg.wants, q56], ?_⟩
      exact Rg.run_ok (v := .bool true) (by simp [execOp, Rg.ev, go_sem, q59, q62]) ⟨rfl, hR, Ext.rfl' _⟩
    refine ⟨Rg.at_run [56, 63] rfl ?_, ?_⟩
    · intro ρ W hR ⟨q56, q63, _⟩
      replace q56 : ρ 56 = .bool true := q56
      replace q63 : ρ 63 = .bool true := q63
      refine ⟨rfl, ?_⟩
      exact Rg.run_ok (v := .bool true) (by simp [execOp, Rg.ev, go_sem, q56, q63]) ⟨rfl, hR, Ext.rfl' _⟩
    refine ⟨Rg.at_run [64] rfl ?_, ?_⟩
    · intro ρ W hR ⟨q64, _⟩
      replace q64 : ρ 64 = .bool true := q64
      refine ⟨rfl, ?_⟩
      exact Rg.run_ok (v := .bool true) (by simp [execOp, Rg.ev, go_sem, q64]) ⟨rfl, hR, Ext.rfl' _⟩
    refine ⟨Rg.at_run [7, 65] rfl ?_, ?_⟩
    · intro ρ W hR ⟨q7, q65, _⟩
      replace q7 : ρ 7 = .slice (some ⟨gt, 0, none⟩) b.length (b.length + 3) := q7
      replace q65 : ρ 65 = .bool true := q65
      refine ⟨by simp [Rg.wants, q65], ?_⟩
      exact Rg.run_ok (v := .slice (some ⟨gt, 0, none⟩) b.length (b.length + 3)) (by simp [execOp, Rg.ev, go_sem, q7]) ⟨rfl, hR, Ext.rfl' _⟩
    refine ⟨Rg.at_run [2, 65] rfl ?_, ?_⟩
    · intro ρ W hR ⟨q2, q65, _⟩
      replace q2 : ρ 2 = .slice Ax b.length cx := q2
      replace q65 : ρ 65 = .bool true := q65
      refine ⟨by simp [Rg.wants, q65], ?_⟩
      exact Rg.run_ok (v := .slice Ax b.length cx) (by simp [execOp, Rg.ev, go_sem, q2]) ⟨rfl, hR, Ext.rfl' _⟩
    refine ⟨Rg.at_run [66, 67, 65] rfl ?_, ?_⟩
    · intro ρ W hR ⟨q66, q67, q65, _⟩
      replace q66 : ρ 66 = .slice (some ⟨gt, 0, none⟩) b.length (b.length + 3) := q66
      replace q67 : ρ 67 = .slice Ax b.length cx := q67
      replace q65 : ρ 65 = .bool true := q65
      refine ⟨by simp [Rg.wants, q65], ?_⟩
      refine Rg.enter_fn (args := #[.slice (some ⟨gt, 0, none⟩) b.length (b.length + 3), .slice Ax b.length cx]) rfl (by simp only [List.map_toArray, List.map_cons, List.map_nil, Rg.ev, q66, q67]) (by kernel_rfl) ?_
      refine (HKE.out W hR).mono ?_
      rintro e_ w9 ⟨rfl, rfl⟩
      exact ⟨_, rfl, rfl, hR, Ext.rfl' _⟩
    refine ⟨Rg.at_run [65, 68] rfl ?_, ?_⟩
    · intro ρ W hR ⟨q65, q68, _⟩
      replace q65 : ρ 65 = .bool true := q65
      replace q68 : ρ 68 = .bool true := q68
      refine ⟨rfl, ?_⟩
      exact Rg.run_ok (v := .bool true) (by simp [execOp, Rg.ev, go_sem, q65, q68]) ⟨rfl, hR, Ext.rfl' _⟩
    refine ⟨Rg.at_run [69] rfl ?_, ?_⟩
    · intro ρ W hR ⟨q69, _⟩
      replace q69 : ρ 69 = .bool true := q69
      refine ⟨rfl, ?_⟩
      exact Rg.run_ok (v := .bool true) (by simp [execOp, Rg.ev, go_sem, q69]) ⟨rfl, hR, Ext.rfl' _⟩
    trivial
  case en =>
    intro tm W hR hsz hk
    rw [Rg.fin_eq (ds := [39, 40, 41, 42, 43, 44, 45, 46, 47, 48, 49, 50, 51, 52, 53, 54, 55, 56, 57, 58, 59, 60, 61, 62, 63, 64, 65, 66, 67, 68, 69, 6]) rfl rfl rfl hsz hk]
    have k6 : tm.getD 6 undef = .bool true := hk 6
    have k39 : tm.getD 39 undef = .agg (mgcells m (.slice Ae m.ents.length ce) (.slice As m.snap.state.length cs)).toArray := hk 39
    have k40 : (fun v W => Bs W v QS) (tm.getD 40 undef) W := hk 40
    have k41 : tm.getD 41 undef = str QS := hk 41
    have k42 : tm.getD 42 undef = .agg (mgcells m (.slice Ae m.ents.length ce) (.slice As m.snap.state.length cs)).toArray := hk 42
    have k43 : (fun v W => Bs W v QS) (tm.getD 43 undef) W := hk 43
    have k44 : tm.getD 44 undef = str QS := hk 44
    have k45 : tm.getD 45 undef = .bool true := hk 45
    have k46 : tm.getD 46 undef = .bool true := hk 46
    have k47 : tm.getD 47 undef = .int .i64 E := hk 47
    have k48 : tm.getD 48 undef = .int .i64 E := hk 48
    have k49 : tm.getD 49 undef = .bool true := hk 49
    have k50 : tm.getD 50 undef = .bool true := hk 50
    have k51 : tm.getD 51 undef = .bool true := hk 51
    have k52 : tm.getD 52 undef = .agg (mgcells M (.slice E1 M.ents.length e1) (.slice S1 M.snap.state.length s1)).toArray := hk 52
    have k53 : tm.getD 53 undef = .agg (mgcells M (.slice E2 M.ents.length e2) (.slice S2 M.snap.state.length s2)).toArray := hk 53
    have k54 : tm.getD 54 undef = .bool true := hk 54
    have k55 : tm.getD 55 undef = .bool true := hk 55
    have k56 : tm.getD 56 undef = .bool true := hk 56
    have k57 : tm.getD 57 undef = .agg (mgcells m (.slice Ae m.ents.length ce) (.slice As m.snap.state.length cs)).toArray := hk 57
    have k58 : tm.getD 58 undef = .agg (mgcells n (.slice Be n.ents.length de) (.slice Bt n.snap.state.length ds)).toArray := hk 58
    have k59 : tm.getD 59 undef = .bool bb := hk 59
    have k60 : tm.getD 60 undef = .agg (mgcells m (.slice Ae m.ents.length ce) (.slice As m.snap.state.length cs)).toArray := hk 60
    have k61 : tm.getD 61 undef = .agg (mgcells n (.slice Be n.ents.length de) (.slice Bt n.snap.state.length ds)).toArray := hk 61
    have k62 : tm.getD 62 undef = .bool bb := hk 62
    have k63 : tm.getD 63 undef = .bool true := hk 63
    have k64 : tm.getD 64 undef = .bool true := hk 64
    have k65 : tm.getD 65 undef = .bool true := hk 65
    have k66 : tm.getD 66 undef = .slice (some ⟨gt, 0, none⟩) b.length (b.length + 3) := hk 66
    have k67 : tm.getD 67 undef = .slice Ax b.length cx := hk 67
    have k68 : tm.getD 68 undef = .bool true := hk 68
    have k69 : tm.getD 69 undef = .bool true := hk 69
    clear hk hsz
    simp only [Rg.putAll, List.setIfInBounds_toArray, List.set_cons_zero, List.set_cons_succ, k6, k39, k41, k42, k44, k45, k46, k47, k48, k49, k50, k51, k52, k53, k54, k55, k56, k57, k58, k59, k60, k61, k62, k63, k64, k65, k66, k67, k68, k69]
    clear k6
    clear k39
    generalize tm.getD 40 undef = u40 at *
    clear k41
    clear k42
    generalize tm.getD 43 undef = u43 at *
    clear k44
    clear k45
    clear k46
    clear k47
    clear k48
    clear k49
    clear k50
    clear k51
    clear k52
    clear k53
    clear k54
    clear k55
    clear k56
    clear k57
    clear k58
    clear k59
    clear k60
    clear k61
    clear k62
    clear k63
    clear k64
    clear k65
    clear k66
    clear k67
    clear k68
    clear k69
    refine Rg.nil_list ?_
    go_wp2
    go_ret
    exact ⟨rfl, hxw.trans' hR⟩
end Go.Proofs.Ytlblgopfdadalaa
namespace Go.Proofs.Ytlblgopfdadalaa.msgAll
set_option linter.unusedVariables false
set_option linter.unusedSimpArgs false
set_option linter.unnecessarySimpa false
set_option maxRecDepth 100000
open Go.ChangeShapes Go.WideShapes Go.ChangeAt Go.RowKit
open Go.ChangeMaps (open_string shut_string)
set_option maxRecDepth 100000 in
set_option maxHeartbeats 2000000 in
theorem lifted (os : Os) (started : os.Started) (H : Type) (enc : TypeId × Value → H) :
    ReturnsInHanded {} Try.checked os 3 .any (Rows.msgAllSpec.pre6 enc Try.prog Try.f3 Rows.msgAllRow.domain false) (Rows.msgAllSpec.post enc Try.prog Try.f3 false true false false) := by
  refine returnsInHanded_of_change (C := Try.checked) own started (by kernel_rfl) Try.func3
    (ChangeSpec.witness6 (enc := enc) (C := Try.checked) false ⟨#[], #[.agg #[.int .i64 0, .int .i64 0, .int .i64 0, .int .u64 0, .int .u64 0, .int .u64 0, .slice none 0 0, .int .u64 0, .int .u64 0, .bool false, .int .u64 0, .int .u64 0, .slice none 0 0, .int .i64 0, .int .i64 0, .int .u64 0, .string ByteArray.empty, .string ByteArray.empty, .int .u64 0, .int .i64 0, .string ByteArray.empty], .agg #[.int .i64 0, .int .i64 0, .int .i64 0, .int .u64 0, .int .u64 0, .int .u64 0, .slice none 0 0, .int .u64 0, .int .u64 0, .bool false, .int .u64 0, .int .u64 0, .slice none 0 0, .int .i64 0, .int .i64 0, .int .u64 0, .string ByteArray.empty, .string ByteArray.empty, .int .u64 0, .int .i64 0, .string ByteArray.empty], .slice none 0 0], []⟩ 8 (by kernel_rfl) (by kernel_rfl) (by kernel_rfl) (by kernel_rfl)) ?_
  intro W base args ds gs before hval0 hW hcnd _
  have hval : ∀ (j : Nat) t v, Try.f3.params[j]? = some t → args[j]? = some v → Value.okWide Try.prog W .any base t v := hval0
  have hW' := hW
  obtain ⟨p, q, hA0, hV, rfl, hfz, hnd⟩ := hW
  have hA : DataW.TrodAll enc Try.prog W 0 (fun _ => true) true Try.f3.params.toList args.toList ds p := hA0
  rw [Try.params3] at hA hval
  obtain ⟨v0, vs0, d0, ds0, p0, q0, hargs, rfl, rfl, h0, r0⟩ := trodAll_cons hA
  obtain ⟨v1, vs1, d1, ds1, p1, q1, rfl, rfl, rfl, h1, r1⟩ := trodAll_cons r0
  obtain ⟨v2, vs2, d2, ds2, p2, q2, rfl, rfl, rfl, h2, r2⟩ := trodAll_cons r1
  obtain ⟨rfl, rfl, rfl⟩ := trodAll_nil r2
  obtain rfl : args = #[v0, v1, v2] := by cases args; simp_all
  obtain ⟨rfl, rfl⟩ := trodVars_none hV
  have k0 := h0
  have lt0 : ∀ x ∈ p0, x.block < W.heap.size := by obtain ⟨m, hm⟩ := k0; exact DataW.trod_lt m _ _ _ hm
  obtain ⟨cs0, rfl, hsz0⟩ := okWide_struct Try.underlying33 (hval 0 33 v0 rfl rfl)
  obtain ⟨b0, hb0⟩ : ∃ b, (mgE).rep W noneAt cs0.toList b := by
    obtain ⟨fuel, hf⟩ := h0
    exact mgE_opens _ enc W fuel _ _ hf
  have k1 := h1
  have lt1 : ∀ x ∈ p1, x.block < W.heap.size := by obtain ⟨m, hm⟩ := k1; exact DataW.trod_lt m _ _ _ hm
  obtain ⟨cs1, rfl, hsz1⟩ := okWide_struct Try.underlying33 (hval 1 33 v1 rfl rfl)
  obtain ⟨b1, hb1⟩ : ∃ b, (mgE).rep W noneAt cs1.toList b := by
    obtain ⟨fuel, hf⟩ := h1
    exact mgE_opens _ enc W fuel _ _ hf
  obtain ⟨a2, len2, cap2, rfl⟩ := okWide_slice Try.underlying24 (hval 2 24 v2 rfl rfl)
  have k2 := h2
  have lt2 : ∀ x ∈ p2, x.block < W.heap.size := by obtain ⟨m, hm⟩ := k2; exact DataW.trod_lt m _ _ _ hm
  obtain ⟨b2, hb2⟩ : ∃ b, Bs W (.slice a2 len2 cap2) b := by
    obtain ⟨fuel, hf⟩ := h2
    rcases open_ints Try.underlying24 Try.underlying5 (by kernel_rfl) hf with ⟨hcs, _⟩ | ⟨x, l, c, zs, hcs, _, hl, hm, hz, _, hcell, hwz⟩
    · simp [Value.cells] at hcs
      obtain ⟨rfl, rfl, rfl⟩ := hcs
      exact ⟨[], bs_none⟩
    · simp [Value.cells] at hcs
      obtain ⟨rfl, rfl, rfl⟩ := hcs
      exact bs_of_ints hl hm (by simpa using hz) hcell hwz
  clear hA0 hval0
  refine (msgAll_walk cs0 b0 cs1 b1 _ b2 W hb0 hb1 hb2).mono fun e W' ⟨he, bel⟩ => ?_
  subst he
  exact ⟨_, rfl, _, _, _, [], _, [], hW', trodAll_mk1 (shut_bool Try.underlying4 _), (trodAll_cons_mk (Below.trod laidOut (by kernel_rfl) (of_decide_eq_true (by kernel_rfl)) k0 bel lt0) (trodAll_cons_mk (Below.trod laidOut (by kernel_rfl) (of_decide_eq_true (by kernel_rfl)) k1 bel lt1) (trodAll_cons_mk (Below.trod laidOut (by kernel_rfl) (of_decide_eq_true (by kernel_rfl)) k2 bel lt2) trodAll_mk0))), rfl, bel.frame _, fun h => by cases h⟩
theorem over : Rows.msgAllRow.holds Try.pinned (OpenSpec.ofChange Rows.msgAllSpec) :=
  OpenClaim.holds_of_wide 3 Try.f3 rfl rfl rfl rfl rfl rfl rfl ⟨rfl, rfl, rfl, rfl, rfl⟩ rfl rfl rfl rfl rfl (by kernel_rfl) Try.func3 (by kernel_rfl)
    (of_decide_eq_true (by kernel_rfl)) (by unfold Func.isWrapper; first | (rw [if_pos (by decide +kernel)]; kernel_rfl) | (rw [if_neg (by decide +kernel)]; exact ⟨rfl, rfl⟩))
    (fun os started H enc _ => lifted os started H enc)
/-- THE STATEMENT -/
theorem proved : Rows.MsgAllSaid := over
#print axioms proved
end Go.Proofs.Ytlblgopfdadalaa.msgAll
