/- MsgBack. -/
import Derived.Test.YtccpbchcfgggmaaMsg9
import Derived.Test.YtccpbchcfgggmaaMsgL
import Derived.Test.YtccpbchcfgggmaaMsgR
import Derived.Test.YtccpbchcfgggmaaRow2
import Derived.Test.YtccpbchcfgggmaaRgT
import Derived.Test.YtccpbchcfgggmaaPlace
namespace Go.Proofs.Ytccpbchcfgggmaa
set_option linter.unusedVariables false
set_option linter.unusedSimpArgs false
set_option linter.unnecessarySimpa false
set_option maxRecDepth 100000
open Go.RowKit
theorem mtake_b' (A : Option Addr) (n c : Nat) (b : Bytes) (w : World) (hl : b.length ≤ 140737488350000) (hx : Bs w (.slice A n c) b) (M : Mg) (E : Int) (h : mtake b = (M, E)) :
    Calls Try.prog 22 #[.slice A n c] w fun e w' => ∃ Ae ce As cs, e = .returned (.tuple #[.agg (mgcells M (.slice Ae M.ents.length ce) (.slice As M.snap.state.length cs)).toArray, .int .i64 E]) ∧ Enc.Sl enE w' noneAt (.slice Ae M.ents.length ce) M.ents ∧ Bs w' (.slice As M.snap.state.length cs) M.snap.state ∧ Ext w w' := by
  refine (mtake_b _ b w hl hx).mono ?_
  rw [h]
  rintro e w' ⟨ve, vs, rfl, h1, h2, h3⟩
  obtain ⟨Ae, ce, rfl, -, -⟩ := h1.form
  obtain ⟨As, cs, rfl, -, -, -⟩ := id h2
  exact ⟨Ae, ce, As, cs, rfl, h1, h2, h3⟩
theorem msg_len2 {m : Mg} (hl : m.light) : 1 ≤ (msgC.enc m).length ∧ (msgC.enc m).length ≤ 100000 := by
  rw [msg_len]
  have h1 := ents_len m.ents hl.datas
  have h2 := cput_len3 m.cmd hl.name hl.url
  have h3 := hl.ents
  have h4 := hl.state
  have h5 := hl.text
  omega
def cmd0 (m : Mg) : Mg := if m.cmd.kind = 0 then { m with cmd := Cm.zero } else m
theorem cmzero_wide : Cm.zero.wide := by constructor <;> simp [Cm.zero, maxLen]
theorem cmd0_wide {m : Mg} (h : m.wide) : (cmd0 m).wide := by
  unfold cmd0
  split
  · exact { h with cmd := cmzero_wide }
  · exact h
theorem cmd0_light {m : Mg} (h : m.light) : (cmd0 m).light := by
  unfold cmd0
  split
  · exact { h with ck0 := (by decide : (0 : Int) ≤ 0), ck1 := (by decide : (0 : Int) ≤ 255), cc0 := (by decide : (0 : Int) ≤ 0), cc1 := (by decide : (0 : Int) ≤ 255), name := Nat.zero_le _, url := Nat.zero_le _ }
  · exact h
theorem cmd0_cmd (m : Mg) : (cmd0 m).cmd.kind ≠ 0 ∨ (cmd0 m).cmd = Cm.zero := by
  unfold cmd0
  split
  · exact .inr rfl
  · exact .inl (by assumption)
theorem cmd0_rest (m : Mg) : (cmd0 m).ents = m.ents ∧ (cmd0 m).snap = m.snap ∧ (cmd0 m).kind = m.kind ∧ (cmd0 m).an = m.an := by
  unfold cmd0
  split <;> exact ⟨rfl, rfl, rfl, rfl⟩
set_option maxHeartbeats 12800000 in
theorem msgBack_walk (ca : Array Value) (m0 : Mg) (cut more : Int) (x : Value) (b : Bytes) (w : World) (ha : mgE.rep w noneAt ca.toList m0) (hcut : -9223372036854775808 ≤ cut ∧ cut ≤ 9223372036854775807) (hmore : 0 ≤ more ∧ more ≤ 255) (hb : Bs w x b) :
    Calls Try.prog 8 #[.agg ca, .int .i64 cut, .int .u8 more, x] w fun e w' => e = .returned (.bool true) ∧ Ext w w' := by
  obtain ⟨ve, vs, hca, hmw0, hm1, hm2, -⟩ := mg_rep.1 ha
  obtain rfl : ca = (mgcells m0 ve vs).toArray := by rw [← hca]
  obtain ⟨y, rfl⟩ := u8_of more hmore.1 hmore.2
  clear ha hca hmore
  obtain ⟨Ae, ce, rfl, -, -⟩ := hm1.form
  obtain ⟨As, cs, rfl, -, -, -⟩ := id hm2
  obtain ⟨A, cx, rfl, -, -, -⟩ := id hb
  go_enter Try.func8, Try.ntmps8
  repeat (first | with_reducible refine one_stop ?_ | go_step)
  intro W g hg hA hxw
  subst hg
  go_wp2_with fail
  refine (begun24_b _).mono ?_
  rintro e W1 ⟨rfl, hx1⟩
  replace hA := hA.ext hx1
  replace hxw := hxw.trans' hx1
  go_wp2_with (refine ld_row rfl 44 _ rfl _ rfl 44 _ _ hA Try.underlying44 rfl (by kernel_rfl) ?_)
  refine (light_b m0 _ _ _ (hm1.ext hxw) (hm2.ext hxw) hmw0).mono ?_
  rintro e W2 ⟨b1, rfl, hx2, hl1⟩
  replace hA := hA.ext hx2
  replace hxw := hxw.trans' hx2
  clear hx1 hx2
  cases b1 with
  | false =>
    go_wp2
    go_ret
    exact ⟨rfl, hxw⟩
  | true =>
  have hml0 := hl1 rfl
  clear hl1
  have a0 : W2.cell? ⟨w.heap.size, 0, none⟩ = some (.int .i64 m0.kind) := (hA.cell 0).trans rfl
  have a13 : W2.cell? ⟨w.heap.size, 13, none⟩ = some (.int .i64 m0.cmd.kind) := (hA.cell 13).trans rfl
  have a19 : W2.cell? ⟨w.heap.size, 19, none⟩ = some (.int .i64 m0.an.err) := (hA.cell 19).trans rfl
  rcases Bool.eq_false_or_eq_true (decide (m0.kind < 1)) with k1 | k1
  · go_wp2
    go_ret
    exact ⟨rfl, hxw⟩
  rcases Bool.eq_false_or_eq_true (decide (7 < m0.kind)) with k2 | k2
  · go_wp2
    go_ret
    exact ⟨rfl, hxw⟩
  rcases Bool.eq_false_or_eq_true (decide (16 < m0.an.err)) with k3 | k3
  · go_wp2
    go_ret
    exact ⟨rfl, hxw⟩
  rcases Bool.eq_false_or_eq_true (decide ((500 : Int) < b.length)) with k4 | k4
  · go_wp2
    go_ret
    exact ⟨rfl, hxw⟩
  go_upto_if 47 with fail
  have hk1 := of_decide_eq_false k1
  have hk2 := of_decide_eq_false k2
  have hk3 := of_decide_eq_false k3
  have hk4 := of_decide_eq_false k4
  clear k1 k2 k3 k4
  have a14 : W2.cell? ⟨w.heap.size, 14, none⟩ = some (.int .i64 m0.cmd.client) := (hA.cell 14).trans rfl
  have a15 : W2.cell? ⟨w.heap.size, 15, none⟩ = some (.int .u64 m0.cmd.seq) := (hA.cell 15).trans rfl
  have a16 : W2.cell? ⟨w.heap.size, 16, none⟩ = some (str m0.cmd.name) := (hA.cell 16).trans rfl
  have a17 : W2.cell? ⟨w.heap.size, 17, none⟩ = some (str m0.cmd.url) := (hA.cell 17).trans rfl
  have a18 : W2.cell? ⟨w.heap.size, 18, none⟩ = some (.int .u64 m0.cmd.till) := (hA.cell 18).trans rfl
  have f13 := hA.frozen 13
  have f14 := hA.frozen 14
  have f15 := hA.frozen 15
  have f16 := hA.frozen 16
  have f17 := hA.frozen 17
  have f18 := hA.frozen 18
  have hbl : b.length ≤ 500 := by omega
  go_cut [] (fun wx => Blk wx w.heap.size 44 (mgcells (cmd0 m0) (.slice Ae m0.ents.length ce) (.slice As m0.snap.state.length cs)).toArray ∧ Ext w wx)
  case first =>
    by_cases hk : m0.cmd.kind = 0
    · have hk' : (m0.cmd.kind == 0) = true := by simpa using hk
      have h0 : cmd0 m0 = { m0 with cmd := Cm.zero } := if_pos hk
      have hBF : Blk _ w.heap.size 44 _ := (((((hA.set_ 13 (.int .i64 0)).set_ 14 (.int .i64 0)).set_ 15 (.int .u64 0)).set_ 16 (str [])).set_ 17 (str [])).set_ 18 (.int .u64 0)
      have hCF : Chg [w.heap.size] W2 _ := ((((((Chg.refl [w.heap.size] W2).set (p := ⟨w.heap.size, 13, none⟩) (by simp) (.int .i64 0)).set (p := ⟨w.heap.size, 14, none⟩) (by simp) (.int .i64 0)).set (p := ⟨w.heap.size, 15, none⟩) (by simp) (.int .u64 0)).set (p := ⟨w.heap.size, 16, none⟩) (by simp) (str [])).set (p := ⟨w.heap.size, 17, none⟩) (by simp) (str [])).set (p := ⟨w.heap.size, 18, none⟩) (by simp) (.int .u64 0)
      go_wp2_with fail
      go_meet
      case rel =>
        rw [h0]
        exact ⟨hBF, hxw.then_ hCF (by simp)⟩
    · have hk' : (m0.cmd.kind == 0) = false := by simpa using hk
      have h0 : cmd0 m0 = m0 := if_neg hk
      go_wp2_with fail
      go_meet
      case rel =>
        rw [h0]
        exact ⟨hA, hxw⟩
  case rest =>
  obtain ⟨hA3, hxw3⟩ := hcut
  clear hxw hA a0 a13 a14 a15 a16 a17 a18 a19 f13 f14 f15 f16 f17 f18
  generalize wc = W3 at *
  have hmw := cmd0_wide hmw0
  have hml := cmd0_light hml0
  have hcm := cmd0_cmd m0
  obtain ⟨hre, hrs, hrk, hra⟩ := cmd0_rest m0
  rw [← hre] at hm1
  rw [← hrs] at hm2
  rw [← hre, ← hrs] at hA3
  rw [← hrk] at hk1 hk2
  rw [← hra] at hk3
  clear hre hrs hrk hra hmw0 hml0
  generalize cmd0 m0 = m at *
  have hmok : msgC.ok m := Mg.okC hmw hml (by omega) (by omega) (by omega) hcm (Sl.terms hm1)
  have hxw := hxw3
  have hA := hA3
  replace hm1 := hm1.ext hxw
  replace hm2 := hm2.ext hxw
  have hbx := hb.ext hxw
  clear hxw3 hA3 hk1 hk2 hk3 hcm hb
  have HOK := hide hmok
  have HW := hide hmw
  have HL := hide hml
  clear hmok hmw hml
  go_wp2_with (refine ld_row rfl 44 _ rfl _ rfl 44 _ _ hA Try.underlying44 rfl (by kernel_rfl) ?_)
  refine (mput_b m _ _ _ HW.out HL.out hm1 hm2).mono ?_
  rintro e W4 ⟨p, Ap, cp, hp, rfl, hpb, hx4⟩
  replace hA := hA.ext hx4
  replace hm1 := hm1.ext hx4
  replace hm2 := hm2.ext hx4
  replace hbx := hbx.ext hx4
  replace hxw := hxw.trans' hx4
  clear hx4
  obtain ⟨hpl1, hpl2⟩ := msg_len2 HL.out
  rw [← hp.out] at hpl1 hpl2
  have HE0 : Hid (mtake p = (m, 0)) := hide (by rw [hp.out]; exact mtake_put HOK.out)
  go_wp2_with fail
  refine (mtake_b' _ _ _ p _ (by omega) hpb m 0 HE0.out).mono ?_
  rintro e W1t ⟨E1, e1, S1, s1, rfl, h11, h12, hx1t⟩
  have hN1 := Blk.new W1t 44 (mgcells Mg0 (.slice none 0 0) (.slice none 0 0)).toArray
  go_wp2_with (refine st_stop rfl 44 _ _ rfl W1t.heap.size (mgcells m (.slice E1 m.ents.length e1) (.slice S1 m.snap.state.length s1)).toArray rfl rfl 44 _ hN1 (by kernel_rfl) (by simp) (mg_one _ _ _ _ _ _ _) ?_)
  intro W5 hB1 hc1
  have hy1 : Ext W4 W5 := hx1t.trans' (((Ext.rfl' W1t).alloc' _).then_ hc1 (by simp))
  have hz1 : Ext W1t W5 := ((Ext.rfl' W1t).alloc' _).then_ hc1 (by simp)
  replace h11 := h11.ext hz1
  replace h12 := h12.ext hz1
  clear hN1 hc1 hx1t hz1
  generalize W1t.heap.size = g1 at *
  replace hA := hA.ext hy1
  replace hm1 := hm1.ext hy1
  replace hm2 := hm2.ext hy1
  replace hbx := hbx.ext hy1
  replace hpb := hpb.ext hy1
  replace hxw := hxw.trans' hy1
  clear hy1
  go_wp2_with fail
  refine (place_b cut _ _ hcut (by omega)).mono ?_
  rintro e W5' ⟨q, hq, rfl, rfl⟩
  have hpc := hpb.front (k := q) (by omega)
  have hql : (p.take q).length = q := by rw [List.length_take]; omega
  have hcap1 : p.length ≤ cp := hpb.inv.2.1
  have HE1 : Hid (mtake (p.take q) = (Mg0, 3)) := hide (by rw [hp.out]; exact mtake_cut HOK.out q (by rw [← hp.out]; omega))
  go_wp2_with fail
  refine (mtake_b' _ _ _ (p.take q) _ (by omega) hpc Mg0 3 HE1.out).mono ?_
  rintro e W2t ⟨E2, e2, S2, s2, rfl, h21, h22, hx2t⟩
  have hN2 := Blk.new W2t 44 (mgcells Mg0 (.slice none 0 0) (.slice none 0 0)).toArray
  go_wp2_with (refine st_stop rfl 44 _ _ rfl W2t.heap.size (mgcells Mg0 (.slice E2 Mg0.ents.length e2) (.slice S2 Mg0.snap.state.length s2)).toArray rfl rfl 44 _ hN2 (by kernel_rfl) (by simp) (mg_one _ _ _ _ _ _ _) ?_)
  intro W6 hB2 hc2
  have hy2 : Ext W5 W6 := hx2t.trans' (((Ext.rfl' W2t).alloc' _).then_ hc2 (by simp))
  have hz2 : Ext W2t W6 := ((Ext.rfl' W2t).alloc' _).then_ hc2 (by simp)
  replace h21 := h21.ext hz2
  replace h22 := h22.ext hz2
  clear hN2 hc2 hx2t hz2
  generalize W2t.heap.size = g2 at *
  replace hA := hA.ext hy2
  replace hm1 := hm1.ext hy2
  replace hm2 := hm2.ext hy2
  replace hbx := hbx.ext hy2
  replace hpb := hpb.ext hy2
  replace h11 := h11.ext hy2
  replace h12 := h12.ext hy2
  replace hB1 := hB1.ext hy2
  replace hxw := hxw.trans' hy2
  clear hy2
  go_wp2_with (first | (at_builtin; refine wpList_app W6 _ rfl (.tmp 68) (.tmp 69) rfl _ [] rfl (nw_lit W6 _ (Ext.rfl' _) _ (by simp)) ((Ext.rfl' _).alloc' _) _ p rfl (hpb.ext ((Ext.rfl' _).alloc' _)) (by simp; omega) ?_; intro k4 A4 c4 W7 hk4 hz4 hx7 _; have hl4 : k4.length ≤ 100000 := by rw [hk4.out]; simp only [List.nil_append]; omega) | (at_builtin; refine wpList_app W6 _ rfl (.tmp 70) (.tmp 72) rfl _ k4 rfl (own_ext hz4 ((Ext.rfl' _).alloc' _)) (hx7.alloc' _) _ [y] rfl (Bs.lit (w := W7) 5 [y] _ rfl (by simp [maxLen]) (0, 0)) (by simp only [List.length_cons, List.length_nil]; omega) ?_; intro k5 A5 c5 W8 hk5 hz5 hx8 _; have hl5 : k5.length ≤ 100001 := by rw [hk5.out, List.length_append]; simp only [List.length_cons, List.length_nil]; omega))
  have HE2 : Hid (mtake k5 = (Mg0, 2)) := hide (by
    rw [hk5.out, hk4.out, List.nil_append, hp.out]
    exact mtake_more HOK.out y)
  replace hA := hA.ext hx8
  replace hm1 := hm1.ext hx8
  replace hm2 := hm2.ext hx8
  replace hbx := hbx.ext hx8
  replace h11 := h11.ext hx8
  replace h12 := h12.ext hx8
  replace hB1 := hB1.ext hx8
  replace hxw := hxw.trans' hx8
  refine (mtake_b' _ _ _ k5 _ (by omega) hz5.bs Mg0 2 HE2.out).mono ?_
  rintro e W3t ⟨E3, e3, S3, s3, rfl, h31, h32, hx3t⟩
  have hN3 := Blk.new W3t 44 (mgcells Mg0 (.slice none 0 0) (.slice none 0 0)).toArray
  go_wp2_with (refine st_stop rfl 44 _ _ rfl W3t.heap.size (mgcells Mg0 (.slice E3 Mg0.ents.length e3) (.slice S3 Mg0.snap.state.length s3)).toArray rfl rfl 44 _ hN3 (by kernel_rfl) (by simp) (mg_one _ _ _ _ _ _ _) ?_)
  intro W9 hB3 hc3
  have hy3 : Ext W8 W9 := hx3t.trans' (((Ext.rfl' W3t).alloc' _).then_ hc3 (by simp))
  have hz3 : Ext W3t W9 := ((Ext.rfl' W3t).alloc' _).then_ hc3 (by simp)
  replace h31 := h31.ext hz3
  replace h32 := h32.ext hz3
  clear hN3 hc3 hx3t hz3
  generalize W3t.heap.size = g3 at *
  replace hA := hA.ext hy3
  replace hm1 := hm1.ext hy3
  replace hm2 := hm2.ext hy3
  replace hbx := hbx.ext hy3
  replace h11 := h11.ext hy3
  replace h12 := h12.ext hy3
  replace hB1 := hB1.ext hy3
  replace hxw := hxw.trans' hy3
  clear hy3
  obtain ⟨Y, H, HY⟩ : ∃ C E, mtake b = (C, E) := ⟨_, _, rfl⟩
  have HH : Hid (H = 0 → msgC.enc Y = b ∧ Y.wide ∧ Y.light) := by
    unfold Hid
    intro h0
    have h1 := mtake_inv (b := b) (by rw [HY]; exact h0)
    rw [HY] at h1
    exact ⟨h1.1, Mg.of_ok h1.2 (by rw [h1.1]; exact hbl)⟩
  go_wp2_with fail
  refine (mtake_b' _ _ _ b _ (by omega) hbx Y H HY).mono ?_
  rintro e W4t ⟨E4, e4, S4, s4, rfl, h41, h42, hx4t⟩
  have hN4 := Blk.new W4t 44 (mgcells Mg0 (.slice none 0 0) (.slice none 0 0)).toArray
  go_wp2_with (refine st_stop rfl 44 _ _ rfl W4t.heap.size (mgcells Y (.slice E4 Y.ents.length e4) (.slice S4 Y.snap.state.length s4)).toArray rfl rfl 44 _ hN4 (by kernel_rfl) (by simp) (mg_one _ _ _ _ _ _ _) ?_)
  intro W10 hB4 hc4
  have hy4 : Ext W9 W10 := hx4t.trans' (((Ext.rfl' W4t).alloc' _).then_ hc4 (by simp))
  have hz4 : Ext W4t W10 := ((Ext.rfl' W4t).alloc' _).then_ hc4 (by simp)
  replace h41 := h41.ext hz4
  replace h42 := h42.ext hz4
  clear hN4 hc4 hx4t hz4
  generalize W4t.heap.size = g4 at *
  replace hA := hA.ext hy4
  replace hm1 := hm1.ext hy4
  replace hm2 := hm2.ext hy4
  replace hbx := hbx.ext hy4
  replace h11 := h11.ext hy4
  replace h12 := h12.ext hy4
  replace hB1 := hB1.ext hy4
  replace hxw := hxw.trans' hy4
  clear hy4
  clear HY
  go_upto_region 12 with fail
  generalize W10 = W6 at *
  have hT1 := h11
  have hT2 := h12
  by_cases hH : H = 0
  · subst hH
    obtain ⟨hYe, hYw, hYl⟩ := HH.out rfl
    refine Rg.regionT Try.checked.mixed 109 28 (by kernel_rfl) [
      (fun x_ _ => x_ = .int .i64 0),
      (fun x_ _ => x_ = .bool true),
      (fun x_ _ => x_ = .bool true),
      (fun x_ _ => x_ = .agg (mgcells m (.slice E1 m.ents.length e1) (.slice S1 m.snap.state.length s1)).toArray),
      (fun x_ _ => x_ = .agg (mgcells m (.slice Ae m.ents.length ce) (.slice As m.snap.state.length cs)).toArray),
      (fun x_ _ => x_ = .bool true),
      (fun x_ _ => x_ = .bool true),
      (fun x_ _ => x_ = .bool true),
      (fun x_ _ => x_ = .int .i64 3),
      (fun x_ _ => x_ = .bool true),
      (fun x_ _ => x_ = .bool true),
      (fun x_ _ => x_ = .bool true),
      (fun x_ _ => x_ = .int .i64 2),
      (fun x_ _ => x_ = .bool true),
      (fun x_ _ => x_ = .bool true),
      (fun x_ _ => x_ = .bool true),
      (fun x_ _ => x_ = .int .i64 0),
      (fun x_ _ => x_ = .bool false),
      (fun x_ _ => x_ = .bool false),
      (fun x_ _ => x_ = .agg (mgcells Y (.slice E4 Y.ents.length e4) (.slice S4 Y.snap.state.length s4)).toArray),
      (fun v W => Bs W v b),
      (fun x_ _ => x_ = str b),
      (fun x_ _ => x_ = .slice A b.length cx),
      (fun x_ _ => x_ = str b),
      (fun x_ _ => x_ = .bool true),
      (fun x_ _ => x_ = .bool true),
      (fun x_ _ => x_ = .bool true),
      (fun x_ _ => x_ = .bool true)] (fun W => Ext W6 W) Ext rfl rfl rfl
      ?st ((Ext.rfl' W6).drew') ?ob ?en
    case st => exact ⟨fun _ _ _ h _ => h, fun _ _ _ h _ => h, fun _ _ _ h _ => h, fun _ _ _ h _ => h, fun _ _ _ h _ => h, fun _ _ _ h _ => h, fun _ _ _ h _ => h, fun _ _ _ h _ => h, fun _ _ _ h _ => h, fun _ _ _ h _ => h, fun _ _ _ h _ => h, fun _ _ _ h _ => h, fun _ _ _ h _ => h, fun _ _ _ h _ => h, fun _ _ _ h _ => h, fun _ _ _ h _ => h, fun _ _ _ h _ => h, fun _ _ _ h _ => h, fun _ _ _ h _ => h, fun _ _ _ h _ => h, fun _ _ _ h hx => h.ext hx, fun _ _ _ h _ => h, fun _ _ _ h _ => h, fun _ _ _ h _ => h, fun _ _ _ h _ => h, fun _ _ _ h _ => h, fun _ _ _ h _ => h, fun _ _ _ h _ => h, trivial⟩
    case ob =>
      refine ⟨Rg.at_run [11] rfl ?_, ?_⟩
      · intro ρ W hR ⟨q11, _⟩
        replace q11 : ρ 11 = .int .i64 0 := q11
        refine ⟨rfl, ?_⟩
        exact Rg.run_ok (v := .int .i64 0) (by simp [execOp, Rg.ev, go_sem, q11]) ⟨rfl, hR, Ext.rfl' _⟩
      refine ⟨Rg.at_run [82] rfl ?_, ?_⟩
      · intro ρ W hR ⟨q82, _⟩
        replace q82 : ρ 82 = .int .i64 0 := q82
        refine ⟨rfl, ?_⟩
        exact Rg.run_ok (v := .bool true) (by simp [execOp, Rg.ev, go_sem, q82]) ⟨rfl, hR, Ext.rfl' _⟩
      refine ⟨Rg.at_run [83] rfl ?_, ?_⟩
      · intro ρ W hR ⟨q83, _⟩
        replace q83 : ρ 83 = .bool true := q83
        refine ⟨rfl, ?_⟩
        exact Rg.run_ok (v := .bool true) (by simp [execOp, Rg.ev, go_sem, q83]) ⟨rfl, hR, Ext.rfl' _⟩
      refine ⟨Rg.at_run [10, 84] rfl ?_, ?_⟩
      · intro ρ W hR ⟨q10, q84, _⟩
        replace q10 : ρ 10 = .pointer (some ⟨g1, 0, none⟩) := q10
        replace q84 : ρ 84 = .bool true := q84
        refine ⟨by simp [Rg.wants, q84], ?_⟩
        exact Rg.run_ok (v := .agg (mgcells m (.slice E1 m.ents.length e1) (.slice S1 m.snap.state.length s1)).toArray) (Rg.load_row 44 (.tmp 10) rfl g1 q10 44 _ _ (hB1.ext hR) Try.underlying44 rfl (by kernel_rfl)) ⟨rfl, hR, Ext.rfl' _⟩
      refine ⟨Rg.at_run [4, 84] rfl ?_, ?_⟩
      · intro ρ W hR ⟨q4, q84, _⟩
        replace q4 : ρ 4 = .pointer (some ⟨w.heap.size, 0, none⟩) := q4
        replace q84 : ρ 84 = .bool true := q84
        refine ⟨by simp [Rg.wants, q84], ?_⟩
        exact Rg.run_ok (v := .agg (mgcells m (.slice Ae m.ents.length ce) (.slice As m.snap.state.length cs)).toArray) (Rg.load_row 44 (.tmp 4) rfl w.heap.size q4 44 _ _ (hA.ext hR) Try.underlying44 rfl (by kernel_rfl)) ⟨rfl, hR, Ext.rfl' _⟩
      refine ⟨Rg.at_run [85, 86, 84] rfl ?_, ?_⟩
      · intro ρ W hR ⟨q85, q86, q84, _⟩
        replace q85 : ρ 85 = .agg (mgcells m (.slice E1 m.ents.length e1) (.slice S1 m.snap.state.length s1)).toArray := q85
        replace q86 : ρ 86 = .agg (mgcells m (.slice Ae m.ents.length ce) (.slice As m.snap.state.length cs)).toArray := q86
        replace q84 : ρ 84 = .bool true := q84
        refine ⟨by simp [Rg.wants, q84], ?_⟩
        refine Rg.enter_fn (args := #[.agg (mgcells m (.slice E1 m.ents.length e1) (.slice S1 m.snap.state.length s1)).toArray, .agg (mgcells m (.slice Ae m.ents.length ce) (.slice As m.snap.state.length cs)).toArray]) rfl (by simp only [List.map_toArray, List.map_cons, List.map_nil, Rg.ev, q85, q86]) (by kernel_rfl) ?_
        refine (msame_b m m _ _ _ _ W (hT1.ext hR) (hT2.ext hR) (hm1.ext hR) (hm2.ext hR)).mono ?_
        rintro e_ w2 ⟨⟨r, rfl, hr⟩, hxx⟩
        obtain rfl : r = true := hr.2 rfl
        exact ⟨_, rfl, rfl, hR.trans' hxx, hxx⟩
      refine ⟨Rg.at_run [84, 87] rfl ?_, ?_⟩
      · intro ρ W hR ⟨q84, q87, _⟩
        replace q84 : ρ 84 = .bool true := q84
        replace q87 : ρ 87 = .bool true := q87
        refine ⟨rfl, ?_⟩
        exact Rg.run_ok (v := .bool true) (by simp [execOp, Rg.ev, go_sem, q84, q87]) ⟨rfl, hR, Ext.rfl' _⟩
      refine ⟨Rg.at_run [88] rfl ?_, ?_⟩
      · intro ρ W hR ⟨q88, _⟩
        replace q88 : ρ 88 = .bool true := q88
        refine ⟨rfl, ?_⟩
        exact Rg.run_ok (v := .bool true) (by simp [execOp, Rg.ev, go_sem, q88]) ⟨rfl, hR, Ext.rfl' _⟩
      refine ⟨Rg.at_run [13, 89] rfl ?_, ?_⟩
      · intro ρ W hR ⟨q13, q89, _⟩
        replace q13 : ρ 13 = .int .i64 3 := q13
        replace q89 : ρ 89 = .bool true := q89
        refine ⟨by simp [Rg.wants, q89], ?_⟩
        exact Rg.run_ok (v := .int .i64 3) (by simp [execOp, Rg.ev, go_sem, q13]) ⟨rfl, hR, Ext.rfl' _⟩
      refine ⟨Rg.at_run [90, 89] rfl ?_, ?_⟩
      · intro ρ W hR ⟨q90, q89, _⟩
        replace q90 : ρ 90 = .int .i64 3 := q90
        replace q89 : ρ 89 = .bool true := q89
        refine ⟨by simp [Rg.wants, q89], ?_⟩
        exact Rg.run_ok (v := .bool true) (by simp [execOp, Rg.ev, go_sem, q90]) ⟨rfl, hR, Ext.rfl' _⟩
      refine ⟨Rg.at_run [89, 91] rfl ?_, ?_⟩
      · intro ρ W hR ⟨q89, q91, _⟩
        replace q89 : ρ 89 = .bool true := q89
        replace q91 : ρ 91 = .bool true := q91
        refine ⟨rfl, ?_⟩
        exact Rg.run_ok (v := .bool true) (by simp [execOp, Rg.ev, go_sem, q89, q91]) ⟨rfl, hR, Ext.rfl' _⟩
      refine ⟨Rg.at_run [92] rfl ?_, ?_⟩
      · intro ρ W hR ⟨q92, _⟩
        replace q92 : ρ 92 = .bool true := q92
        refine ⟨rfl, ?_⟩
        exact Rg.run_ok (v := .bool true) (by simp [execOp, Rg.ev, go_sem, q92]) ⟨rfl, hR, Ext.rfl' _⟩
      refine ⟨Rg.at_run [15, 93] rfl ?_, ?_⟩
      · intro ρ W hR ⟨q15, q93, _⟩
        replace q15 : ρ 15 = .int .i64 2 := q15
        replace q93 : ρ 93 = .bool true := q93
        refine ⟨by simp [Rg.wants, q93], ?_⟩
        exact Rg.run_ok (v := .int .i64 2) (by simp [execOp, Rg.ev, go_sem, q15]) ⟨rfl, hR, Ext.rfl' _⟩
      refine ⟨Rg.at_run [94, 93] rfl ?_, ?_⟩
      · intro ρ W hR ⟨q94, q93, _⟩
        replace q94 : ρ 94 = .int .i64 2 := q94
        replace q93 : ρ 93 = .bool true := q93
        refine ⟨by simp [Rg.wants, q93], ?_⟩
        exact Rg.run_ok (v := .bool true) (by simp [execOp, Rg.ev, go_sem, q94]) ⟨rfl, hR, Ext.rfl' _⟩
      refine ⟨Rg.at_run [93, 95] rfl ?_, ?_⟩
      · intro ρ W hR ⟨q93, q95, _⟩
        replace q93 : ρ 93 = .bool true := q93
        replace q95 : ρ 95 = .bool true := q95
        refine ⟨rfl, ?_⟩
        exact Rg.run_ok (v := .bool true) (by simp [execOp, Rg.ev, go_sem, q93, q95]) ⟨rfl, hR, Ext.rfl' _⟩
      refine ⟨Rg.at_run [96] rfl ?_, ?_⟩
      · intro ρ W hR ⟨q96, _⟩
        replace q96 : ρ 96 = .bool true := q96
        refine ⟨rfl, ?_⟩
        exact Rg.run_ok (v := .bool true) (by simp [execOp, Rg.ev, go_sem, q96]) ⟨rfl, hR, Ext.rfl' _⟩
      refine ⟨Rg.at_run [17, 97] rfl ?_, ?_⟩
      · intro ρ W hR ⟨q17, q97, _⟩
        replace q17 : ρ 17 = .int .i64 0 := q17
        replace q97 : ρ 97 = .bool true := q97
        refine ⟨by simp [Rg.wants, q97], ?_⟩
        exact Rg.run_ok (v := .int .i64 0) (by simp [execOp, Rg.ev, go_sem, q17]) ⟨rfl, hR, Ext.rfl' _⟩
      refine ⟨Rg.at_run [98, 97] rfl ?_, ?_⟩
      · intro ρ W hR ⟨q98, q97, _⟩
        replace q98 : ρ 98 = .int .i64 0 := q98
        replace q97 : ρ 97 = .bool true := q97
        refine ⟨by simp [Rg.wants, q97], ?_⟩
        exact Rg.run_ok (v := .bool false) (by simp [execOp, Rg.ev, go_sem, q98]) ⟨rfl, hR, Ext.rfl' _⟩
      refine ⟨Rg.at_run [99, 97] rfl ?_, ?_⟩
      · intro ρ W hR ⟨q99, q97, _⟩
        replace q99 : ρ 99 = .bool false := q99
        replace q97 : ρ 97 = .bool true := q97
        refine ⟨by simp [Rg.wants, q97], ?_⟩
        exact Rg.run_ok (v := .bool false) (by simp [execOp, Rg.ev, go_sem, q99]) ⟨rfl, hR, Ext.rfl' _⟩
      refine ⟨Rg.at_run [16, 100] rfl ?_, ?_⟩
      · intro ρ W hR ⟨q16, q100, _⟩
        replace q16 : ρ 16 = .pointer (some ⟨g4, 0, none⟩) := q16
        replace q100 : ρ 100 = .bool false := q100
        refine ⟨by simp [Rg.wants, q100], ?_⟩
        exact Rg.run_ok (v := .agg (mgcells Y (.slice E4 Y.ents.length e4) (.slice S4 Y.snap.state.length s4)).toArray) (Rg.load_row 44 (.tmp 16) rfl g4 q16 44 _ _ (hB4.ext hR) Try.underlying44 rfl (by kernel_rfl)) ⟨rfl, hR, Ext.rfl' _⟩
      refine ⟨Rg.at_run [101, 100] rfl ?_, ?_⟩
      · intro ρ W hR ⟨q101, q100, _⟩
        replace q101 : ρ 101 = .agg (mgcells Y (.slice E4 Y.ents.length e4) (.slice S4 Y.snap.state.length s4)).toArray := q101
        replace q100 : ρ 100 = .bool false := q100
        refine ⟨by simp [Rg.wants, q100], ?_⟩
        refine Rg.enter_fn (args := #[.agg (mgcells Y (.slice E4 Y.ents.length e4) (.slice S4 Y.snap.state.length s4)).toArray]) rfl (by simp only [List.map_toArray, List.map_cons, List.map_nil, Rg.ev, q101]) (by kernel_rfl) ?_
        refine (mput_b Y _ _ W hYw hYl (h41.ext hR) (h42.ext hR)).mono ?_
        rintro e w2 ⟨m9, A9, c9, hm9, rfl, hz, hxx⟩
        obtain rfl : m9 = b := hm9.out.trans hYe
        exact ⟨_, rfl, hz, hR.trans' hxx, hxx⟩
      refine ⟨Rg.at_run [102, 100] rfl ?_, ?_⟩
      · intro ρ W hR ⟨q102, q100, _⟩
        replace q102 : (fun v W => Bs W v b) (ρ 102) W := q102
        replace q100 : ρ 100 = .bool false := q100
        refine ⟨by simp [Rg.wants, q100], ?_⟩
        have hb : Bs W (ρ 102) b := q102
        have hs := run_str (P := Try.prog) hb Try.underlying25 Try.underlying5 Try.underlying9
        exact Rg.run_ok (v := str b) (by simp only [execOp, Rg.ev, Sem.run_bind, Sem.run_pure, Result.andThen_ok, hs]) ⟨rfl, hR, Ext.rfl' _⟩
      refine ⟨Rg.at_run [3, 100] rfl ?_, ?_⟩
      · intro ρ W hR ⟨q3, q100, _⟩
        replace q3 : ρ 3 = .slice A b.length cx := q3
        replace q100 : ρ 100 = .bool false := q100
        refine ⟨by simp [Rg.wants, q100], ?_⟩
        exact Rg.run_ok (v := .slice A b.length cx) (by simp [execOp, Rg.ev, go_sem, q3]) ⟨rfl, hR, Ext.rfl' _⟩
      refine ⟨Rg.at_run [104, 100] rfl ?_, ?_⟩
      · intro ρ W hR ⟨q104, q100, _⟩
        replace q104 : ρ 104 = .slice A b.length cx := q104
        replace q100 : ρ 100 = .bool false := q100
        refine ⟨by simp [Rg.wants, q100], ?_⟩
        have hs := run_str (P := Try.prog) (hbx.ext hR) Try.underlying25 Try.underlying5 Try.underlying9
        exact Rg.run_ok (v := str b) (by simp only [execOp, Rg.ev, Sem.run_bind, Sem.run_pure, Result.andThen_ok, q104, hs]) ⟨rfl, hR, Ext.rfl' _⟩
      refine ⟨Rg.at_run [103, 105, 100] rfl ?_, ?_⟩
      · intro ρ W hR ⟨q103, q105, q100, _⟩
        replace q103 : ρ 103 = str b := q103
        replace q105 : ρ 105 = str b := q105
        replace q100 : ρ 100 = .bool false := q100
        refine ⟨by simp [Rg.wants, q100], ?_⟩
        exact Rg.run_ok (v := .bool true) (by simp [execOp, Rg.ev, go_sem, q103, q105]) ⟨rfl, hR, Ext.rfl' _⟩
      refine ⟨Rg.at_run [100, 106, 97] rfl ?_, ?_⟩
      · intro ρ W hR ⟨q100, q106, q97, _⟩
        replace q100 : ρ 100 = .bool false := q100
        replace q106 : ρ 106 = .bool true := q106
        replace q97 : ρ 97 = .bool true := q97
        refine ⟨by simp [Rg.wants, q97], ?_⟩
        exact Rg.run_ok (v := .bool true) (by simp [execOp, Rg.ev, go_sem, q100, q106]) ⟨rfl, hR, Ext.rfl' _⟩
      refine ⟨Rg.at_run [97, 107] rfl ?_, ?_⟩
      · intro ρ W hR ⟨q97, q107, _⟩
        replace q97 : ρ 97 = .bool true := q97
        replace q107 : ρ 107 = .bool true := q107
        refine ⟨rfl, ?_⟩
        exact Rg.run_ok (v := .bool true) (by simp [execOp, Rg.ev, go_sem, q97, q107]) ⟨rfl, hR, Ext.rfl' _⟩
      refine ⟨Rg.at_run [108] rfl ?_, ?_⟩
      · intro ρ W hR ⟨q108, _⟩
        replace q108 : ρ 108 = .bool true := q108
        refine ⟨rfl, ?_⟩
        exact Rg.run_ok (v := .bool true) (by simp [execOp, Rg.ev, go_sem, q108]) ⟨rfl, hR, Ext.rfl' _⟩
      trivial
    case en =>
      intro tm W hR hsz hk
      rw [Rg.fin_eq (ds := [82, 83, 84, 85, 86, 87, 88, 89, 90, 91, 92, 93, 94, 95, 96, 97, 98, 99, 100, 101, 102, 103, 104, 105, 106, 107, 108, 8]) rfl rfl rfl hsz hk]
      have k8 : tm.getD 8 undef = .bool true := hk 8
      have k82 : tm.getD 82 undef = .int .i64 0 := hk 82
      have k83 : tm.getD 83 undef = .bool true := hk 83
      have k84 : tm.getD 84 undef = .bool true := hk 84
      have k85 : tm.getD 85 undef = .agg (mgcells m (.slice E1 m.ents.length e1) (.slice S1 m.snap.state.length s1)).toArray := hk 85
      have k86 : tm.getD 86 undef = .agg (mgcells m (.slice Ae m.ents.length ce) (.slice As m.snap.state.length cs)).toArray := hk 86
      have k87 : tm.getD 87 undef = .bool true := hk 87
      have k88 : tm.getD 88 undef = .bool true := hk 88
      have k89 : tm.getD 89 undef = .bool true := hk 89
      have k90 : tm.getD 90 undef = .int .i64 3 := hk 90
      have k91 : tm.getD 91 undef = .bool true := hk 91
      have k92 : tm.getD 92 undef = .bool true := hk 92
      have k93 : tm.getD 93 undef = .bool true := hk 93
      have k94 : tm.getD 94 undef = .int .i64 2 := hk 94
      have k95 : tm.getD 95 undef = .bool true := hk 95
      have k96 : tm.getD 96 undef = .bool true := hk 96
      have k97 : tm.getD 97 undef = .bool true := hk 97
      have k98 : tm.getD 98 undef = .int .i64 0 := hk 98
      have k99 : tm.getD 99 undef = .bool false := hk 99
      have k100 : tm.getD 100 undef = .bool false := hk 100
      have k101 : tm.getD 101 undef = .agg (mgcells Y (.slice E4 Y.ents.length e4) (.slice S4 Y.snap.state.length s4)).toArray := hk 101
      have k102 : (fun v W => Bs W v b) (tm.getD 102 undef) W := hk 102
      have k103 : tm.getD 103 undef = str b := hk 103
      have k104 : tm.getD 104 undef = .slice A b.length cx := hk 104
      have k105 : tm.getD 105 undef = str b := hk 105
      have k106 : tm.getD 106 undef = .bool true := hk 106
      have k107 : tm.getD 107 undef = .bool true := hk 107
      have k108 : tm.getD 108 undef = .bool true := hk 108
      clear hk hsz
      simp only [Rg.putAll, List.setIfInBounds_toArray, List.set_cons_zero, List.set_cons_succ, k8, k82, k83, k84, k85, k86, k87, k88, k89, k90, k91, k92, k93, k94, k95, k96, k97, k98, k99, k100, k101, k103, k104, k105, k106, k107, k108]
      clear k8
      clear k82
      clear k83
      clear k84
      clear k85
      clear k86
      clear k87
      clear k88
      clear k89
      clear k90
      clear k91
      clear k92
      clear k93
      clear k94
      clear k95
      clear k96
      clear k97
      clear k98
      clear k99
      clear k100
      clear k101
      generalize tm.getD 102 undef = u102 at *
      clear k103
      clear k104
      clear k105
      clear k106
      clear k107
      clear k108
      refine Rg.nil_list ?_
      go_wp2
      go_ret
      exact ⟨rfl, hxw.trans' hR⟩
  · have hH' : (H == 0) = false := by simpa using hH
    refine Rg.regionT Try.checked.mixed 109 28 (by kernel_rfl) [
      (fun x_ _ => x_ = .int .i64 0),
      (fun x_ _ => x_ = .bool true),
      (fun x_ _ => x_ = .bool true),
      (fun x_ _ => x_ = .agg (mgcells m (.slice E1 m.ents.length e1) (.slice S1 m.snap.state.length s1)).toArray),
      (fun x_ _ => x_ = .agg (mgcells m (.slice Ae m.ents.length ce) (.slice As m.snap.state.length cs)).toArray),
      (fun x_ _ => x_ = .bool true),
      (fun x_ _ => x_ = .bool true),
      (fun x_ _ => x_ = .bool true),
      (fun x_ _ => x_ = .int .i64 3),
      (fun x_ _ => x_ = .bool true),
      (fun x_ _ => x_ = .bool true),
      (fun x_ _ => x_ = .bool true),
      (fun x_ _ => x_ = .int .i64 2),
      (fun x_ _ => x_ = .bool true),
      (fun x_ _ => x_ = .bool true),
      (fun x_ _ => x_ = .bool true),
      (fun x_ _ => x_ = .int .i64 H),
      (fun x_ _ => x_ = .bool true),
      (fun x_ _ => x_ = .bool true),
      (fun x_ _ => x_ = undef),
      (fun x_ _ => x_ = undef),
      (fun x_ _ => x_ = undef),
      (fun x_ _ => x_ = undef),
      (fun x_ _ => x_ = undef),
      (fun x_ _ => x_ = undef),
      (fun x_ _ => x_ = .bool true),
      (fun x_ _ => x_ = .bool true),
      (fun x_ _ => x_ = .bool true)] (fun W => Ext W6 W) Ext rfl rfl rfl
      ?st ((Ext.rfl' W6).drew') ?ob ?en
    case st => exact ⟨fun _ _ _ h _ => h, fun _ _ _ h _ => h, fun _ _ _ h _ => h, fun _ _ _ h _ => h, fun _ _ _ h _ => h, fun _ _ _ h _ => h, fun _ _ _ h _ => h, fun _ _ _ h _ => h, fun _ _ _ h _ => h, fun _ _ _ h _ => h, fun _ _ _ h _ => h, fun _ _ _ h _ => h, fun _ _ _ h _ => h, fun _ _ _ h _ => h, fun _ _ _ h _ => h, fun _ _ _ h _ => h, fun _ _ _ h _ => h, fun _ _ _ h _ => h, fun _ _ _ h _ => h, fun _ _ _ h _ => h, fun _ _ _ h _ => h, fun _ _ _ h _ => h, fun _ _ _ h _ => h, fun _ _ _ h _ => h, fun _ _ _ h _ => h, fun _ _ _ h _ => h, fun _ _ _ h _ => h, fun _ _ _ h _ => h, trivial⟩
    case ob =>
      refine ⟨Rg.at_run [11] rfl ?_, ?_⟩
      · intro ρ W hR ⟨q11, _⟩
        replace q11 : ρ 11 = .int .i64 0 := q11
        refine ⟨rfl, ?_⟩
        exact Rg.run_ok (v := .int .i64 0) (by simp [execOp, Rg.ev, go_sem, q11]) ⟨rfl, hR, Ext.rfl' _⟩
      refine ⟨Rg.at_run [82] rfl ?_, ?_⟩
      · intro ρ W hR ⟨q82, _⟩
        replace q82 : ρ 82 = .int .i64 0 := q82
        refine ⟨rfl, ?_⟩
        exact Rg.run_ok (v := .bool true) (by simp [execOp, Rg.ev, go_sem, q82]) ⟨rfl, hR, Ext.rfl' _⟩
      refine ⟨Rg.at_run [83] rfl ?_, ?_⟩
      · intro ρ W hR ⟨q83, _⟩
        replace q83 : ρ 83 = .bool true := q83
        refine ⟨rfl, ?_⟩
        exact Rg.run_ok (v := .bool true) (by simp [execOp, Rg.ev, go_sem, q83]) ⟨rfl, hR, Ext.rfl' _⟩
      refine ⟨Rg.at_run [10, 84] rfl ?_, ?_⟩
      · intro ρ W hR ⟨q10, q84, _⟩
        replace q10 : ρ 10 = .pointer (some ⟨g1, 0, none⟩) := q10
        replace q84 : ρ 84 = .bool true := q84
        refine ⟨by simp [Rg.wants, q84], ?_⟩
        exact Rg.run_ok (v := .agg (mgcells m (.slice E1 m.ents.length e1) (.slice S1 m.snap.state.length s1)).toArray) (Rg.load_row 44 (.tmp 10) rfl g1 q10 44 _ _ (hB1.ext hR) Try.underlying44 rfl (by kernel_rfl)) ⟨rfl, hR, Ext.rfl' _⟩
      refine ⟨Rg.at_run [4, 84] rfl ?_, ?_⟩
      · intro ρ W hR ⟨q4, q84, _⟩
        replace q4 : ρ 4 = .pointer (some ⟨w.heap.size, 0, none⟩) := q4
        replace q84 : ρ 84 = .bool true := q84
        refine ⟨by simp [Rg.wants, q84], ?_⟩
        exact Rg.run_ok (v := .agg (mgcells m (.slice Ae m.ents.length ce) (.slice As m.snap.state.length cs)).toArray) (Rg.load_row 44 (.tmp 4) rfl w.heap.size q4 44 _ _ (hA.ext hR) Try.underlying44 rfl (by kernel_rfl)) ⟨rfl, hR, Ext.rfl' _⟩
      refine ⟨Rg.at_run [85, 86, 84] rfl ?_, ?_⟩
      · intro ρ W hR ⟨q85, q86, q84, _⟩
        replace q85 : ρ 85 = .agg (mgcells m (.slice E1 m.ents.length e1) (.slice S1 m.snap.state.length s1)).toArray := q85
        replace q86 : ρ 86 = .agg (mgcells m (.slice Ae m.ents.length ce) (.slice As m.snap.state.length cs)).toArray := q86
        replace q84 : ρ 84 = .bool true := q84
        refine ⟨by simp [Rg.wants, q84], ?_⟩
        refine Rg.enter_fn (args := #[.agg (mgcells m (.slice E1 m.ents.length e1) (.slice S1 m.snap.state.length s1)).toArray, .agg (mgcells m (.slice Ae m.ents.length ce) (.slice As m.snap.state.length cs)).toArray]) rfl (by simp only [List.map_toArray, List.map_cons, List.map_nil, Rg.ev, q85, q86]) (by kernel_rfl) ?_
        refine (msame_b m m _ _ _ _ W (hT1.ext hR) (hT2.ext hR) (hm1.ext hR) (hm2.ext hR)).mono ?_
        rintro e_ w2 ⟨⟨r, rfl, hr⟩, hxx⟩
        obtain rfl : r = true := hr.2 rfl
        exact ⟨_, rfl, rfl, hR.trans' hxx, hxx⟩
      refine ⟨Rg.at_run [84, 87] rfl ?_, ?_⟩
      · intro ρ W hR ⟨q84, q87, _⟩
        replace q84 : ρ 84 = .bool true := q84
        replace q87 : ρ 87 = .bool true := q87
        refine ⟨rfl, ?_⟩
        exact Rg.run_ok (v := .bool true) (by simp [execOp, Rg.ev, go_sem, q84, q87]) ⟨rfl, hR, Ext.rfl' _⟩
      refine ⟨Rg.at_run [88] rfl ?_, ?_⟩
      · intro ρ W hR ⟨q88, _⟩
        replace q88 : ρ 88 = .bool true := q88
        refine ⟨rfl, ?_⟩
        exact Rg.run_ok (v := .bool true) (by simp [execOp, Rg.ev, go_sem, q88]) ⟨rfl, hR, Ext.rfl' _⟩
      refine ⟨Rg.at_run [13, 89] rfl ?_, ?_⟩
      · intro ρ W hR ⟨q13, q89, _⟩
        replace q13 : ρ 13 = .int .i64 3 := q13
        replace q89 : ρ 89 = .bool true := q89
        refine ⟨by simp [Rg.wants, q89], ?_⟩
        exact Rg.run_ok (v := .int .i64 3) (by simp [execOp, Rg.ev, go_sem, q13]) ⟨rfl, hR, Ext.rfl' _⟩
      refine ⟨Rg.at_run [90, 89] rfl ?_, ?_⟩
      · intro ρ W hR ⟨q90, q89, _⟩
        replace q90 : ρ 90 = .int .i64 3 := q90
        replace q89 : ρ 89 = .bool true := q89
        refine ⟨by simp [Rg.wants, q89], ?_⟩
        exact Rg.run_ok (v := .bool true) (by simp [execOp, Rg.ev, go_sem, q90]) ⟨rfl, hR, Ext.rfl' _⟩
      refine ⟨Rg.at_run [89, 91] rfl ?_, ?_⟩
      · intro ρ W hR ⟨q89, q91, _⟩
        replace q89 : ρ 89 = .bool true := q89
        replace q91 : ρ 91 = .bool true := q91
        refine ⟨rfl, ?_⟩
        exact Rg.run_ok (v := .bool true) (by simp [execOp, Rg.ev, go_sem, q89, q91]) ⟨rfl, hR, Ext.rfl' _⟩
      refine ⟨Rg.at_run [92] rfl ?_, ?_⟩
      · intro ρ W hR ⟨q92, _⟩
        replace q92 : ρ 92 = .bool true := q92
        refine ⟨rfl, ?_⟩
        exact Rg.run_ok (v := .bool true) (by simp [execOp, Rg.ev, go_sem, q92]) ⟨rfl, hR, Ext.rfl' _⟩
      refine ⟨Rg.at_run [15, 93] rfl ?_, ?_⟩
      · intro ρ W hR ⟨q15, q93, _⟩
        replace q15 : ρ 15 = .int .i64 2 := q15
        replace q93 : ρ 93 = .bool true := q93
        refine ⟨by simp [Rg.wants, q93], ?_⟩
        exact Rg.run_ok (v := .int .i64 2) (by simp [execOp, Rg.ev, go_sem, q15]) ⟨rfl, hR, Ext.rfl' _⟩
      refine ⟨Rg.at_run [94, 93] rfl ?_, ?_⟩
      · intro ρ W hR ⟨q94, q93, _⟩
        replace q94 : ρ 94 = .int .i64 2 := q94
        replace q93 : ρ 93 = .bool true := q93
        refine ⟨by simp [Rg.wants, q93], ?_⟩
        exact Rg.run_ok (v := .bool true) (by simp [execOp, Rg.ev, go_sem, q94]) ⟨rfl, hR, Ext.rfl' _⟩
      refine ⟨Rg.at_run [93, 95] rfl ?_, ?_⟩
      · intro ρ W hR ⟨q93, q95, _⟩
        replace q93 : ρ 93 = .bool true := q93
        replace q95 : ρ 95 = .bool true := q95
        refine ⟨rfl, ?_⟩
        exact Rg.run_ok (v := .bool true) (by simp [execOp, Rg.ev, go_sem, q93, q95]) ⟨rfl, hR, Ext.rfl' _⟩
      refine ⟨Rg.at_run [96] rfl ?_, ?_⟩
      · intro ρ W hR ⟨q96, _⟩
        replace q96 : ρ 96 = .bool true := q96
        refine ⟨rfl, ?_⟩
        exact Rg.run_ok (v := .bool true) (by simp [execOp, Rg.ev, go_sem, q96]) ⟨rfl, hR, Ext.rfl' _⟩
      refine ⟨Rg.at_run [17, 97] rfl ?_, ?_⟩
      · intro ρ W hR ⟨q17, q97, _⟩
        replace q17 : ρ 17 = .int .i64 H := q17
        replace q97 : ρ 97 = .bool true := q97
        refine ⟨by simp [Rg.wants, q97], ?_⟩
        exact Rg.run_ok (v := .int .i64 H) (by simp [execOp, Rg.ev, go_sem, q17]) ⟨rfl, hR, Ext.rfl' _⟩
      refine ⟨Rg.at_run [98, 97] rfl ?_, ?_⟩
      · intro ρ W hR ⟨q98, q97, _⟩
        replace q98 : ρ 98 = .int .i64 H := q98
        replace q97 : ρ 97 = .bool true := q97
        refine ⟨by simp [Rg.wants, q97], ?_⟩
        exact Rg.run_ok (v := .bool true) (by simp [execOp, Rg.ev, go_sem, q98, hH]) ⟨rfl, hR, Ext.rfl' _⟩
      refine ⟨Rg.at_run [99, 97] rfl ?_, ?_⟩
      · intro ρ W hR ⟨q99, q97, _⟩
        replace q99 : ρ 99 = .bool true := q99
        replace q97 : ρ 97 = .bool true := q97
        refine ⟨by simp [Rg.wants, q97], ?_⟩
        exact Rg.run_ok (v := .bool true) (by simp [execOp, Rg.ev, go_sem, q99]) ⟨rfl, hR, Ext.rfl' _⟩
      refine ⟨Rg.at_skip [16, 100] rfl (by intro ρ W hR ⟨q16, q100, _⟩; replace q16 : ρ 16 = .pointer (some ⟨g4, 0, none⟩) := q16; replace q100 : ρ 100 = .bool true := q100; exact ⟨by simp [Rg.wants, q100], rfl, Ext.rfl' _⟩), ?_⟩
      refine ⟨Rg.at_skip [101, 100] rfl (by intro ρ W hR ⟨q101, q100, _⟩; replace q101 : ρ 101 = undef := q101; replace q100 : ρ 100 = .bool true := q100; exact ⟨by simp [Rg.wants, q100], rfl, Ext.rfl' _⟩), ?_⟩
      refine ⟨Rg.at_skip [102, 100] rfl (by intro ρ W hR ⟨q102, q100, _⟩; replace q102 : ρ 102 = undef := q102; replace q100 : ρ 100 = .bool true := q100; exact ⟨by simp [Rg.wants, q100], rfl, Ext.rfl' _⟩), ?_⟩
      refine ⟨Rg.at_skip [3, 100] rfl (by intro ρ W hR ⟨q3, q100, _⟩; replace q3 : ρ 3 = .slice A b.length cx := q3; replace q100 : ρ 100 = .bool true := q100; exact ⟨by simp [Rg.wants, q100], rfl, Ext.rfl' _⟩), ?_⟩
      refine ⟨Rg.at_skip [104, 100] rfl (by intro ρ W hR ⟨q104, q100, _⟩; replace q104 : ρ 104 = undef := q104; replace q100 : ρ 100 = .bool true := q100; exact ⟨by simp [Rg.wants, q100], rfl, Ext.rfl' _⟩), ?_⟩
      refine ⟨Rg.at_skip [103, 105, 100] rfl (by intro ρ W hR ⟨q103, q105, q100, _⟩; replace q103 : ρ 103 = undef := q103; replace q105 : ρ 105 = undef := q105; replace q100 : ρ 100 = .bool true := q100; exact ⟨by simp [Rg.wants, q100], rfl, Ext.rfl' _⟩), ?_⟩
      refine ⟨Rg.at_run [100, 106, 97] rfl ?_, ?_⟩
      · intro ρ W hR ⟨q100, q106, q97, _⟩
        replace q100 : ρ 100 = .bool true := q100
        replace q106 : ρ 106 = undef := q106
        replace q97 : ρ 97 = .bool true := q97
        refine ⟨by simp [Rg.wants, q97], ?_⟩
        exact Rg.run_ok (v := .bool true) (by simp [execOp, Rg.ev, go_sem, q100, q106]) ⟨rfl, hR, Ext.rfl' _⟩
      refine ⟨Rg.at_run [97, 107] rfl ?_, ?_⟩
      · intro ρ W hR ⟨q97, q107, _⟩
        replace q97 : ρ 97 = .bool true := q97
        replace q107 : ρ 107 = .bool true := q107
        refine ⟨rfl, ?_⟩
        exact Rg.run_ok (v := .bool true) (by simp [execOp, Rg.ev, go_sem, q97, q107]) ⟨rfl, hR, Ext.rfl' _⟩
      refine ⟨Rg.at_run [108] rfl ?_, ?_⟩
      · intro ρ W hR ⟨q108, _⟩
        replace q108 : ρ 108 = .bool true := q108
        refine ⟨rfl, ?_⟩
        exact Rg.run_ok (v := .bool true) (by simp [execOp, Rg.ev, go_sem, q108]) ⟨rfl, hR, Ext.rfl' _⟩
      trivial
    case en =>
      intro tm W hR hsz hk
      rw [Rg.fin_eq (ds := [82, 83, 84, 85, 86, 87, 88, 89, 90, 91, 92, 93, 94, 95, 96, 97, 98, 99, 100, 101, 102, 103, 104, 105, 106, 107, 108, 8]) rfl rfl rfl hsz hk]
      have k8 : tm.getD 8 undef = .bool true := hk 8
      have k82 : tm.getD 82 undef = .int .i64 0 := hk 82
      have k83 : tm.getD 83 undef = .bool true := hk 83
      have k84 : tm.getD 84 undef = .bool true := hk 84
      have k85 : tm.getD 85 undef = .agg (mgcells m (.slice E1 m.ents.length e1) (.slice S1 m.snap.state.length s1)).toArray := hk 85
      have k86 : tm.getD 86 undef = .agg (mgcells m (.slice Ae m.ents.length ce) (.slice As m.snap.state.length cs)).toArray := hk 86
      have k87 : tm.getD 87 undef = .bool true := hk 87
      have k88 : tm.getD 88 undef = .bool true := hk 88
      have k89 : tm.getD 89 undef = .bool true := hk 89
      have k90 : tm.getD 90 undef = .int .i64 3 := hk 90
      have k91 : tm.getD 91 undef = .bool true := hk 91
      have k92 : tm.getD 92 undef = .bool true := hk 92
      have k93 : tm.getD 93 undef = .bool true := hk 93
      have k94 : tm.getD 94 undef = .int .i64 2 := hk 94
      have k95 : tm.getD 95 undef = .bool true := hk 95
      have k96 : tm.getD 96 undef = .bool true := hk 96
      have k97 : tm.getD 97 undef = .bool true := hk 97
      have k98 : tm.getD 98 undef = .int .i64 H := hk 98
      have k99 : tm.getD 99 undef = .bool true := hk 99
      have k100 : tm.getD 100 undef = .bool true := hk 100
      have k101 : tm.getD 101 undef = undef := hk 101
      have k102 : tm.getD 102 undef = undef := hk 102
      have k103 : tm.getD 103 undef = undef := hk 103
      have k104 : tm.getD 104 undef = undef := hk 104
      have k105 : tm.getD 105 undef = undef := hk 105
      have k106 : tm.getD 106 undef = undef := hk 106
      have k107 : tm.getD 107 undef = .bool true := hk 107
      have k108 : tm.getD 108 undef = .bool true := hk 108
      clear hk hsz
      simp only [Rg.putAll, List.setIfInBounds_toArray, List.set_cons_zero, List.set_cons_succ, k8, k82, k83, k84, k85, k86, k87, k88, k89, k90, k91, k92, k93, k94, k95, k96, k97, k98, k99, k100, k101, k102, k103, k104, k105, k106, k107, k108]
      clear k8
      clear k82
      clear k83
      clear k84
      clear k85
      clear k86
      clear k87
      clear k88
      clear k89
      clear k90
      clear k91
      clear k92
      clear k93
      clear k94
      clear k95
      clear k96
      clear k97
      clear k98
      clear k99
      clear k100
      clear k101
      clear k102
      clear k103
      clear k104
      clear k105
      clear k106
      clear k107
      clear k108
      refine Rg.nil_list ?_
      go_wp2
      go_ret
      exact ⟨rfl, hxw.trans' hR⟩
end Go.Proofs.Ytccpbchcfgggmaa
