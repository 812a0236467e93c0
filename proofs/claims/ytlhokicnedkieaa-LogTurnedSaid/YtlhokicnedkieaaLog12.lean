/- LogCut. -/
import Derived.Test.YtlhokicnedkieaaLog10
import Derived.Test.YtlhokicnedkieaaLog11
namespace Go.Proofs.Ytlhokicnedkieaa
set_option linter.unusedVariables false
set_option linter.unusedSimpArgs false
set_option linter.unnecessarySimpa false
set_option maxRecDepth 100000
open Go.RowKit
set_option maxHeartbeats 6400000 in
theorem logCut_walk (xl : Value) (l : List Rec) (cut : Int) (w : World) (hl : Enc.Sl reE w noneAt xl l) (hc : 0 ≤ cut ∧ cut ≤ 65535) :
    Calls Try.prog 8 #[xl, .int .u16 cut] w fun e w' => e = .returned (.bool true) ∧ Ext w w' := by
  obtain ⟨A, c, rfl, -, -⟩ := hl.form
  have hwl : ∀ r ∈ l, r.wide := Sl.wides hl
  obtain ⟨i0, hi0, hz0, hz1, hz2⟩ := info_parts ti5
  obtain ⟨i9, hi9, hy0, hy1, hy2⟩ := info_parts elt_re.info
  go_enter Try.func8, Try.ntmps8
  go_wp2_with fail
  refine (begun22_b _).mono ?_
  rintro e W1 ⟨rfl, hx1⟩
  go_wp2_with fail
  refine (light22_b _ l _ (hl.ext hx1)).mono ?_
  rintro e W2 ⟨b1, rfl, hx2, hb1⟩
  have hx12 := hx1.trans' hx2
  cases b1 with
  | false =>
    go_wp2
    go_ret
    exact ⟨rfl, hx12⟩
  | true =>
    obtain ⟨la1, la2⟩ := hb1 rfl
    have HA : Hid (∀ r ∈ l, r.wide ∧ r.small) := fun r hr => ⟨hwl r hr, la1 r hr⟩
    clear hb1 la1 hwl
    go_wp2_with fail
    refine (right_b _ l _ (by omega) (hl.ext hx12)).mono ?_
    rintro e W3 ⟨Aw, cw, m1, hm1, rfl, hownw, hx3⟩
    have hx13 := hx12.trans' hx3
    go_wp2_with fail
    refine (lputs_b _ l _ (by omega) (hl.ext hx13) HA.out).mono ?_
    rintro e W4 ⟨b, Ab, cb, hbm, rfl, hap, hx4⟩
    have hpl := lput_len (l := l) fun r hr => (HA.out r hr).2
    rw [← hbm.out] at hpl
    have hbl : b.length ≤ 1700 := by omega
    clear hpl
    have hx14 := hx13.trans' hx4
    go_wp2_with fail
    refine (scan_b _ b _ (by omega) hap.bs).mono ?_
    rintro e W5 ⟨l2, A2, c2, n2, hln, rfl, hown2, hx5⟩
    have hsa : (l2, n2) = (right l, b.length) := by rw [hln.out, hbm.out]; exact scan_all HA.out
    obtain ⟨hl2, rfl⟩ := Prod.mk.inj hsa
    obtain rfl : m1 = l2 := hm1.out.trans hl2.symm
    clear hsa hl2
    go_wp2_with fail
    refine (sameRecords_b _ _ m1 _ (slN hown2.sl) (slN ((hownw.ext hx4).ext hx5).sl)).mono ?_
    rintro e W6 ⟨rfl, hx6⟩
    have hx16 := (hx14.trans' hx5).trans' hx6
    have hb6 := (hap.bs.ext hx5).ext hx6
    have hw6 := slN (((hownw.ext hx4).ext hx5).ext hx6).sl
    obtain ⟨hwc1, hwc2⟩ := hw6.inv.2
    obtain ⟨-, hbc1, hbc2, -⟩ := hb6.inv
    go_upto_region 11 with fail
    obtain ⟨k, hk, hkb⟩ : ∃ k : Nat, cut % ((b.length : Int) + 1) = (k : Nat) ∧ k ≤ b.length := by
      have h1 := Int.emod_nonneg cut (show (b.length : Int) + 1 ≠ 0 by omega)
      have h2 := Int.emod_lt_of_pos cut (show 0 < (b.length : Int) + 1 by omega)
      exact ⟨(cut % ((b.length : Int) + 1)).toNat, by omega, by omega⟩
    rw [hk]
    clear hk
    have hsl := fun W => run_sl_h (P := Try.prog) (A := Ab) (n := b.length) (c := cb) (kh := .i64) Try.underlying22 hi0 hz1 k rfl (by omega) W
    go_wp2_with fail
    refine (scan_b _ (b.take k) _ (by rw [List.length_take]; omega) (hb6.front hkb)).mono ?_
    rintro e W7 ⟨l3, A3, c3, n3, hln3, rfl, hown3, hx7⟩
    obtain ⟨j, hj1, hj2, hj3, hj4, hj5⟩ := scan_cut l k HA.out (by rw [← hbm.out]; exact hkb)
    rw [← hbm.out, ← hln3.out] at hj2 hj3 hj4
    rw [← hbm.out] at hj5
    rw [← hm1.out] at hj1 hj2 hj4 hj5
    simp only at hj2 hj3 hj4
    have hl3 : l3.length = j := by rw [hj2, List.length_take]; omega
    have H3 := hide (show l3 = m1.take l3.length by rw [hl3]; exact hj2)
    have H4 := hide (show lput l3 = b.take n3 by rw [hj2]; exact hj4)
    have H5 := hide (show k = b.length → l3.length = m1.length by rw [hl3]; exact hj5)
    have hle : l3.length ≤ m1.length := by omega
    have hle3 : n3 ≤ k := hj3
    have hm20 : m1.length ≤ 20 := by rw [hm1.out]; exact Nat.le_trans (right_len l) (by omega)
    have HW3 : Hid (∀ r ∈ l3, r.wide ∧ r.small) := by
      intro r hr
      rw [H3.out, hm1.out] at hr
      have h := right_mem HA.out r (List.mem_of_mem_take hr)
      exact ⟨h.2.2.1, h.2.2.2⟩
    clear hj1 hj2 hj3 hj4 hj5 hl3 hsl
    have hb7 := hb6.ext hx7
    have hw7 := hw6.ext hx7
    have hx17 := hx16.trans' hx7
    have hx3s := slN hown3.sl
    have hwf := Sl.front hw7 hle
    have HWF : Hid (Enc.Sl reE W7 noneAt (.slice Aw l3.length cw) l3) := by
      have h := hwf
      unfold Hid
      rw [← H3.out] at h
      exact h
    have hbt := hb7.front (k := n3) (by omega)
    rw [← H4.out] at hbt
    have hlt3 : ¬ (m1.length : Int) < l3.length := by omega
    have hlt4 : ¬ (k : Int) < n3 := by omega
    clear hwf
    go_upto_region 12 with fail
    refine Rg.regionT Try.checked.mixed 89 29 (by kernel_rfl) [
      (fun x_ _ => x_ = .slice A3 l3.length c3),
      (fun x_ _ => x_ = .int .i64 l3.length),
      (fun x_ _ => x_ = .slice Aw m1.length cw),
      (fun x_ _ => x_ = .int .i64 m1.length),
      (fun x_ _ => x_ = .bool false),
      (fun x_ _ => x_ = .bool false),
      (fun x_ _ => x_ = .int .i64 n3),
      (fun x_ _ => x_ = .int .i64 k),
      (fun x_ _ => x_ = .bool false),
      (fun x_ _ => x_ = .bool false),
      (fun x_ _ => x_ = .bool false),
      (fun x_ _ => x_ = .slice A3 l3.length c3),
      (fun x_ _ => x_ = .slice Aw m1.length cw),
      (fun x_ _ => x_ = .slice A3 l3.length c3),
      (fun x_ _ => x_ = .int .i64 l3.length),
      (fun x_ _ => x_ = .slice Aw l3.length cw),
      (fun x_ _ => x_ = .bool true),
      (fun x_ _ => x_ = .bool false),
      (fun x_ _ => x_ = .bool false),
      (fun x_ _ => x_ = .bool false),
      (fun x_ _ => x_ = .slice A3 l3.length c3),
      (fun v W => Bs W v (lput l3)),
      (fun x_ _ => x_ = str (lput l3)),
      (fun x_ _ => x_ = .slice Ab b.length cb),
      (fun x_ _ => x_ = .int .i64 n3),
      (fun x_ _ => x_ = .slice Ab n3 cb),
      (fun x_ _ => x_ = str (lput l3)),
      (fun x_ _ => x_ = .bool false),
      (fun x_ _ => x_ = .bool false)] (fun W => Ext W7 W) Ext rfl rfl rfl
      ?st ((Ext.rfl' W7).drew') ?ob ?en
    case st => exact ⟨fun _ _ _ h _ => h, fun _ _ _ h _ => h, fun _ _ _ h _ => h, fun _ _ _ h _ => h, fun _ _ _ h _ => h, fun _ _ _ h _ => h, fun _ _ _ h _ => h, fun _ _ _ h _ => h, fun _ _ _ h _ => h, fun _ _ _ h _ => h, fun _ _ _ h _ => h, fun _ _ _ h _ => h, fun _ _ _ h _ => h, fun _ _ _ h _ => h, fun _ _ _ h _ => h, fun _ _ _ h _ => h, fun _ _ _ h _ => h, fun _ _ _ h _ => h, fun _ _ _ h _ => h, fun _ _ _ h _ => h, fun _ _ _ h _ => h, fun _ _ _ h hx => h.ext hx, fun _ _ _ h _ => h, fun _ _ _ h _ => h, fun _ _ _ h _ => h, fun _ _ _ h _ => h, fun _ _ _ h _ => h, fun _ _ _ h _ => h, fun _ _ _ h _ => h, trivial⟩
    case ob =>
      refine ⟨Rg.at_run [10] rfl ?_, ?_⟩
      · intro ρ W hR ⟨q10, _⟩
        replace q10 : ρ 10 = .slice A3 l3.length c3 := q10
        refine ⟨rfl, ?_⟩
        exact Rg.run_ok (v := .slice A3 l3.length c3) (by simp [execOp, Rg.ev, go_sem, q10]) ⟨rfl, hR, Ext.rfl' _⟩
      refine ⟨Rg.at_run [49] rfl ?_, ?_⟩
      · intro ρ W hR ⟨q49, _⟩
        replace q49 : ρ 49 = .slice A3 l3.length c3 := q49
        refine ⟨rfl, ?_⟩
        exact Rg.run_ok (v := .int .i64 l3.length) (by simp [execOp, Rg.ev, go_sem, q49]) ⟨rfl, hR, Ext.rfl' _⟩
      refine ⟨Rg.at_run [5] rfl ?_, ?_⟩
      · intro ρ W hR ⟨q5, _⟩
        replace q5 : ρ 5 = .slice Aw m1.length cw := q5
        refine ⟨rfl, ?_⟩
        exact Rg.run_ok (v := .slice Aw m1.length cw) (by simp [execOp, Rg.ev, go_sem, q5]) ⟨rfl, hR, Ext.rfl' _⟩
      refine ⟨Rg.at_run [51] rfl ?_, ?_⟩
      · intro ρ W hR ⟨q51, _⟩
        replace q51 : ρ 51 = .slice Aw m1.length cw := q51
        refine ⟨rfl, ?_⟩
        exact Rg.run_ok (v := .int .i64 m1.length) (by simp [execOp, Rg.ev, go_sem, q51]) ⟨rfl, hR, Ext.rfl' _⟩
      refine ⟨Rg.at_run [50, 52] rfl ?_, ?_⟩
      · intro ρ W hR ⟨q50, q52, _⟩
        replace q50 : ρ 50 = .int .i64 l3.length := q50
        replace q52 : ρ 52 = .int .i64 m1.length := q52
        refine ⟨rfl, ?_⟩
        exact Rg.run_ok (v := .bool false) (by simp [execOp, Rg.ev, go_sem, q50, q52, hle]) ⟨rfl, hR, Ext.rfl' _⟩
      refine ⟨Rg.at_run [53] rfl ?_, ?_⟩
      · intro ρ W hR ⟨q53, _⟩
        replace q53 : ρ 53 = .bool false := q53
        refine ⟨rfl, ?_⟩
        exact Rg.run_ok (v := .bool false) (by simp [execOp, Rg.ev, go_sem, q53]) ⟨rfl, hR, Ext.rfl' _⟩
      refine ⟨Rg.at_run [11, 54] rfl ?_, ?_⟩
      · intro ρ W hR ⟨q11, q54, _⟩
        replace q11 : ρ 11 = .int .i64 n3 := q11
        replace q54 : ρ 54 = .bool false := q54
        refine ⟨by simp [Rg.wants, q54], ?_⟩
        exact Rg.run_ok (v := .int .i64 n3) (by simp [execOp, Rg.ev, go_sem, q11]) ⟨rfl, hR, Ext.rfl' _⟩
      refine ⟨Rg.at_run [9, 54] rfl ?_, ?_⟩
      · intro ρ W hR ⟨q9, q54, _⟩
        replace q9 : ρ 9 = .int .i64 k := q9
        replace q54 : ρ 54 = .bool false := q54
        refine ⟨by simp [Rg.wants, q54], ?_⟩
        exact Rg.run_ok (v := .int .i64 k) (by simp [execOp, Rg.ev, go_sem, q9]) ⟨rfl, hR, Ext.rfl' _⟩
      refine ⟨Rg.at_run [55, 56, 54] rfl ?_, ?_⟩
      · intro ρ W hR ⟨q55, q56, q54, _⟩
        replace q55 : ρ 55 = .int .i64 n3 := q55
        replace q56 : ρ 56 = .int .i64 k := q56
        replace q54 : ρ 54 = .bool false := q54
        refine ⟨by simp [Rg.wants, q54], ?_⟩
        exact Rg.run_ok (v := .bool false) (by simp [execOp, Rg.ev, go_sem, q55, q56, hle3]) ⟨rfl, hR, Ext.rfl' _⟩
      refine ⟨Rg.at_run [54, 57] rfl ?_, ?_⟩
      · intro ρ W hR ⟨q54, q57, _⟩
        replace q54 : ρ 54 = .bool false := q54
        replace q57 : ρ 57 = .bool false := q57
        refine ⟨rfl, ?_⟩
        exact Rg.run_ok (v := .bool false) (by simp [execOp, Rg.ev, go_sem, q54, q57]) ⟨rfl, hR, Ext.rfl' _⟩
      refine ⟨Rg.at_run [58] rfl ?_, ?_⟩
      · intro ρ W hR ⟨q58, _⟩
        replace q58 : ρ 58 = .bool false := q58
        refine ⟨rfl, ?_⟩
        exact Rg.run_ok (v := .bool false) (by simp [execOp, Rg.ev, go_sem, q58]) ⟨rfl, hR, Ext.rfl' _⟩
      refine ⟨Rg.at_run [10, 59] rfl ?_, ?_⟩
      · intro ρ W hR ⟨q10, q59, _⟩
        replace q10 : ρ 10 = .slice A3 l3.length c3 := q10
        replace q59 : ρ 59 = .bool false := q59
        refine ⟨by simp [Rg.wants, q59], ?_⟩
        exact Rg.run_ok (v := .slice A3 l3.length c3) (by simp [execOp, Rg.ev, go_sem, q10]) ⟨rfl, hR, Ext.rfl' _⟩
      refine ⟨Rg.at_run [5, 59] rfl ?_, ?_⟩
      · intro ρ W hR ⟨q5, q59, _⟩
        replace q5 : ρ 5 = .slice Aw m1.length cw := q5
        replace q59 : ρ 59 = .bool false := q59
        refine ⟨by simp [Rg.wants, q59], ?_⟩
        exact Rg.run_ok (v := .slice Aw m1.length cw) (by simp [execOp, Rg.ev, go_sem, q5]) ⟨rfl, hR, Ext.rfl' _⟩
      refine ⟨Rg.at_run [10, 59] rfl ?_, ?_⟩
      · intro ρ W hR ⟨q10, q59, _⟩
        replace q10 : ρ 10 = .slice A3 l3.length c3 := q10
        replace q59 : ρ 59 = .bool false := q59
        refine ⟨by simp [Rg.wants, q59], ?_⟩
        exact Rg.run_ok (v := .slice A3 l3.length c3) (by simp [execOp, Rg.ev, go_sem, q10]) ⟨rfl, hR, Ext.rfl' _⟩
      refine ⟨Rg.at_run [62, 59] rfl ?_, ?_⟩
      · intro ρ W hR ⟨q62, q59, _⟩
        replace q62 : ρ 62 = .slice A3 l3.length c3 := q62
        replace q59 : ρ 59 = .bool false := q59
        refine ⟨by simp [Rg.wants, q59], ?_⟩
        exact Rg.run_ok (v := .int .i64 l3.length) (by simp [execOp, Rg.ev, go_sem, q62]) ⟨rfl, hR, Ext.rfl' _⟩
      refine ⟨Rg.at_run [61, 63, 59] rfl ?_, ?_⟩
      · intro ρ W hR ⟨q61, q63, q59, _⟩
        replace q61 : ρ 61 = .slice Aw m1.length cw := q61
        replace q63 : ρ 63 = .int .i64 l3.length := q63
        replace q59 : ρ 59 = .bool false := q59
        refine ⟨by simp [Rg.wants, q59], ?_⟩
        have hs := run_sl_h (P := Try.prog) (A := Aw) (n := m1.length) (c := cw) (kh := .i64) Try.underlying46 hi9 hy1 l3.length rfl (by omega) W
        exact Rg.run_ok (v := .slice Aw l3.length cw) (by simp [execOp, Rg.ev, go_sem, q61, q63, hs]) ⟨rfl, hR, Ext.rfl' _⟩
      refine ⟨Rg.at_run [60, 64, 59] rfl ?_, ?_⟩
      · intro ρ W hR ⟨q60, q64, q59, _⟩
        replace q60 : ρ 60 = .slice A3 l3.length c3 := q60
        replace q64 : ρ 64 = .slice Aw l3.length cw := q64
        replace q59 : ρ 59 = .bool false := q59
        refine ⟨by simp [Rg.wants, q59], ?_⟩
        refine Rg.run_enter (by simp [execOp, Rg.ev, go_sem, q60, q64]; exact ⟨⟨rfl, rfl⟩, rfl⟩) ?_
        refine (sameRecords_b _ _ l3 W (hx3s.ext hR) (HWF.out.ext hR)).mono ?_
        rintro e_ w2 ⟨rfl, hxx⟩
        exact ⟨_, rfl, rfl, hR.trans' hxx, hxx⟩
      refine ⟨Rg.at_run [65, 59] rfl ?_, ?_⟩
      · intro ρ W hR ⟨q65, q59, _⟩
        replace q65 : ρ 65 = .bool true := q65
        replace q59 : ρ 59 = .bool false := q59
        refine ⟨by simp [Rg.wants, q59], ?_⟩
        exact Rg.run_ok (v := .bool false) (by simp [execOp, Rg.ev, go_sem, q65]) ⟨rfl, hR, Ext.rfl' _⟩
      refine ⟨Rg.at_run [59, 66] rfl ?_, ?_⟩
      · intro ρ W hR ⟨q59, q66, _⟩
        replace q59 : ρ 59 = .bool false := q59
        replace q66 : ρ 66 = .bool false := q66
        refine ⟨rfl, ?_⟩
        exact Rg.run_ok (v := .bool false) (by simp [execOp, Rg.ev, go_sem, q59, q66]) ⟨rfl, hR, Ext.rfl' _⟩
      refine ⟨Rg.at_run [67] rfl ?_, ?_⟩
      · intro ρ W hR ⟨q67, _⟩
        replace q67 : ρ 67 = .bool false := q67
        refine ⟨rfl, ?_⟩
        exact Rg.run_ok (v := .bool false) (by simp [execOp, Rg.ev, go_sem, q67]) ⟨rfl, hR, Ext.rfl' _⟩
      refine ⟨Rg.at_run [10, 68] rfl ?_, ?_⟩
      · intro ρ W hR ⟨q10, q68, _⟩
        replace q10 : ρ 10 = .slice A3 l3.length c3 := q10
        replace q68 : ρ 68 = .bool false := q68
        refine ⟨by simp [Rg.wants, q68], ?_⟩
        exact Rg.run_ok (v := .slice A3 l3.length c3) (by simp [execOp, Rg.ev, go_sem, q10]) ⟨rfl, hR, Ext.rfl' _⟩
      refine ⟨Rg.at_run [69, 68] rfl ?_, ?_⟩
      · intro ρ W hR ⟨q69, q68, _⟩
        replace q69 : ρ 69 = .slice A3 l3.length c3 := q69
        replace q68 : ρ 68 = .bool false := q68
        refine ⟨by simp [Rg.wants, q68], ?_⟩
        refine Rg.run_enter (by simp [execOp, Rg.ev, go_sem, q69]; exact ⟨⟨rfl, rfl⟩, rfl⟩) ?_
        refine (lputs_b _ l3 W (by omega) (hx3s.ext hR) HW3.out).mono ?_
        rintro e w2 ⟨m9, A9, c9, hm9, rfl, hz, hxx⟩
        have hm' := hm9.out
        subst hm'
        exact ⟨_, rfl, hz.bs, hR.trans' hxx, hxx⟩
      refine ⟨Rg.at_run [70, 68] rfl ?_, ?_⟩
      · intro ρ W hR ⟨q70, q68, _⟩
        replace q70 : (fun v W => Bs W v (lput l3)) (ρ 70) W := q70
        replace q68 : ρ 68 = .bool false := q68
        refine ⟨by simp [Rg.wants, q68], ?_⟩
        have hs := run_str (P := Try.prog) q70 Try.underlying22 Try.underlying5 Try.underlying9
        exact Rg.run_ok (v := str (lput l3)) (by simp only [execOp, Rg.ev, Sem.run_bind, Sem.run_pure, Result.andThen_ok, hs]) ⟨rfl, hR, Ext.rfl' _⟩
      refine ⟨Rg.at_run [6, 68] rfl ?_, ?_⟩
      · intro ρ W hR ⟨q6, q68, _⟩
        replace q6 : ρ 6 = .slice Ab b.length cb := q6
        replace q68 : ρ 68 = .bool false := q68
        refine ⟨by simp [Rg.wants, q68], ?_⟩
        exact Rg.run_ok (v := .slice Ab b.length cb) (by simp [execOp, Rg.ev, go_sem, q6]) ⟨rfl, hR, Ext.rfl' _⟩
      refine ⟨Rg.at_run [11, 68] rfl ?_, ?_⟩
      · intro ρ W hR ⟨q11, q68, _⟩
        replace q11 : ρ 11 = .int .i64 n3 := q11
        replace q68 : ρ 68 = .bool false := q68
        refine ⟨by simp [Rg.wants, q68], ?_⟩
        exact Rg.run_ok (v := .int .i64 n3) (by simp [execOp, Rg.ev, go_sem, q11]) ⟨rfl, hR, Ext.rfl' _⟩
      refine ⟨Rg.at_run [72, 73, 68] rfl ?_, ?_⟩
      · intro ρ W hR ⟨q72, q73, q68, _⟩
        replace q72 : ρ 72 = .slice Ab b.length cb := q72
        replace q73 : ρ 73 = .int .i64 n3 := q73
        replace q68 : ρ 68 = .bool false := q68
        refine ⟨by simp [Rg.wants, q68], ?_⟩
        have hs := run_sl_h (P := Try.prog) (A := Ab) (n := b.length) (c := cb) (kh := .i64) Try.underlying22 hi0 hz1 n3 rfl (by omega) W
        exact Rg.run_ok (v := .slice Ab n3 cb) (by simp [execOp, Rg.ev, go_sem, q72, q73, hs]) ⟨rfl, hR, Ext.rfl' _⟩
      refine ⟨Rg.at_run [74, 68] rfl ?_, ?_⟩
      · intro ρ W hR ⟨q74, q68, _⟩
        replace q74 : ρ 74 = .slice Ab n3 cb := q74
        replace q68 : ρ 68 = .bool false := q68
        refine ⟨by simp [Rg.wants, q68], ?_⟩
        have hs := run_str (P := Try.prog) (hbt.ext hR) Try.underlying22 Try.underlying5 Try.underlying9
        exact Rg.run_ok (v := str (lput l3)) (by simp only [execOp, Rg.ev, Sem.run_bind, Sem.run_pure, Result.andThen_ok, q74, hs]) ⟨rfl, hR, Ext.rfl' _⟩
      refine ⟨Rg.at_run [71, 75, 68] rfl ?_, ?_⟩
      · intro ρ W hR ⟨q71, q75, q68, _⟩
        replace q71 : ρ 71 = str (lput l3) := q71
        replace q75 : ρ 75 = str (lput l3) := q75
        replace q68 : ρ 68 = .bool false := q68
        refine ⟨by simp [Rg.wants, q68], ?_⟩
        exact Rg.run_ok (v := .bool false) (by simp [execOp, Rg.ev, go_sem, q71, q75]) ⟨rfl, hR, Ext.rfl' _⟩
      refine ⟨Rg.at_run [68, 76] rfl ?_, ?_⟩
      · intro ρ W hR ⟨q68, q76, _⟩
        replace q68 : ρ 68 = .bool false := q68
        replace q76 : ρ 76 = .bool false := q76
        refine ⟨rfl, ?_⟩
        exact Rg.run_ok (v := .bool false) (by simp [execOp, Rg.ev, go_sem, q68, q76]) ⟨rfl, hR, Ext.rfl' _⟩
      trivial
    case en =>
      intro tm W hR hsz hk
      rw [Rg.fin_eq (ds := [49, 50, 51, 52, 53, 54, 55, 56, 57, 58, 59, 60, 61, 62, 63, 64, 65, 66, 67, 68, 69, 70, 71, 72, 73, 74, 75, 76, 77]) rfl rfl rfl hsz hk]
      have k49 : tm.getD 49 undef = .slice A3 l3.length c3 := hk 49
      have k50 : tm.getD 50 undef = .int .i64 l3.length := hk 50
      have k51 : tm.getD 51 undef = .slice Aw m1.length cw := hk 51
      have k52 : tm.getD 52 undef = .int .i64 m1.length := hk 52
      have k53 : tm.getD 53 undef = .bool false := hk 53
      have k54 : tm.getD 54 undef = .bool false := hk 54
      have k55 : tm.getD 55 undef = .int .i64 n3 := hk 55
      have k56 : tm.getD 56 undef = .int .i64 k := hk 56
      have k57 : tm.getD 57 undef = .bool false := hk 57
      have k58 : tm.getD 58 undef = .bool false := hk 58
      have k59 : tm.getD 59 undef = .bool false := hk 59
      have k60 : tm.getD 60 undef = .slice A3 l3.length c3 := hk 60
      have k61 : tm.getD 61 undef = .slice Aw m1.length cw := hk 61
      have k62 : tm.getD 62 undef = .slice A3 l3.length c3 := hk 62
      have k63 : tm.getD 63 undef = .int .i64 l3.length := hk 63
      have k64 : tm.getD 64 undef = .slice Aw l3.length cw := hk 64
      have k65 : tm.getD 65 undef = .bool true := hk 65
      have k66 : tm.getD 66 undef = .bool false := hk 66
      have k67 : tm.getD 67 undef = .bool false := hk 67
      have k68 : tm.getD 68 undef = .bool false := hk 68
      have k69 : tm.getD 69 undef = .slice A3 l3.length c3 := hk 69
      have k70 : (fun v W => Bs W v (lput l3)) (tm.getD 70 undef) W := hk 70
      have k71 : tm.getD 71 undef = str (lput l3) := hk 71
      have k72 : tm.getD 72 undef = .slice Ab b.length cb := hk 72
      have k73 : tm.getD 73 undef = .int .i64 n3 := hk 73
      have k74 : tm.getD 74 undef = .slice Ab n3 cb := hk 74
      have k75 : tm.getD 75 undef = str (lput l3) := hk 75
      have k76 : tm.getD 76 undef = .bool false := hk 76
      have k77 : tm.getD 77 undef = .bool false := hk 77
      clear hk hsz
      simp only [Rg.putAll, List.setIfInBounds_toArray, List.set_cons_zero, List.set_cons_succ, k49, k50, k51, k52, k53, k54, k55, k56, k57, k58, k59, k60, k61, k62, k63, k64, k65, k66, k67, k68, k69, k71, k72, k73, k74, k75, k76, k77]
      clear k49
      clear k50
      clear k51
      clear k52
      clear k53
      clear k54
      clear k55
      clear k56
      clear k57
      clear k58
      clear k59
      clear k60
      clear k61
      clear k62
      clear k63
      clear k64
      clear k65
      clear k66
      clear k67
      clear k68
      clear k69
      generalize tm.getD 70 undef = u70 at *
      clear k71
      clear k72
      clear k73
      clear k74
      clear k75
      clear k76
      clear k77
      refine Rg.nil_list ?_
      by_cases hkk : (k : Int) < b.length
      · go_wp2
        go_ret
        exact ⟨rfl, hx17.trans' hR⟩
      · have hll : (l3.length : Int) = m1.length := by have := H5.out (by omega); omega
        have hll2 : l3.length = m1.length := by omega
        go_wp2
        go_ret
        exact ⟨rfl, hx17.trans' hR⟩
end Go.Proofs.Ytlhokicnedkieaa
