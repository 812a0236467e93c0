/- LogParts. -/
import Derived.Test.YtlhokicnedkieaaLog8
import Derived.Test.YtlhokicnedkieaaStr
namespace Go.Proofs.Ytlhokicnedkieaa
set_option linter.unusedVariables false
set_option linter.unusedSimpArgs false
set_option linter.unnecessarySimpa false
set_option maxRecDepth 100000
open Go.RowKit
set_option maxHeartbeats 3200000 in
theorem logParts_walk (xa : Value) (a : List Rec) (xb : Value) (b : List Rec) (w : World) (ha : Enc.Sl reE w noneAt xa a) (hb : Enc.Sl reE w noneAt xb b) :
    Calls Try.prog 9 #[xa, xb] w fun e w' => e = .returned (.bool true) ∧ Ext w w' := by
  obtain ⟨Aa, ca, rfl, -, -⟩ := ha.form
  obtain ⟨Ab, cb, rfl, -, -⟩ := hb.form
  have hwa : ∀ r ∈ a, r.wide := Sl.wides ha
  have hwb : ∀ r ∈ b, r.wide := Sl.wides hb
  go_enter Try.func9, Try.ntmps9
  go_wp2_with fail
  refine (begun22_b _).mono ?_
  rintro e W1 ⟨rfl, hx1⟩
  go_wp2_with fail
  refine (light22_b _ a _ (ha.ext hx1)).mono ?_
  rintro e W2 ⟨b1, rfl, hx2, hb1⟩
  cases b1 with
  | false =>
    go_wp2
    go_ret
    exact ⟨rfl, hx1.trans' hx2⟩
  | true =>
    obtain ⟨la1, la2⟩ := hb1 rfl
    clear hb1
    go_wp2_with fail
    refine (light22_b _ b _ (hb.ext (hx1.trans' hx2))).mono ?_
    rintro e W3 ⟨b2, rfl, hx3, hb2⟩
    have hxw := (hx1.trans' hx2).trans' hx3
    cases b2 with
    | false =>
      go_wp2
      go_ret
      exact ⟨rfl, hxw⟩
    | true =>
      obtain ⟨lb1, lb2⟩ := hb2 rfl
      have HA : Hid (∀ r ∈ a, r.wide ∧ r.small) := fun r hr => ⟨hwa r hr, la1 r hr⟩
      have HB : Hid (∀ r ∈ b, r.wide ∧ r.small) := fun r hr => ⟨hwb r hr, lb1 r hr⟩
      clear hb2 hx1 hx2 hx3 la1 lb1 hwa hwb
      have ha3 := ha.ext hxw
      have hb3 := hb.ext hxw
      clear ha hb
      generalize W3 = w3 at *
      have hxe : Ext w3 (w3.alloc (.cells #[] 57)) := (Ext.rfl' w3).alloc' _
      have hown0 := Own.lit0 (w0 := w3) (X := noneAt) 57 reE (Ext.rfl' w3) w3.heap.size rfl (fun h => h)
      go_wp2_with (first
        | (at_builtin; refine wpList_own elt_re 46 Try.underlying46 rfl (.tmp 16) (.tmp 17) rfl hown0 rfl hxe (m := a) (y := .slice Aa a.length ca) rfl (Sl.apart (v := .slice (some ⟨w3.heap.size, 0, none⟩) 0 0) ha3 hxe (fun i hi => Nat.le_of_eq (Option.some.inj hi)) (fun i h => h.elim)) (fun h => h.elim) (by simp only [List.length_nil]; omega) (by simp only [List.length_nil]; omega) ?_; intro l1 A1 c1 w4 hl1 hown1 hx4 hc4; obtain rfl : l1 = a := hl1.out)
        | (at_builtin; refine wpList_own elt_re 46 Try.underlying46 rfl (.tmp 18) (.tmp 19) rfl hown1 rfl hx4 (m := b) (y := .slice Ab b.length cb) rfl (Sl.apart (w0 := w3) hb3 hx4 (fun i hi => (hown1.lt i hi).1) (fun i h => h.elim)) (fun h => h.elim) (by omega) (by omega) ?_; intro l2 A2 c2 w5 hl2 hown2 hx5 hc5))
      have HL2 : Hid (∀ r ∈ l2, r.wide ∧ r.small) := by
        intro r hr
        rw [hl2.out] at hr
        rcases List.mem_append.1 hr with h | h
        · exact HA.out r h
        · exact HB.out r h
      have hl2l : l2.length ≤ 40 := by rw [hl2.out, List.length_append]; omega
      refine (lputs_b _ l2 _ (by omega) (slN hown2.sl) HL2.out).mono ?_
      rintro e W6 ⟨m, Am, cm, hm, rfl, hap, hx6⟩
      have hm' : m = lput l1 ++ lput b := by rw [hm.out, hl2.out, lput_app]
      have ha6 := ha3.ext (hx5.trans' hx6)
      have hb6 := hb3.ext (hx5.trans' hx6)
      have hbm : Bs W6 (.slice Am m.length cm) (lput l1 ++ lput b) := (by rintro _ rfl; exact hap.bs : ∀ l', m = l' → Bs W6 (.slice Am m.length cm) l') _ hm'
      have hpa := lput_len (l := l1) fun r hr => (HA.out r hr).2
      have hpb := lput_len (l := b) fun r hr => (HB.out r hr).2
      have HCAT := hide (run_cat (lput l1) (lput b) (by omega))
      clear hm'
      go_upto_region 6 with fail
      clear hap
      refine Rg.regionT Try.checked.mixed 37 16 (by kernel_rfl) [
        (fun x_ _ => x_ = .slice Am m.length cm),
        (fun x_ _ => x_ = str (lput l1 ++ lput b)),
        (fun x_ _ => x_ = .slice Aa l1.length ca),
        (fun v W => Bs W v (lput l1)),
        (fun x_ _ => x_ = str (lput l1)),
        (fun x_ _ => x_ = .slice Ab b.length cb),
        (fun v W => Bs W v (lput b)),
        (fun x_ _ => x_ = str (lput b)),
        (fun x_ _ => x_ = str (lput l1 ++ lput b)),
        (fun x_ _ => x_ = .bool true),
        (fun x_ _ => x_ = .bool true),
        (fun v W => ∃ A9 c9, v = .slice A9 0 c9),
        (fun x_ _ => x_ = .int .i64 0),
        (fun x_ _ => x_ = .bool true),
        (fun x_ _ => x_ = .bool true),
        (fun x_ _ => x_ = .bool true)] (fun W => Ext W6 W) Ext rfl rfl rfl
        ?st ((Ext.rfl' W6).drew') ?ob ?en
      case st => exact ⟨fun _ _ _ h _ => h, fun _ _ _ h _ => h, fun _ _ _ h _ => h, fun _ _ _ h hx => h.ext hx, fun _ _ _ h _ => h, fun _ _ _ h _ => h, fun _ _ _ h hx => h.ext hx, fun _ _ _ h _ => h, fun _ _ _ h _ => h, fun _ _ _ h _ => h, fun _ _ _ h _ => h, fun _ _ _ h _ => h, fun _ _ _ h _ => h, fun _ _ _ h _ => h, fun _ _ _ h _ => h, fun _ _ _ h _ => h, trivial⟩
      case ob =>
        refine ⟨Rg.at_run [5] rfl ?_, ?_⟩
        · intro ρ W hR ⟨q5, _⟩
          replace q5 : ρ 5 = .slice Am m.length cm := q5
          refine ⟨rfl, ?_⟩
          exact Rg.run_ok (v := .slice Am m.length cm) (by simp [execOp, Rg.ev, go_sem, q5]) ⟨rfl, hR, Ext.rfl' _⟩
        refine ⟨Rg.at_run [22] rfl ?_, ?_⟩
        · intro ρ W hR ⟨q22, _⟩
          replace q22 : ρ 22 = .slice Am m.length cm := q22
          refine ⟨rfl, ?_⟩
          have hs := run_str (P := Try.prog) (hbm.ext hR) Try.underlying22 Try.underlying5 Try.underlying9
          exact Rg.run_ok (v := str (lput l1 ++ lput b)) (by simp only [execOp, Rg.ev, Sem.run_bind, Sem.run_pure, Result.andThen_ok, q22, hs]) ⟨rfl, hR, Ext.rfl' _⟩
        refine ⟨Rg.at_run [0] rfl ?_, ?_⟩
        · intro ρ W hR ⟨q0, _⟩
          replace q0 : ρ 0 = .slice Aa l1.length ca := q0
          refine ⟨rfl, ?_⟩
          exact Rg.run_ok (v := .slice Aa l1.length ca) (by simp [execOp, Rg.ev, go_sem, q0]) ⟨rfl, hR, Ext.rfl' _⟩
        refine ⟨Rg.at_run [24] rfl ?_, ?_⟩
        · intro ρ W hR ⟨q24, _⟩
          replace q24 : ρ 24 = .slice Aa l1.length ca := q24
          refine ⟨rfl, ?_⟩
          refine Rg.run_enter (by simp [execOp, Rg.ev, go_sem, q24]; exact ⟨⟨rfl, rfl⟩, rfl⟩) ?_
          refine (lputs_b _ l1 W (by omega) (ha6.ext hR) HA.out).mono ?_
          rintro e w2 ⟨m9, A9, c9, hm9, rfl, hz, hxx⟩
          have hm' := hm9.out
          subst hm'
          exact ⟨_, rfl, hz.bs, hR.trans' hxx, hxx⟩
        refine ⟨Rg.at_run [25] rfl ?_, ?_⟩
        · intro ρ W hR ⟨q25, _⟩
          replace q25 : (fun v W => Bs W v (lput l1)) (ρ 25) W := q25
          refine ⟨rfl, ?_⟩
          have hb : Bs W (ρ 25) (lput l1) := q25
          have hs := run_str (P := Try.prog) hb Try.underlying22 Try.underlying5 Try.underlying9
          exact Rg.run_ok (v := str (lput l1)) (by simp only [execOp, Rg.ev, Sem.run_bind, Sem.run_pure, Result.andThen_ok, hs]) ⟨rfl, hR, Ext.rfl' _⟩
        refine ⟨Rg.at_run [1] rfl ?_, ?_⟩
        · intro ρ W hR ⟨q1, _⟩
          replace q1 : ρ 1 = .slice Ab b.length cb := q1
          refine ⟨rfl, ?_⟩
          exact Rg.run_ok (v := .slice Ab b.length cb) (by simp [execOp, Rg.ev, go_sem, q1]) ⟨rfl, hR, Ext.rfl' _⟩
        refine ⟨Rg.at_run [27] rfl ?_, ?_⟩
        · intro ρ W hR ⟨q27, _⟩
          replace q27 : ρ 27 = .slice Ab b.length cb := q27
          refine ⟨rfl, ?_⟩
          refine Rg.run_enter (by simp [execOp, Rg.ev, go_sem, q27]; exact ⟨⟨rfl, rfl⟩, rfl⟩) ?_
          refine (lputs_b _ b W (by omega) (hb6.ext hR) HB.out).mono ?_
          rintro e w2 ⟨m9, A9, c9, hm9, rfl, hz, hxx⟩
          have hm' := hm9.out
          subst hm'
          exact ⟨_, rfl, hz.bs, hR.trans' hxx, hxx⟩
        refine ⟨Rg.at_run [28] rfl ?_, ?_⟩
        · intro ρ W hR ⟨q28, _⟩
          replace q28 : (fun v W => Bs W v (lput b)) (ρ 28) W := q28
          refine ⟨rfl, ?_⟩
          have hb : Bs W (ρ 28) (lput b) := q28
          have hs := run_str (P := Try.prog) hb Try.underlying22 Try.underlying5 Try.underlying9
          exact Rg.run_ok (v := str (lput b)) (by simp only [execOp, Rg.ev, Sem.run_bind, Sem.run_pure, Result.andThen_ok, hs]) ⟨rfl, hR, Ext.rfl' _⟩
        refine ⟨Rg.at_run [26, 29] rfl ?_, ?_⟩
        · intro ρ W hR ⟨q26, q29, _⟩
          replace q26 : ρ 26 = str (lput l1) := q26
          replace q29 : ρ 29 = str (lput b) := q29
          refine ⟨rfl, ?_⟩
          have hs := HCAT.out
          exact Rg.run_ok (v := str (lput l1 ++ lput b)) (by simp [execOp, Rg.ev, go_sem, q26, q29, hs]) ⟨rfl, hR, Ext.rfl' _⟩
        refine ⟨Rg.at_run [23, 30] rfl ?_, ?_⟩
        · intro ρ W hR ⟨q23, q30, _⟩
          replace q23 : ρ 23 = str (lput l1 ++ lput b) := q23
          replace q30 : ρ 30 = str (lput l1 ++ lput b) := q30
          refine ⟨rfl, ?_⟩
          exact Rg.run_ok (v := .bool true) (by simp [execOp, Rg.ev, go_sem, q23, q30]) ⟨rfl, hR, Ext.rfl' _⟩
        refine ⟨Rg.at_run [31] rfl ?_, ?_⟩
        · intro ρ W hR ⟨q31, _⟩
          replace q31 : ρ 31 = .bool true := q31
          refine ⟨rfl, ?_⟩
          exact Rg.run_ok (v := .bool true) (by simp [execOp, Rg.ev, go_sem, q31]) ⟨rfl, hR, Ext.rfl' _⟩
        refine ⟨Rg.at_run [32] rfl ?_, ?_⟩
        · intro ρ W hR ⟨q32, _⟩
          replace q32 : ρ 32 = .bool true := q32
          refine ⟨by simp [Rg.wants, q32], ?_⟩
          refine Rg.run_enter (by simp [execOp, Rg.ev, go_sem]; exact ⟨⟨rfl, rfl⟩, rfl⟩) ?_
          refine (lputs_b _ [] W (by simp) (Enc.Sl.nil _ _ _) (by simp)).mono ?_
          rintro e w2 ⟨m9, A9, c9, hm9, rfl, hz, hxx⟩
          have hm' : m9 = [] := hm9.out
          subst hm'
          exact ⟨_, rfl, ⟨A9, c9, rfl⟩, hR.trans' hxx, hxx⟩
        refine ⟨Rg.at_run [33, 32] rfl ?_, ?_⟩
        · intro ρ W hR ⟨q33, q32, _⟩
          replace q33 : (fun v W => ∃ A9 c9, v = .slice A9 0 c9) (ρ 33) W := q33
          replace q32 : ρ 32 = .bool true := q32
          refine ⟨by simp [Rg.wants, q32], ?_⟩
          obtain ⟨A9, c9, e9⟩ := q33
          exact Rg.run_ok (v := .int .i64 0) (by simp [execOp, Rg.ev, go_sem, e9]) ⟨rfl, hR, Ext.rfl' _⟩
        refine ⟨Rg.at_run [34, 32] rfl ?_, ?_⟩
        · intro ρ W hR ⟨q34, q32, _⟩
          replace q34 : ρ 34 = .int .i64 0 := q34
          replace q32 : ρ 32 = .bool true := q32
          refine ⟨by simp [Rg.wants, q32], ?_⟩
          exact Rg.run_ok (v := .bool true) (by simp [execOp, Rg.ev, go_sem, q34]) ⟨rfl, hR, Ext.rfl' _⟩
        refine ⟨Rg.at_run [32, 35] rfl ?_, ?_⟩
        · intro ρ W hR ⟨q32, q35, _⟩
          replace q32 : ρ 32 = .bool true := q32
          replace q35 : ρ 35 = .bool true := q35
          refine ⟨rfl, ?_⟩
          exact Rg.run_ok (v := .bool true) (by simp [execOp, Rg.ev, go_sem, q32, q35]) ⟨rfl, hR, Ext.rfl' _⟩
        refine ⟨Rg.at_run [36] rfl ?_, ?_⟩
        · intro ρ W hR ⟨q36, _⟩
          replace q36 : ρ 36 = .bool true := q36
          refine ⟨rfl, ?_⟩
          exact Rg.run_ok (v := .bool true) (by simp [execOp, Rg.ev, go_sem, q36]) ⟨rfl, hR, Ext.rfl' _⟩
        trivial
      case en =>
        intro tm W hR hsz hk
        rw [Rg.fin_eq (ds := [22, 23, 24, 25, 26, 27, 28, 29, 30, 31, 32, 33, 34, 35, 36, 4]) rfl rfl rfl hsz hk]
        have k4 : tm.getD 4 undef = .bool true := hk 4
        have k22 : tm.getD 22 undef = .slice Am m.length cm := hk 22
        have k23 : tm.getD 23 undef = str (lput l1 ++ lput b) := hk 23
        have k24 : tm.getD 24 undef = .slice Aa l1.length ca := hk 24
        have k25 : (fun v W => Bs W v (lput l1)) (tm.getD 25 undef) W := hk 25
        have k26 : tm.getD 26 undef = str (lput l1) := hk 26
        have k27 : tm.getD 27 undef = .slice Ab b.length cb := hk 27
        have k28 : (fun v W => Bs W v (lput b)) (tm.getD 28 undef) W := hk 28
        have k29 : tm.getD 29 undef = str (lput b) := hk 29
        have k30 : tm.getD 30 undef = str (lput l1 ++ lput b) := hk 30
        have k31 : tm.getD 31 undef = .bool true := hk 31
        have k32 : tm.getD 32 undef = .bool true := hk 32
        have k33 : (fun v W => ∃ A9 c9, v = .slice A9 0 c9) (tm.getD 33 undef) W := hk 33
        have k34 : tm.getD 34 undef = .int .i64 0 := hk 34
        have k35 : tm.getD 35 undef = .bool true := hk 35
        have k36 : tm.getD 36 undef = .bool true := hk 36
        clear hk hsz
        simp only [Rg.putAll, List.setIfInBounds_toArray, List.set_cons_zero, List.set_cons_succ, k4, k22, k23, k24, k26, k27, k29, k30, k31, k32, k34, k35, k36]
        clear k4
        clear k22
        clear k23
        clear k24
        generalize tm.getD 25 undef = u25 at *
        clear k26
        clear k27
        generalize tm.getD 28 undef = u28 at *
        clear k29
        clear k30
        clear k31
        clear k32
        generalize tm.getD 33 undef = u33 at *
        clear k34
        clear k35
        clear k36
        refine Rg.nil_list ?_
        go_wp2
        go_ret
        exact ⟨rfl, (hxw.trans' (hx5.trans' hx6)).trans' hR⟩
end Go.Proofs.Ytlhokicnedkieaa
