/- A part of the proof of 'StateBytes'. -/
import Derived.Test.YtamimdlaclglkaaGreatB26
import Derived.Test.YtamimdlaclglkaaGreatB5
import Derived.Test.YtamimdlaclglkaaGreatB8
import Derived.Deep.DeepCutAuto
namespace Go.Proofs.YtamimdlaclglkaaGreat
set_option linter.unusedVariables false
set_option linter.unusedSimpArgs false
set_option linter.unnecessarySimpa false
set_option maxRecDepth 100000
open Go.RowKit
theorem lnB_eq (b : Bytes) (x : Ln) : b ++ txB x.name ++ txB x.url ++ be 8 x.till.toNat ++ be 1 (if x.made then (1 : Int) else 0).toNat = b ++ lnB x := by
  unfold lnB
  cases x.made <;> simp
set_option maxHeartbeats 12800000 in
theorem stput_b (s : St) (cs : List Value) (w : World) (hs : stE.rep w noneAt cs s) (hp : PutOk s) (hll : s.links.length ≤ 1000) (hsl : s.sess.length ≤ 1000) (hdl : ∀ x ∈ s.sess, x.done.length ≤ 1000) :
    Calls Tryz.prog 19 #[.agg cs.toArray] w fun e w' => RetNw w w' e (stB s) := by
  obtain ⟨vl, vs, rfl, u1, u2, s3, s4⟩ := st_rep.1 hs
  obtain ⟨Al, cl, rfl, -, -⟩ := s3.form
  obtain ⟨As, ca, rfl, -, -⟩ := s4.form
  have hB := Blk.new w 28 (stcells s (.slice Al s.links.length cl) (.slice As s.sess.length ca)).toArray
  have hx0 : Ext w (w.alloc (.cells (stcells s (.slice Al s.links.length cl) (.slice As s.sess.length ca)).toArray 28)) := (Ext.rfl' w).alloc' _
  obtain ⟨g, hg⟩ : ∃ g, w.heap.size = g := ⟨_, rfl⟩
  rw [hg] at hB
  have hpl := hp.len
  rw [stB_len] at hpl
  have HWL : IntKind.u64.wrap (s.links.length : Int) = s.links.length := IntWalk.u64_in _ ⟨by omega, by omega⟩
  have HWS : IntKind.u64.wrap (s.sess.length : Int) = s.sess.length := IntWalk.u64_in _ ⟨by omega, by omega⟩
  go_enter Tryz.func19, Tryz.ntmps19
  go_upto_region 1 with fail
  generalize (w.alloc (.cells (stcells s (.slice Al s.links.length cl) (.slice As s.sess.length ca)).toArray 28)) = w1 at *
  try rw [hg]
  clear hg hs
  refine Rg.regionT Tryz.checked.mixed 97 11 (by kernel_rfl) [
    (fun x_ _ => x_ = .pointer (some ⟨g, 0, none⟩)),
    (fun x_ _ => x_ = .int .u64 s.now),
    (fun v W => Bs W v (be 8 s.now.toNat)),
    (fun x_ _ => x_ = .pointer (some ⟨g, 1, none⟩)),
    (fun x_ _ => x_ = .int .u64 s.count),
    (fun v W => Bs W v (be 8 s.now.toNat ++ be 8 s.count.toNat)),
    (fun x_ _ => x_ = .pointer (some ⟨g, 2, none⟩)),
    (fun x_ _ => x_ = .slice Al s.links.length cl),
    (fun x_ _ => x_ = .int .i64 s.links.length),
    (fun x_ _ => x_ = .int .u64 s.links.length),
    (fun v W => Bs W v (stH s))] (fun W => Ext w1 W) Ext rfl rfl rfl
    ?st ((Ext.rfl' w1).drew') ?ob ?en
  case st => exact ⟨fun _ _ _ h _ => h, fun _ _ _ h _ => h, fun _ _ _ h hx => h.ext hx, fun _ _ _ h _ => h, fun _ _ _ h _ => h, fun _ _ _ h hx => h.ext hx, fun _ _ _ h _ => h, fun _ _ _ h _ => h, fun _ _ _ h _ => h, fun _ _ _ h _ => h, fun _ _ _ h hx => h.ext hx, trivial⟩
  case ob =>
    refine ⟨Rg.at_run [1] rfl ?_, ?_⟩
    · intro ρ W hR ⟨q1, _⟩
      replace q1 : ρ 1 = .pointer (some ⟨g, 0, none⟩) := q1
      refine ⟨rfl, ?_⟩
      exact Rg.run_ok (v := .pointer (some ⟨g, 0, none⟩)) (by simp [execOp, Rg.ev, go_sem, q1]) ⟨rfl, hR, Ext.rfl' _⟩
    refine ⟨Rg.at_run [11] rfl ?_, ?_⟩
    · intro ρ W hR ⟨q11, _⟩
      replace q11 : ρ 11 = .pointer (some ⟨g, 0, none⟩) := q11
      refine ⟨rfl, ?_⟩
      have c0_ : W.cell? ⟨g, 0, none⟩ = some (.int .u64 s.now) := ((hB.ext hR).cell 0).trans rfl
      exact Rg.run_ok (v := .int .u64 s.now) (by simp [execOp, Rg.ev, go_sem, q11, c0_]) ⟨rfl, hR, Ext.rfl' _⟩
    refine ⟨Rg.at_run [12] rfl ?_, ?_⟩
    · intro ρ W hR ⟨q12, _⟩
      replace q12 : ρ 12 = .int .u64 s.now := q12
      refine ⟨rfl, ?_⟩
      have h9 := sPut8 (.slice none 0 0) [] s.now W u1 (by simp) (Bs.nil W)
      rw [List.nil_append] at h9
      refine Rg.run_enter (by simp [execOp, Rg.ev, go_sem, q12]; exact ⟨⟨rfl, rfl⟩, rfl⟩) ?_
      refine (h9).mono ?_
      rintro e w2 ⟨m_, Am, cm, hm_, rfl, hz, hxx⟩
      have hm' := hm_.out
      subst hm'
      exact ⟨_, rfl, hz.bs, hR.trans' hxx, hxx⟩
    refine ⟨Rg.at_run [1] rfl ?_, ?_⟩
    · intro ρ W hR ⟨q1, _⟩
      replace q1 : ρ 1 = .pointer (some ⟨g, 0, none⟩) := q1
      refine ⟨rfl, ?_⟩
      exact Rg.run_ok (v := .pointer (some ⟨g, 1, none⟩)) (by simp [execOp, Rg.ev, go_sem, q1]) ⟨rfl, hR, Ext.rfl' _⟩
    refine ⟨Rg.at_run [14] rfl ?_, ?_⟩
    · intro ρ W hR ⟨q14, _⟩
      replace q14 : ρ 14 = .pointer (some ⟨g, 1, none⟩) := q14
      refine ⟨rfl, ?_⟩
      have c1_ : W.cell? ⟨g, 1, none⟩ = some (.int .u64 s.count) := ((hB.ext hR).cell 1).trans rfl
      exact Rg.run_ok (v := .int .u64 s.count) (by simp [execOp, Rg.ev, go_sem, q14, c1_]) ⟨rfl, hR, Ext.rfl' _⟩
    refine ⟨Rg.at_run [13, 15] rfl ?_, ?_⟩
    · intro ρ W hR ⟨q13, q15, _⟩
      replace q13 : (fun v W => Bs W v (be 8 s.now.toNat)) (ρ 13) W := q13
      replace q15 : ρ 15 = .int .u64 s.count := q15
      refine ⟨rfl, ?_⟩
      refine Rg.run_enter (by simp [execOp, Rg.ev, go_sem, q15]; exact ⟨⟨rfl, rfl⟩, rfl⟩) ?_
      refine (sPut8 _ (be 8 s.now.toNat) s.count W u2 (by simp [be_length]) q13).mono ?_
      rintro e w2 ⟨m_, Am, cm, hm_, rfl, hz, hxx⟩
      have hm' := hm_.out
      subst hm'
      exact ⟨_, rfl, hz.bs, hR.trans' hxx, hxx⟩
    refine ⟨Rg.at_run [1] rfl ?_, ?_⟩
    · intro ρ W hR ⟨q1, _⟩
      replace q1 : ρ 1 = .pointer (some ⟨g, 0, none⟩) := q1
      refine ⟨rfl, ?_⟩
      exact Rg.run_ok (v := .pointer (some ⟨g, 2, none⟩)) (by simp [execOp, Rg.ev, go_sem, q1]) ⟨rfl, hR, Ext.rfl' _⟩
    refine ⟨Rg.at_run [17] rfl ?_, ?_⟩
    · intro ρ W hR ⟨q17, _⟩
      replace q17 : ρ 17 = .pointer (some ⟨g, 2, none⟩) := q17
      refine ⟨rfl, ?_⟩
      have c2_ : W.cell? ⟨g, 2, none⟩ = some (.slice Al s.links.length cl) := ((hB.ext hR).cell 2).trans rfl
      exact Rg.run_ok (v := .slice Al s.links.length cl) (by simp [execOp, Rg.ev, go_sem, q17, c2_]) ⟨rfl, hR, Ext.rfl' _⟩
    refine ⟨Rg.at_run [18] rfl ?_, ?_⟩
    · intro ρ W hR ⟨q18, _⟩
      replace q18 : ρ 18 = .slice Al s.links.length cl := q18
      refine ⟨rfl, ?_⟩
      exact Rg.run_ok (v := .int .i64 s.links.length) (by simp [execOp, Rg.ev, go_sem, q18]) ⟨rfl, hR, Ext.rfl' _⟩
    refine ⟨Rg.at_run [19] rfl ?_, ?_⟩
    · intro ρ W hR ⟨q19, _⟩
      replace q19 : ρ 19 = .int .i64 s.links.length := q19
      refine ⟨rfl, ?_⟩
      exact Rg.run_ok (v := .int .u64 s.links.length) (by simp [execOp, Rg.ev, go_sem, q19, HWL]) ⟨rfl, hR, Ext.rfl' _⟩
    refine ⟨Rg.at_run [16, 20] rfl ?_, ?_⟩
    · intro ρ W hR ⟨q16, q20, _⟩
      replace q16 : (fun v W => Bs W v (be 8 s.now.toNat ++ be 8 s.count.toNat)) (ρ 16) W := q16
      replace q20 : ρ 20 = .int .u64 s.links.length := q20
      refine ⟨rfl, ?_⟩
      refine Rg.run_enter (by simp [execOp, Rg.ev, go_sem, q20]; exact ⟨⟨rfl, rfl⟩, rfl⟩) ?_
      refine (sPut2 _ (be 8 s.now.toNat ++ be 8 s.count.toNat) s.links.length W ⟨by omega, by omega⟩ (by simp [be_length]) q16).mono ?_
      rintro e w2 ⟨m_, Am, cm, hm_, rfl, hz, hxx⟩
      have hm' := hm_.out
      subst hm'
      exact ⟨_, rfl, hz.bs, hR.trans' hxx, hxx⟩
    trivial
  case en =>
    intro tm W hR hsz hk
    rw [Rg.fin_eq (ds := [11, 12, 13, 14, 15, 16, 17, 18, 19, 20, 21]) rfl rfl rfl hsz hk]
    have k11 : tm.getD 11 undef = .pointer (some ⟨g, 0, none⟩) := hk 11
    have k12 : tm.getD 12 undef = .int .u64 s.now := hk 12
    have k13 : (fun v W => Bs W v (be 8 s.now.toNat)) (tm.getD 13 undef) W := hk 13
    have k14 : tm.getD 14 undef = .pointer (some ⟨g, 1, none⟩) := hk 14
    have k15 : tm.getD 15 undef = .int .u64 s.count := hk 15
    have k16 : (fun v W => Bs W v (be 8 s.now.toNat ++ be 8 s.count.toNat)) (tm.getD 16 undef) W := hk 16
    have k17 : tm.getD 17 undef = .pointer (some ⟨g, 2, none⟩) := hk 17
    have k18 : tm.getD 18 undef = .slice Al s.links.length cl := hk 18
    have k19 : tm.getD 19 undef = .int .i64 s.links.length := hk 19
    have k20 : tm.getD 20 undef = .int .u64 s.links.length := hk 20
    have k21 : (fun v W => Bs W v (stH s)) (tm.getD 21 undef) W := hk 21
    clear hk hsz
    simp only [Rg.putAll, List.setIfInBounds_toArray, List.set_cons_zero, List.set_cons_succ, k11, k12, k14, k15, k17, k18, k19, k20]
    clear k11
    clear k12
    generalize tm.getD 13 undef = u13 at *
    clear k14
    clear k15
    generalize tm.getD 16 undef = u16 at *
    clear k17
    clear k18
    clear k19
    clear k20
    generalize tm.getD 21 undef = u21 at *
    clear k13 k16
    obtain ⟨A0, c0, rfl, -, -, -⟩ := id k21
    have hxw := hx0.trans' hR
    have hBW := hB.ext hR
    have b2 := (hBW.cell 2).trans rfl
    go_wp2_with fail
    clear b2
    go_loopw [25, 3] (fun i vb wr => ∃ (m : Nat) (b : Bytes) (A : Option Addr) (c : Nat), m ≤ s.links.length ∧ i = .int .i64 m ∧ vb = .slice A b.length c ∧ Bs wr (.slice A b.length c) b ∧ Hid (b = stH s ++ ((s.links.take m).map lnB).flatten) ∧ Ext w wr ∧ Blk wr g 28 (stcells s (.slice Al s.links.length cl) (.slice As s.sess.length ca)).toArray) (fun i _ _ => (s.links.length - intOf i).toNat)
    case atStart => exact ⟨0, stH s, A0, c0, by omega, rfl, rfl, k21, hide (by simp), hxw, hBW⟩
    case round =>
      clear k21 hBW hB hx0 hR hxw
      obtain ⟨m, b, A, c, hm, rfl, rfl, hb, hbe, hxr, hBr⟩ := hrel
      by_cases hlt : m < s.links.length
      · obtain ⟨ad, x, rfl, hxk, hbk, p0, p1, p2, p3, hxn, hxu, ht⟩ := ln_at (s3.ext hxr) (k := m) hlt
        have hbl : Hid (b.length + (lnB x).length ≤ 100000000000000) := hide (by
          rw [hbe.out, List.length_append]
          have := bflat_mem lnB hxk.out
          simp only [stH, List.length_append, be_length]
          omega)
        have hxl := hbl.out
        rw [lnB_len] at hxl
        have HBE : Hid (b ++ lnB x = stH s ++ ((s.links.take (m + 1)).map lnB).flatten) := hide (by rw [bflat_snoc lnB hxk.out, hbe.out, List.append_assoc])
        have hb1 : (0 : Int) ≤ m := by omega
        have hb2 : (m : Int) < s.links.length := by omega
        have HLT := hide hlt
        clear hlt hbe
        have hE := Blk.new wr 53 (lcells x).toArray
        obtain ⟨g5, hg5⟩ : ∃ g_, wr.heap.size = g_ := ⟨_, rfl⟩
        rw [hg5] at hE
        have hz : Ext wr (wr.alloc (.cells (lcells x).toArray 53)) := (Ext.rfl' _).alloc' _
        go_upto_region 6 with fail
        try rw [hg5]
        clear hg5
        generalize (wr.alloc (.cells (lcells x).toArray 53)) = W4 at *
        replace hb := hb.ext hz
        replace hxr := hxr.trans' hz
        replace hBr := hBr.ext hz
        clear hz p0 p1 p2 p3
        have e3 := (hE.cell 3).trans rfl
        go_upto_if 30 with fail
        go_cut [6] from 26 to 46 (fun v6 wx => ∃ md : Int, v6 = .int .u64 md ∧ Hid (md = if x.made then 1 else 0) ∧ W4 = wx)
        case first =>
          go_wp2_with fail
          all_goals
            go_meet
            case rel => exact ⟨_, rfl, hide (by simp_all), rfl⟩
        case rest =>
        obtain ⟨md, rfl, HMD, rfl⟩ := hcut
        have hmd : 0 ≤ md ∧ md ≤ 18446744073709551615 := by rw [HMD.out]; cases x.made <;> simp
        clear e3
        go_upto_region 8 with fail
        refine Rg.regionT Tryz.checked.mixed 97 9 (by kernel_rfl) [
          (fun x_ _ => x_ = .slice A b.length c),
          (fun x_ _ => x_ = .pointer (some ⟨g5, 0, none⟩)),
          (fun x_ _ => x_ = str x.name),
          (fun v W => Bs W v x.name),
          (fun v W => Bs W v (b ++ txB x.name)),
          (fun x_ _ => x_ = .pointer (some ⟨g5, 1, none⟩)),
          (fun x_ _ => x_ = str x.url),
          (fun v W => Bs W v x.url),
          (fun v W => Bs W v (b ++ txB x.name ++ txB x.url))] (fun W => Ext W4 W) Ext rfl rfl rfl
          ?st ((Ext.rfl' W4).drew') ?ob ?en
        case st => exact ⟨fun _ _ _ h _ => h, fun _ _ _ h _ => h, fun _ _ _ h _ => h, fun _ _ _ h hx => h.ext hx, fun _ _ _ h hx => h.ext hx, fun _ _ _ h _ => h, fun _ _ _ h _ => h, fun _ _ _ h hx => h.ext hx, fun _ _ _ h hx => h.ext hx, trivial⟩
        case ob =>
          refine ⟨Rg.at_run [3] rfl ?_, ?_⟩
          · intro ρ W hR ⟨q3, _⟩
            replace q3 : ρ 3 = .slice A b.length c := q3
            refine ⟨rfl, ?_⟩
            exact Rg.run_ok (v := .slice A b.length c) (by simp [execOp, Rg.ev, go_sem, q3]) ⟨rfl, hR, Ext.rfl' _⟩
          refine ⟨Rg.at_run [5] rfl ?_, ?_⟩
          · intro ρ W hR ⟨q5, _⟩
            replace q5 : ρ 5 = .pointer (some ⟨g5, 0, none⟩) := q5
            refine ⟨rfl, ?_⟩
            exact Rg.run_ok (v := .pointer (some ⟨g5, 0, none⟩)) (by simp [execOp, Rg.ev, go_sem, q5]) ⟨rfl, hR, Ext.rfl' _⟩
          refine ⟨Rg.at_run [32] rfl ?_, ?_⟩
          · intro ρ W hR ⟨q32, _⟩
            replace q32 : ρ 32 = .pointer (some ⟨g5, 0, none⟩) := q32
            refine ⟨rfl, ?_⟩
            have c0_ : W.cell? ⟨g5, 0, none⟩ = some (str x.name) := ((hE.ext hR).cell 0).trans rfl
            exact Rg.run_ok (v := str x.name) (by simp [execOp, Rg.ev, go_sem, q32, c0_]) ⟨rfl, hR, Ext.rfl' _⟩
          refine ⟨Rg.at_run [33] rfl ?_, ?_⟩
          · intro ρ W hR ⟨q33, _⟩
            replace q33 : ρ 33 = str x.name := q33
            refine ⟨rfl, ?_⟩
            obtain ⟨Ac, cc, W2, hrun, hbs, hxx⟩ := conv_bytes W x.name (by omega)
            exact Rg.run_ok (v := .slice Ac (x.name).length cc) (by simp only [execOp, Rg.ev, Sem.run_bind, Sem.run_pure, Result.andThen_ok, q33, hrun]) ⟨hbs, hR.trans' hxx, hxx⟩
          refine ⟨Rg.at_run [31, 34] rfl ?_, ?_⟩
          · intro ρ W hR ⟨q31, q34, _⟩
            replace q31 : ρ 31 = .slice A b.length c := q31
            replace q34 : (fun v W => Bs W v x.name) (ρ 34) W := q34
            refine ⟨rfl, ?_⟩
            refine Rg.run_enter (by simp [execOp, Rg.ev, go_sem, q31]; exact ⟨⟨rfl, rfl⟩, rfl⟩) ?_
            refine (sPutB _ _ b x.name W (by omega) (hb.ext hR) q34).mono ?_
            rintro e w2 ⟨m_, Am, cm, hm_, rfl, hz, hxx⟩
            have hm' := hm_.out
            subst hm'
            exact ⟨_, rfl, hz.bs, hR.trans' hxx, hxx⟩
          refine ⟨Rg.at_run [5] rfl ?_, ?_⟩
          · intro ρ W hR ⟨q5, _⟩
            replace q5 : ρ 5 = .pointer (some ⟨g5, 0, none⟩) := q5
            refine ⟨rfl, ?_⟩
            exact Rg.run_ok (v := .pointer (some ⟨g5, 1, none⟩)) (by simp [execOp, Rg.ev, go_sem, q5]) ⟨rfl, hR, Ext.rfl' _⟩
          refine ⟨Rg.at_run [36] rfl ?_, ?_⟩
          · intro ρ W hR ⟨q36, _⟩
            replace q36 : ρ 36 = .pointer (some ⟨g5, 1, none⟩) := q36
            refine ⟨rfl, ?_⟩
            have c1_ : W.cell? ⟨g5, 1, none⟩ = some (str x.url) := ((hE.ext hR).cell 1).trans rfl
            exact Rg.run_ok (v := str x.url) (by simp [execOp, Rg.ev, go_sem, q36, c1_]) ⟨rfl, hR, Ext.rfl' _⟩
          refine ⟨Rg.at_run [37] rfl ?_, ?_⟩
          · intro ρ W hR ⟨q37, _⟩
            replace q37 : ρ 37 = str x.url := q37
            refine ⟨rfl, ?_⟩
            obtain ⟨Ac, cc, W2, hrun, hbs, hxx⟩ := conv_bytes W x.url (by omega)
            exact Rg.run_ok (v := .slice Ac (x.url).length cc) (by simp only [execOp, Rg.ev, Sem.run_bind, Sem.run_pure, Result.andThen_ok, q37, hrun]) ⟨hbs, hR.trans' hxx, hxx⟩
          refine ⟨Rg.at_run [35, 38] rfl ?_, ?_⟩
          · intro ρ W hR ⟨q35, q38, _⟩
            replace q35 : (fun v W => Bs W v (b ++ txB x.name)) (ρ 35) W := q35
            replace q38 : (fun v W => Bs W v x.url) (ρ 38) W := q38
            refine ⟨rfl, ?_⟩
            refine Rg.run_enter (by simp [execOp, Rg.ev, go_sem]; exact ⟨⟨rfl, rfl⟩, rfl⟩) ?_
            refine (sPutB _ _ (b ++ txB x.name) x.url W (by simp [txB_len]; omega) q35 q38).mono ?_
            rintro e w2 ⟨m_, Am, cm, hm_, rfl, hz, hxx⟩
            have hm' := hm_.out
            subst hm'
            exact ⟨_, rfl, hz.bs, hR.trans' hxx, hxx⟩
          trivial
        case en =>
          intro tm W hR hsz hk
          rw [Rg.fin_eq (ds := [31, 32, 33, 34, 35, 36, 37, 38, 39]) rfl rfl rfl hsz hk]
          have k31 : tm.getD 31 undef = .slice A b.length c := hk 31
          have k32 : tm.getD 32 undef = .pointer (some ⟨g5, 0, none⟩) := hk 32
          have k33 : tm.getD 33 undef = str x.name := hk 33
          have k34 : (fun v W => Bs W v x.name) (tm.getD 34 undef) W := hk 34
          have k35 : (fun v W => Bs W v (b ++ txB x.name)) (tm.getD 35 undef) W := hk 35
          have k36 : tm.getD 36 undef = .pointer (some ⟨g5, 1, none⟩) := hk 36
          have k37 : tm.getD 37 undef = str x.url := hk 37
          have k38 : (fun v W => Bs W v x.url) (tm.getD 38 undef) W := hk 38
          have k39 : (fun v W => Bs W v (b ++ txB x.name ++ txB x.url)) (tm.getD 39 undef) W := hk 39
          clear hk hsz
          simp only [Rg.putAll, List.setIfInBounds_toArray, List.set_cons_zero, List.set_cons_succ, k31, k32, k33, k36, k37]
          clear k31
          clear k32
          clear k33
          generalize tm.getD 34 undef = u34 at *
          generalize tm.getD 35 undef = u35 at *
          clear k36
          clear k37
          generalize tm.getD 38 undef = u38 at *
          generalize tm.getD 39 undef = u39 at *
          clear k34 k35 k38
          obtain ⟨b2, hb2_⟩ : ∃ b2, b ++ txB x.name ++ txB x.url = b2 := ⟨_, rfl⟩
          rw [hb2_] at k39
          obtain ⟨A2, c2, rfl, -, -, -⟩ := id k39
          have hb2 := k39
          have hl2 : b2.length + 9 ≤ 100000000000000 := by rw [← hb2_]; simp only [List.length_append, txB_len]; omega
          have HB2 := hide hb2_
          clear hb2_ k39
          replace hE := hE.ext hR
          replace hxr := hxr.trans' hR
          replace hBr := hBr.ext hR
          clear hb hR
          generalize W = W5 at *
          have e2 := (hE.cell 2).trans rfl
          go_wp2_with fail
          refine (sPut8 (.slice A2 b2.length c2) b2 x.till W5 ht (by omega) hb2).mono ?_
          rintro e w2 ⟨m_, Am, cm, hm_, rfl, hz, hxx⟩
          have hml : m_.length ≤ 100000000000000 := by rw [hm_.out, List.length_append, be_length]; omega
          go_wp2_with fail
          refine (sPut1 (.slice Am m_.length cm) m_ md w2 hmd hml hz.bs).mono ?_
          rintro e w3 ⟨m2_, Am2, cm2, hm_2, rfl, hz2, hxx2⟩
          have HB3 := hm_2
          have hbz := hz2.bs
          go_wp2_with fail
          go_roundw
          case rel => exact ⟨m + 1, m2_, Am2, cm2, by have := HLT.out; omega, by go_num, rfl, hbz, hide (by rw [← HBE.out, HB3.out, hm_.out, ← HB2.out, HMD.out]; exact lnB_eq b x), (hxr.trans' hxx).trans' hxx2, (hBr.ext hxx).ext hxx2⟩
          case measure => have := HLT.out; simp [intOf]; omega
      · obtain rfl : m = s.links.length := by omega
        rw [List.take_length] at hbe
        have hbl : b.length + 2 ≤ 100000000000000 := by rw [hbe.out]; simp only [stH, List.length_append, be_length]; omega
        have b3 := (hBr.cell 3).trans rfl
        go_wp2_with fail
        refine (sPut2 (.slice A b.length c) b s.sess.length wr ⟨by omega, by omega⟩ (by omega) hb).mono ?_
        rintro e w2 ⟨bz, Az, cz, hm_, rfl, hz, hxx⟩
        have HBZ : Hid (bz = stH s ++ (s.links.map lnB).flatten ++ be 2 s.sess.length) := hide (by rw [hm_.out, hbe.out]; simp)
        have hnz := hz.trans hxr
        replace hxr := hxr.trans' hxx
        replace hBr := hBr.ext hxx
        clear b3 hb hbe hm_ hz hbl hxx
        have b3 := (hBr.cell 3).trans rfl
        go_wp2_with fail
        clear b3
        generalize wr = wa at *
        go_loopw [56, 3] (fun i vb wr => ∃ (m : Nat) (b : Bytes) (A : Option Addr) (c : Nat), m ≤ s.sess.length ∧ i = .int .i64 m ∧ vb = .slice A b.length c ∧ Nw w wr (.slice A b.length c) b ∧ Hid (b = bz ++ ((s.sess.take m).map seB).flatten) ∧ Ext w wr) (fun i _ _ => (s.sess.length - intOf i).toNat)
        case atStart => exact ⟨0, bz, Az, cz, by omega, rfl, rfl, hnz, hide (by simp), hxr⟩
        case round =>
          clear hnz hxr hBr
          obtain ⟨m, b, A, c, hm, rfl, rfl, hb, hbe, hxr⟩ := hrel
          by_cases hlt : m < s.sess.length
          · obtain ⟨ad, x, vd, rfl, hxk, hbk, p0, p1, p2, hxc_, hxh, hd⟩ := se_at (s4.ext hxr) (k := m) hlt
            obtain ⟨Ad, cd, rfl, -, -⟩ := hd.form
            have hmem := List.mem_of_getElem? hxk.out
            have hxc := hp.client x hmem
            have hxe := hp.err x hmem
            have hxd := hdl x hmem
            have hbl : Hid (b.length + (seB x).length ≤ 100000000000000) := hide (by
              rw [hbe.out, List.length_append, HBZ.out]
              have := bflat_mem seB hxk.out
              simp only [stH, List.length_append, be_length]
              omega)
            have hxl := hbl.out
            rw [seB_len] at hxl
            have HBE : Hid (b ++ seB x = bz ++ ((s.sess.take (m + 1)).map seB).flatten) := hide (by rw [bflat_snoc seB hxk.out, hbe.out, List.append_assoc])
            have hb1 : (0 : Int) ≤ m := by omega
            have hb2 : (m : Int) < s.sess.length := by omega
            have hci : x.client ≤ 9223372036854775807 := hxc_.2
            have HWC : IntKind.u64.wrap x.client = x.client := IntWalk.u64_in _ ⟨by omega, by omega⟩
            have HWD : IntKind.u64.wrap (x.done.length : Int) = x.done.length := IntWalk.u64_in _ ⟨by omega, by omega⟩
            have HLT := hide hlt
            clear hlt hbe hmem
            have hE := Blk.new wr 56 (secells x (.slice Ad x.done.length cd)).toArray
            obtain ⟨g8, hg8⟩ : ∃ g_, wr.heap.size = g_ := ⟨_, rfl⟩
            rw [hg8] at hE
            have hz : Ext wr (wr.alloc (.cells (secells x (.slice Ad x.done.length cd)).toArray 56)) := (Ext.rfl' _).alloc' _
            go_upto_region 15 with fail
            try rw [hg8]
            clear hg8
            generalize (wr.alloc (.cells (secells x (.slice Ad x.done.length cd)).toArray 56)) = W4 at *
            replace hb := (own_ext hb hz : Nw w W4 _ _)
            replace hxr := hxr.trans' hz
            replace hd := hd.ext hz
            clear hz p0 p1 p2
            refine Rg.regionT Tryz.checked.mixed 97 13 (by kernel_rfl) [
              (fun x_ _ => x_ = .slice A b.length c),
              (fun x_ _ => x_ = .pointer (some ⟨g8, 0, none⟩)),
              (fun x_ _ => x_ = .int .i64 x.client),
              (fun x_ _ => x_ = .int .u64 x.client),
              (fun v W => Bs W v (b ++ be 1 x.client.toNat)),
              (fun x_ _ => x_ = .pointer (some ⟨g8, 1, none⟩)),
              (fun x_ _ => x_ = .int .u64 x.high),
              (fun v W => Bs W v (b ++ be 1 x.client.toNat ++ be 8 x.high.toNat)),
              (fun x_ _ => x_ = .pointer (some ⟨g8, 2, none⟩)),
              (fun x_ _ => x_ = .slice Ad x.done.length cd),
              (fun x_ _ => x_ = .int .i64 x.done.length),
              (fun x_ _ => x_ = .int .u64 x.done.length),
              (fun v W => Nw w W v (b ++ be 1 x.client.toNat ++ be 8 x.high.toNat ++ be 1 x.done.length))] (fun W => Ext W4 W) Ext rfl rfl rfl
              ?st ((Ext.rfl' W4).drew') ?ob ?en
            case st => exact ⟨fun _ _ _ h _ => h, fun _ _ _ h _ => h, fun _ _ _ h _ => h, fun _ _ _ h _ => h, fun _ _ _ h hx => h.ext hx, fun _ _ _ h _ => h, fun _ _ _ h _ => h, fun _ _ _ h hx => h.ext hx, fun _ _ _ h _ => h, fun _ _ _ h _ => h, fun _ _ _ h _ => h, fun _ _ _ h _ => h, fun _ _ _ h hx => own_ext h hx, trivial⟩
            case ob =>
              refine ⟨Rg.at_run [3] rfl ?_, ?_⟩
              · intro ρ W hR ⟨q3, _⟩
                replace q3 : ρ 3 = .slice A b.length c := q3
                refine ⟨rfl, ?_⟩
                exact Rg.run_ok (v := .slice A b.length c) (by simp [execOp, Rg.ev, go_sem, q3]) ⟨rfl, hR, Ext.rfl' _⟩
              refine ⟨Rg.at_run [8] rfl ?_, ?_⟩
              · intro ρ W hR ⟨q8, _⟩
                replace q8 : ρ 8 = .pointer (some ⟨g8, 0, none⟩) := q8
                refine ⟨rfl, ?_⟩
                exact Rg.run_ok (v := .pointer (some ⟨g8, 0, none⟩)) (by simp [execOp, Rg.ev, go_sem, q8]) ⟨rfl, hR, Ext.rfl' _⟩
              refine ⟨Rg.at_run [61] rfl ?_, ?_⟩
              · intro ρ W hR ⟨q61, _⟩
                replace q61 : ρ 61 = .pointer (some ⟨g8, 0, none⟩) := q61
                refine ⟨rfl, ?_⟩
                have c0_ : W.cell? ⟨g8, 0, none⟩ = some (.int .i64 x.client) := ((hE.ext hR).cell 0).trans rfl
                exact Rg.run_ok (v := .int .i64 x.client) (by simp [execOp, Rg.ev, go_sem, q61, c0_]) ⟨rfl, hR, Ext.rfl' _⟩
              refine ⟨Rg.at_run [62] rfl ?_, ?_⟩
              · intro ρ W hR ⟨q62, _⟩
                replace q62 : ρ 62 = .int .i64 x.client := q62
                refine ⟨rfl, ?_⟩
                exact Rg.run_ok (v := .int .u64 x.client) (by simp [execOp, Rg.ev, go_sem, q62, HWC]) ⟨rfl, hR, Ext.rfl' _⟩
              refine ⟨Rg.at_run [60, 63] rfl ?_, ?_⟩
              · intro ρ W hR ⟨q60, q63, _⟩
                replace q60 : ρ 60 = .slice A b.length c := q60
                replace q63 : ρ 63 = .int .u64 x.client := q63
                refine ⟨rfl, ?_⟩
                refine Rg.run_enter (by simp [execOp, Rg.ev, go_sem, q60, q63]; exact ⟨⟨rfl, rfl⟩, rfl⟩) ?_
                refine (sPut1 _ b x.client W ⟨hxc, by omega⟩ (by omega) ((Bs.own hb).ext hR)).mono ?_
                rintro e w2 ⟨m_, Am, cm, hm_, rfl, hz, hxx⟩
                have hm' := hm_.out
                subst hm'
                exact ⟨_, rfl, hz.bs, hR.trans' hxx, hxx⟩
              refine ⟨Rg.at_run [8] rfl ?_, ?_⟩
              · intro ρ W hR ⟨q8, _⟩
                replace q8 : ρ 8 = .pointer (some ⟨g8, 0, none⟩) := q8
                refine ⟨rfl, ?_⟩
                exact Rg.run_ok (v := .pointer (some ⟨g8, 1, none⟩)) (by simp [execOp, Rg.ev, go_sem, q8]) ⟨rfl, hR, Ext.rfl' _⟩
              refine ⟨Rg.at_run [65] rfl ?_, ?_⟩
              · intro ρ W hR ⟨q65, _⟩
                replace q65 : ρ 65 = .pointer (some ⟨g8, 1, none⟩) := q65
                refine ⟨rfl, ?_⟩
                have c1_ : W.cell? ⟨g8, 1, none⟩ = some (.int .u64 x.high) := ((hE.ext hR).cell 1).trans rfl
                exact Rg.run_ok (v := .int .u64 x.high) (by simp [execOp, Rg.ev, go_sem, q65, c1_]) ⟨rfl, hR, Ext.rfl' _⟩
              refine ⟨Rg.at_run [64, 66] rfl ?_, ?_⟩
              · intro ρ W hR ⟨q64, q66, _⟩
                replace q64 : (fun v W => Bs W v (b ++ be 1 x.client.toNat)) (ρ 64) W := q64
                replace q66 : ρ 66 = .int .u64 x.high := q66
                refine ⟨rfl, ?_⟩
                refine Rg.run_enter (by simp [execOp, Rg.ev, go_sem, q66]; exact ⟨⟨rfl, rfl⟩, rfl⟩) ?_
                refine (sPut8 _ (b ++ be 1 x.client.toNat) x.high W hxh (by simp [be_length]; omega) q64).mono ?_
                rintro e w2 ⟨m_, Am, cm, hm_, rfl, hz, hxx⟩
                have hm' := hm_.out
                subst hm'
                exact ⟨_, rfl, hz.bs, hR.trans' hxx, hxx⟩
              refine ⟨Rg.at_run [8] rfl ?_, ?_⟩
              · intro ρ W hR ⟨q8, _⟩
                replace q8 : ρ 8 = .pointer (some ⟨g8, 0, none⟩) := q8
                refine ⟨rfl, ?_⟩
                exact Rg.run_ok (v := .pointer (some ⟨g8, 2, none⟩)) (by simp [execOp, Rg.ev, go_sem, q8]) ⟨rfl, hR, Ext.rfl' _⟩
              refine ⟨Rg.at_run [68] rfl ?_, ?_⟩
              · intro ρ W hR ⟨q68, _⟩
                replace q68 : ρ 68 = .pointer (some ⟨g8, 2, none⟩) := q68
                refine ⟨rfl, ?_⟩
                have c2_ : W.cell? ⟨g8, 2, none⟩ = some (.slice Ad x.done.length cd) := ((hE.ext hR).cell 2).trans rfl
                exact Rg.run_ok (v := .slice Ad x.done.length cd) (by simp [execOp, Rg.ev, go_sem, q68, c2_]) ⟨rfl, hR, Ext.rfl' _⟩
              refine ⟨Rg.at_run [69] rfl ?_, ?_⟩
              · intro ρ W hR ⟨q69, _⟩
                replace q69 : ρ 69 = .slice Ad x.done.length cd := q69
                refine ⟨rfl, ?_⟩
                exact Rg.run_ok (v := .int .i64 x.done.length) (by simp [execOp, Rg.ev, go_sem, q69]) ⟨rfl, hR, Ext.rfl' _⟩
              refine ⟨Rg.at_run [70] rfl ?_, ?_⟩
              · intro ρ W hR ⟨q70, _⟩
                replace q70 : ρ 70 = .int .i64 x.done.length := q70
                refine ⟨rfl, ?_⟩
                exact Rg.run_ok (v := .int .u64 x.done.length) (by simp [execOp, Rg.ev, go_sem, q70, HWD]) ⟨rfl, hR, Ext.rfl' _⟩
              refine ⟨Rg.at_run [67, 71] rfl ?_, ?_⟩
              · intro ρ W hR ⟨q67, q71, _⟩
                replace q67 : (fun v W => Bs W v (b ++ be 1 x.client.toNat ++ be 8 x.high.toNat)) (ρ 67) W := q67
                replace q71 : ρ 71 = .int .u64 x.done.length := q71
                refine ⟨rfl, ?_⟩
                refine Rg.run_enter (by simp [execOp, Rg.ev, go_sem, q71]; exact ⟨⟨rfl, rfl⟩, rfl⟩) ?_
                refine (sPut1 _ (b ++ be 1 x.client.toNat ++ be 8 x.high.toNat) x.done.length W ⟨by omega, by omega⟩ (by simp [be_length]; omega) q67).mono ?_
                rintro e w2 ⟨m_, Am, cm, hm_, rfl, hz, hxx⟩
                have hm' := hm_.out
                subst hm'
                exact ⟨_, rfl, hz.trans (hxr.trans' hR), hR.trans' hxx, hxx⟩
              trivial
            case en =>
              intro tm W hR hsz hk
              rw [Rg.fin_eq (ds := [60, 61, 62, 63, 64, 65, 66, 67, 68, 69, 70, 71, 72]) rfl rfl rfl hsz hk]
              have k60 : tm.getD 60 undef = .slice A b.length c := hk 60
              have k61 : tm.getD 61 undef = .pointer (some ⟨g8, 0, none⟩) := hk 61
              have k62 : tm.getD 62 undef = .int .i64 x.client := hk 62
              have k63 : tm.getD 63 undef = .int .u64 x.client := hk 63
              have k64 : (fun v W => Bs W v (b ++ be 1 x.client.toNat)) (tm.getD 64 undef) W := hk 64
              have k65 : tm.getD 65 undef = .pointer (some ⟨g8, 1, none⟩) := hk 65
              have k66 : tm.getD 66 undef = .int .u64 x.high := hk 66
              have k67 : (fun v W => Bs W v (b ++ be 1 x.client.toNat ++ be 8 x.high.toNat)) (tm.getD 67 undef) W := hk 67
              have k68 : tm.getD 68 undef = .pointer (some ⟨g8, 2, none⟩) := hk 68
              have k69 : tm.getD 69 undef = .slice Ad x.done.length cd := hk 69
              have k70 : tm.getD 70 undef = .int .i64 x.done.length := hk 70
              have k71 : tm.getD 71 undef = .int .u64 x.done.length := hk 71
              have k72 : (fun v W => Nw w W v (b ++ be 1 x.client.toNat ++ be 8 x.high.toNat ++ be 1 x.done.length)) (tm.getD 72 undef) W := hk 72
              clear hk hsz
              simp only [Rg.putAll, List.setIfInBounds_toArray, List.set_cons_zero, List.set_cons_succ, k60, k61, k62, k63, k65, k66, k68, k69, k70, k71]
              clear k60
              clear k61
              clear k62
              clear k63
              generalize tm.getD 64 undef = u64 at *
              clear k65
              clear k66
              generalize tm.getD 67 undef = u67 at *
              clear k68
              clear k69
              clear k70
              clear k71
              generalize tm.getD 72 undef = u72 at *
              clear k64 k67
              obtain ⟨b2, hb2_⟩ : ∃ b2, b ++ be 1 x.client.toNat ++ be 8 x.high.toNat ++ be 1 x.done.length = b2 := ⟨_, rfl⟩
              rw [hb2_] at k72
              have HB2 := hide hb2_
              clear hb2_
              obtain ⟨A2, c2, rfl, -, -⟩ := own_slice (id k72)
              have hER := hE.ext hR
              have e2 := (hER.cell 2).trans rfl
              go_wp2_with fail
              clear e2
              replace hd := hd.ext hR
              replace hxr := hxr.trans' hR
              clear hb hE hER hR
              generalize W = W5 at *
              go_loopw [76, 3] (fun i vb wr => ∃ (q : Nat) (b3 : Bytes) (A : Option Addr) (c : Nat), q ≤ x.done.length ∧ i = .int .i64 q ∧ vb = .slice A b3.length c ∧ Nw w wr (.slice A b3.length c) b3 ∧ Hid (b3 = b2 ++ ((x.done.take q).map dnB).flatten) ∧ Ext w wr ∧ Ext W5 wr) (fun i _ _ => (x.done.length - intOf i).toNat)
              case atStart => exact ⟨0, b2, A2, c2, by omega, rfl, rfl, k72, hide (by simp), hxr, Ext.rfl' _⟩
              case round =>
                clear k72 hxr
                obtain ⟨q, b3, A3, c3, hq, rfl, rfl, hb3, hbe3, hxr, hx5⟩ := hrel
                by_cases hlt : q < x.done.length
                · obtain ⟨ad3, d, rfl, hdk, hbk3, p0, p1, p2, hdq, hde, hdt⟩ := dn_at (hd.ext hx5) (k := q) hlt
                  have hde0 := hxe d (List.mem_of_getElem? hdk.out)
                  have hde1 : d.an.err ≤ 9223372036854775807 := hde.2
                  have HWE : IntKind.u64.wrap d.an.err = d.an.err := IntWalk.u64_in _ ⟨by omega, by omega⟩
                  have hbl3 : Hid (b3.length + (dnB d).length ≤ 100000000000000) := hide (by
                    rw [hbe3.out, List.length_append, ← HB2.out]
                    have := bflat_mem dnB hdk.out
                    simp only [List.length_append, be_length]
                    omega)
                  have hxl3 := hbl3.out
                  rw [dnB_len] at hxl3
                  have HBE3 : Hid (b3 ++ dnB d = b2 ++ ((x.done.take (q + 1)).map dnB).flatten) := hide (by rw [bflat_snoc dnB hdk.out, hbe3.out, List.append_assoc])
                  have hb1 : (0 : Int) ≤ q := by omega
                  have hb2 : (q : Int) < x.done.length := by omega
                  have HLT3 := hide hlt
                  clear hlt hbe3
                  have hE3 := Blk.new wr 68 (dcells d).toArray
                  obtain ⟨g10, hg10⟩ : ∃ g_, wr.heap.size = g_ := ⟨_, rfl⟩
                  rw [hg10] at hE3
                  have hz : Ext wr (wr.alloc (.cells (dcells d).toArray 68)) := (Ext.rfl' _).alloc' _
                  go_upto_region 19 with fail
                  try rw [hg10]
                  clear hg10
                  generalize (wr.alloc (.cells (dcells d).toArray 68)) = W6 at *
                  replace hb3 := (own_ext hb3 hz : Nw w W6 _ _)
                  replace hxr := hxr.trans' hz
                  replace hx5 := hx5.trans' hz
                  clear hz p0 p1 p2
                  refine Rg.regionT Tryz.checked.mixed 97 14 (by kernel_rfl) [
                    (fun x_ _ => x_ = .slice A3 b3.length c3),
                    (fun x_ _ => x_ = .pointer (some ⟨g10, 0, none⟩)),
                    (fun x_ _ => x_ = .int .u64 d.seq),
                    (fun v W => Bs W v (b3 ++ be 8 d.seq.toNat)),
                    (fun x_ _ => x_ = .pointer (some ⟨g10, 1, none⟩)),
                    (fun x_ _ => x_ = .pointer (some ⟨g10, 1, none⟩)),
                    (fun x_ _ => x_ = .int .i64 d.an.err),
                    (fun x_ _ => x_ = .int .u64 d.an.err),
                    (fun v W => Bs W v (b3 ++ be 8 d.seq.toNat ++ be 1 d.an.err.toNat)),
                    (fun x_ _ => x_ = .pointer (some ⟨g10, 1, none⟩)),
                    (fun x_ _ => x_ = .pointer (some ⟨g10, 2, none⟩)),
                    (fun x_ _ => x_ = str d.an.text),
                    (fun v W => Bs W v d.an.text),
                    (fun v W => Nw w W v (b3 ++ be 8 d.seq.toNat ++ be 1 d.an.err.toNat ++ txB d.an.text))] (fun W => Ext W6 W) Ext rfl rfl rfl
                    ?st ((Ext.rfl' W6).drew') ?ob ?en
                  case st => exact ⟨fun _ _ _ h _ => h, fun _ _ _ h _ => h, fun _ _ _ h _ => h, fun _ _ _ h hx => h.ext hx, fun _ _ _ h _ => h, fun _ _ _ h _ => h, fun _ _ _ h _ => h, fun _ _ _ h _ => h, fun _ _ _ h hx => h.ext hx, fun _ _ _ h _ => h, fun _ _ _ h _ => h, fun _ _ _ h _ => h, fun _ _ _ h hx => h.ext hx, fun _ _ _ h hx => own_ext h hx, trivial⟩
                  case ob =>
                    refine ⟨Rg.at_run [3] rfl ?_, ?_⟩
                    · intro ρ W hR ⟨q3, _⟩
                      replace q3 : ρ 3 = .slice A3 b3.length c3 := q3
                      refine ⟨rfl, ?_⟩
                      exact Rg.run_ok (v := .slice A3 b3.length c3) (by simp [execOp, Rg.ev, go_sem, q3]) ⟨rfl, hR, Ext.rfl' _⟩
                    refine ⟨Rg.at_run [10] rfl ?_, ?_⟩
                    · intro ρ W hR ⟨q10, _⟩
                      replace q10 : ρ 10 = .pointer (some ⟨g10, 0, none⟩) := q10
                      refine ⟨rfl, ?_⟩
                      exact Rg.run_ok (v := .pointer (some ⟨g10, 0, none⟩)) (by simp [execOp, Rg.ev, go_sem, q10]) ⟨rfl, hR, Ext.rfl' _⟩
                    refine ⟨Rg.at_run [81] rfl ?_, ?_⟩
                    · intro ρ W hR ⟨q81, _⟩
                      replace q81 : ρ 81 = .pointer (some ⟨g10, 0, none⟩) := q81
                      refine ⟨rfl, ?_⟩
                      have c0_ : W.cell? ⟨g10, 0, none⟩ = some (.int .u64 d.seq) := ((hE3.ext hR).cell 0).trans rfl
                      exact Rg.run_ok (v := .int .u64 d.seq) (by simp [execOp, Rg.ev, go_sem, q81, c0_]) ⟨rfl, hR, Ext.rfl' _⟩
                    refine ⟨Rg.at_run [80, 82] rfl ?_, ?_⟩
                    · intro ρ W hR ⟨q80, q82, _⟩
                      replace q80 : ρ 80 = .slice A3 b3.length c3 := q80
                      replace q82 : ρ 82 = .int .u64 d.seq := q82
                      refine ⟨rfl, ?_⟩
                      refine Rg.run_enter (by simp [execOp, Rg.ev, go_sem, q80, q82]; exact ⟨⟨rfl, rfl⟩, rfl⟩) ?_
                      refine (sPut8 _ b3 d.seq W hdq (by omega) ((Bs.own hb3).ext hR)).mono ?_
                      rintro e w2 ⟨m_, Am, cm, hm_, rfl, hz, hxx⟩
                      have hm' := hm_.out
                      subst hm'
                      exact ⟨_, rfl, hz.bs, hR.trans' hxx, hxx⟩
                    refine ⟨Rg.at_run [10] rfl ?_, ?_⟩
                    · intro ρ W hR ⟨q10, _⟩
                      replace q10 : ρ 10 = .pointer (some ⟨g10, 0, none⟩) := q10
                      refine ⟨rfl, ?_⟩
                      exact Rg.run_ok (v := .pointer (some ⟨g10, 1, none⟩)) (by simp [execOp, Rg.ev, go_sem, q10]) ⟨rfl, hR, Ext.rfl' _⟩
                    refine ⟨Rg.at_run [84] rfl ?_, ?_⟩
                    · intro ρ W hR ⟨q84, _⟩
                      replace q84 : ρ 84 = .pointer (some ⟨g10, 1, none⟩) := q84
                      refine ⟨rfl, ?_⟩
                      exact Rg.run_ok (v := .pointer (some ⟨g10, 1, none⟩)) (by simp [execOp, Rg.ev, go_sem, q84]) ⟨rfl, hR, Ext.rfl' _⟩
                    refine ⟨Rg.at_run [85] rfl ?_, ?_⟩
                    · intro ρ W hR ⟨q85, _⟩
                      replace q85 : ρ 85 = .pointer (some ⟨g10, 1, none⟩) := q85
                      refine ⟨rfl, ?_⟩
                      have c1_ : W.cell? ⟨g10, 1, none⟩ = some (.int .i64 d.an.err) := ((hE3.ext hR).cell 1).trans rfl
                      exact Rg.run_ok (v := .int .i64 d.an.err) (by simp [execOp, Rg.ev, go_sem, q85, c1_]) ⟨rfl, hR, Ext.rfl' _⟩
                    refine ⟨Rg.at_run [86] rfl ?_, ?_⟩
                    · intro ρ W hR ⟨q86, _⟩
                      replace q86 : ρ 86 = .int .i64 d.an.err := q86
                      refine ⟨rfl, ?_⟩
                      exact Rg.run_ok (v := .int .u64 d.an.err) (by simp [execOp, Rg.ev, go_sem, q86, HWE]) ⟨rfl, hR, Ext.rfl' _⟩
                    refine ⟨Rg.at_run [83, 87] rfl ?_, ?_⟩
                    · intro ρ W hR ⟨q83, q87, _⟩
                      replace q83 : (fun v W => Bs W v (b3 ++ be 8 d.seq.toNat)) (ρ 83) W := q83
                      replace q87 : ρ 87 = .int .u64 d.an.err := q87
                      refine ⟨rfl, ?_⟩
                      refine Rg.run_enter (by simp [execOp, Rg.ev, go_sem, q87]; exact ⟨⟨rfl, rfl⟩, rfl⟩) ?_
                      refine (sPut1 _ (b3 ++ be 8 d.seq.toNat) d.an.err W ⟨hde0, by omega⟩ (by simp [be_length]; omega) q83).mono ?_
                      rintro e w2 ⟨m_, Am, cm, hm_, rfl, hz, hxx⟩
                      have hm' := hm_.out
                      subst hm'
                      exact ⟨_, rfl, hz.bs, hR.trans' hxx, hxx⟩
                    refine ⟨Rg.at_run [10] rfl ?_, ?_⟩
                    · intro ρ W hR ⟨q10, _⟩
                      replace q10 : ρ 10 = .pointer (some ⟨g10, 0, none⟩) := q10
                      refine ⟨rfl, ?_⟩
                      exact Rg.run_ok (v := .pointer (some ⟨g10, 1, none⟩)) (by simp [execOp, Rg.ev, go_sem, q10]) ⟨rfl, hR, Ext.rfl' _⟩
                    refine ⟨Rg.at_run [89] rfl ?_, ?_⟩
                    · intro ρ W hR ⟨q89, _⟩
                      replace q89 : ρ 89 = .pointer (some ⟨g10, 1, none⟩) := q89
                      refine ⟨rfl, ?_⟩
                      exact Rg.run_ok (v := .pointer (some ⟨g10, 2, none⟩)) (by simp [execOp, Rg.ev, go_sem, q89]) ⟨rfl, hR, Ext.rfl' _⟩
                    refine ⟨Rg.at_run [90] rfl ?_, ?_⟩
                    · intro ρ W hR ⟨q90, _⟩
                      replace q90 : ρ 90 = .pointer (some ⟨g10, 2, none⟩) := q90
                      refine ⟨rfl, ?_⟩
                      have c2_ : W.cell? ⟨g10, 2, none⟩ = some (str d.an.text) := ((hE3.ext hR).cell 2).trans rfl
                      exact Rg.run_ok (v := str d.an.text) (by simp [execOp, Rg.ev, go_sem, q90, c2_]) ⟨rfl, hR, Ext.rfl' _⟩
                    refine ⟨Rg.at_run [91] rfl ?_, ?_⟩
                    · intro ρ W hR ⟨q91, _⟩
                      replace q91 : ρ 91 = str d.an.text := q91
                      refine ⟨rfl, ?_⟩
                      obtain ⟨Ac, cc, W2, hrun, hbs, hxx⟩ := conv_bytes W d.an.text (by omega)
                      exact Rg.run_ok (v := .slice Ac (d.an.text).length cc) (by simp only [execOp, Rg.ev, Sem.run_bind, Sem.run_pure, Result.andThen_ok, q91, hrun]) ⟨hbs, hR.trans' hxx, hxx⟩
                    refine ⟨Rg.at_run [88, 92] rfl ?_, ?_⟩
                    · intro ρ W hR ⟨q88, q92, _⟩
                      replace q88 : (fun v W => Bs W v (b3 ++ be 8 d.seq.toNat ++ be 1 d.an.err.toNat)) (ρ 88) W := q88
                      replace q92 : (fun v W => Bs W v d.an.text) (ρ 92) W := q92
                      refine ⟨rfl, ?_⟩
                      refine Rg.run_enter (by simp [execOp, Rg.ev, go_sem]; exact ⟨⟨rfl, rfl⟩, rfl⟩) ?_
                      refine (sPutB _ _ (b3 ++ be 8 d.seq.toNat ++ be 1 d.an.err.toNat) d.an.text W (by simp [be_length]; omega) q88 q92).mono ?_
                      rintro e w2 ⟨m_, Am, cm, hm_, rfl, hz, hxx⟩
                      have hm' := hm_.out
                      subst hm'
                      exact ⟨_, rfl, hz.trans (hxr.trans' hR), hR.trans' hxx, hxx⟩
                    trivial
                  case en =>
                    intro tm W hR hsz hk
                    rw [Rg.fin_eq (ds := [80, 81, 82, 83, 84, 85, 86, 87, 88, 89, 90, 91, 92, 93]) rfl rfl rfl hsz hk]
                    have k80 : tm.getD 80 undef = .slice A3 b3.length c3 := hk 80
                    have k81 : tm.getD 81 undef = .pointer (some ⟨g10, 0, none⟩) := hk 81
                    have k82 : tm.getD 82 undef = .int .u64 d.seq := hk 82
                    have k83 : (fun v W => Bs W v (b3 ++ be 8 d.seq.toNat)) (tm.getD 83 undef) W := hk 83
                    have k84 : tm.getD 84 undef = .pointer (some ⟨g10, 1, none⟩) := hk 84
                    have k85 : tm.getD 85 undef = .pointer (some ⟨g10, 1, none⟩) := hk 85
                    have k86 : tm.getD 86 undef = .int .i64 d.an.err := hk 86
                    have k87 : tm.getD 87 undef = .int .u64 d.an.err := hk 87
                    have k88 : (fun v W => Bs W v (b3 ++ be 8 d.seq.toNat ++ be 1 d.an.err.toNat)) (tm.getD 88 undef) W := hk 88
                    have k89 : tm.getD 89 undef = .pointer (some ⟨g10, 1, none⟩) := hk 89
                    have k90 : tm.getD 90 undef = .pointer (some ⟨g10, 2, none⟩) := hk 90
                    have k91 : tm.getD 91 undef = str d.an.text := hk 91
                    have k92 : (fun v W => Bs W v d.an.text) (tm.getD 92 undef) W := hk 92
                    have k93 : (fun v W => Nw w W v (b3 ++ be 8 d.seq.toNat ++ be 1 d.an.err.toNat ++ txB d.an.text)) (tm.getD 93 undef) W := hk 93
                    clear hk hsz
                    simp only [Rg.putAll, List.setIfInBounds_toArray, List.set_cons_zero, List.set_cons_succ, k80, k81, k82, k84, k85, k86, k87, k89, k90, k91]
                    clear k80
                    clear k81
                    clear k82
                    generalize tm.getD 83 undef = u83 at *
                    clear k84
                    clear k85
                    clear k86
                    clear k87
                    generalize tm.getD 88 undef = u88 at *
                    clear k89
                    clear k90
                    clear k91
                    generalize tm.getD 92 undef = u92 at *
                    generalize tm.getD 93 undef = u93 at *
                    clear k83 k88 k92
                    obtain ⟨b4, hb4_⟩ : ∃ b4, b3 ++ be 8 d.seq.toNat ++ be 1 d.an.err.toNat ++ txB d.an.text = b4 := ⟨_, rfl⟩
                    rw [hb4_] at k93
                    have HB4 : Hid (b4 = b2 ++ ((x.done.take (q + 1)).map dnB).flatten) := hide (by rw [← hb4_, ← HBE3.out]; simp [dnB])
                    clear hb4_
                    obtain ⟨A4, c4, rfl, -, -⟩ := own_slice (id k93)
                    go_wp2_with fail
                    go_roundw
                    case rel => exact ⟨q + 1, b4, A4, c4, by have := HLT3.out; omega, by go_num, rfl, k93, HB4, hxr.trans' hR, hx5.trans' hR⟩
                    case measure => have := HLT3.out; simp [intOf]; omega
                · obtain rfl : q = x.done.length := by omega
                  rw [List.take_length] at hbe3
                  have HB4 : Hid (b3 = bz ++ ((s.sess.take (m + 1)).map seB).flatten) := hide (by rw [← HBE.out, hbe3.out, ← HB2.out]; simp [seB, seH])
                  go_wp2_with fail
                  go_roundw
                  case rel => exact ⟨m + 1, b3, A3, c3, by have := HLT.out; omega, by go_num, rfl, hb3, HB4, hxr⟩
                  case measure => have := HLT.out; simp [intOf]; omega
          · obtain rfl : m = s.sess.length := by omega
            rw [List.take_length] at hbe
            have HF : Hid (b = stB s) := hide (by rw [hbe.out, HBZ.out]; rfl)
            go_wp2
            go_ret
            exact ⟨b, A, c, HF, rfl, hb, hxr⟩
end Go.Proofs.YtamimdlaclglkaaGreat
