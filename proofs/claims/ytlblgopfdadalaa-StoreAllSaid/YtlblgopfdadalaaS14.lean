/- A part of the proof of 'StoreAll'. -/
import Derived.Test.YtlblgopfdadalaaS11
namespace Go.Proofs.Ytlblgopfdadalaa
set_option linter.unusedVariables false
set_option linter.unusedSimpArgs false
set_option linter.unnecessarySimpa false
set_option maxRecDepth 100000
open Go.RowKit
theorem oPut8 (x : Value) (l : Bytes) (v : Int) (w : World) (hv : U64 v) (hl : l.length ≤ 1000) (hr : Bs w x l) : Calls Try.prog 38 #[x, .int .u64 v, .int .i64 8] w fun e w' => RetNw w w' e (l ++ be 8 v.toNat) :=
  (put_b x l v 8 w hv (by decide) (by omega) hr).mono fun _ _ h => h.eq (by simp [oput])
theorem oPut1 (x : Value) (l : Bytes) (v : Int) (w : World) (hv : U64 v) (hl : l.length ≤ 1000) (hr : Bs w x l) : Calls Try.prog 38 #[x, .int .u64 v, .int .i64 1] w fun e w' => RetNw w w' e (l ++ be 1 v.toNat) :=
  (put_b x l v 1 w hv (by decide) (by omega) hr).mono fun _ _ h => h.eq (by simp [oput])
theorem lit1 (w : World) (b : UInt8) (g : Nat) (hg : w.heap.size = g) : Bs (w.alloc (.cells #[.int .u8 b.toNat] 5)) (.slice (some ⟨g, 0, none⟩) 1 1) [b] := Bs.lit 5 [b] g hg (by simp [maxLen]) (0, 0)
set_option maxHeartbeats 3200000 in
theorem one_b (r : Rec) (v1 v2 : Value) (w : World) (hm : may r = true) (hw : r.wide) (hd : Bs w v1 r.ent.data) (hs : Bs w v2 r.snap.state) (hl : r.ent.data.length ≤ 1000000 ∧ r.snap.state.length ≤ 1000000) :
    Calls Try.prog 88 #[.agg (recells r v1 v2).toArray] w fun e w' => RetNw w w' e (one r) := by
  obtain ⟨kind, ⟨ht, hv⟩, ⟨et, ed⟩, ix, ⟨si, st, ss⟩⟩ := r
  obtain ⟨-, -, t0, t1, -, -, e0, e1, i0, i1, n0, n1, p0, p1⟩ := hw
  simp only at t0 t1 e0 e1 i0 i1 n0 n1 p0 p1 hd hs hl
  obtain ⟨Ad, cd, rfl, -, -, -⟩ := id hd
  obtain ⟨As, cs, rfl, -, -, -⟩ := id hs
  have hk := may_kind hm
  simp only at hk
  clear hm
  rcases hk with ⟨rfl, u0, u1⟩ | rfl | rfl | rfl
  · have hB := Blk.new w 101 #[.int .i64 1, .int .u64 ht, .int .i64 hv, .int .u64 et, .slice Ad ed.length cd, .int .u64 ix, .int .u64 si, .int .u64 st, .slice As ss.length cs]
    have hx0 : Ext w (w.alloc (.cells #[.int .i64 1, .int .u64 ht, .int .i64 hv, .int .u64 et, .slice Ad ed.length cd, .int .u64 ix, .int .u64 si, .int .u64 st, .slice As ss.length cs] 101)) := (Ext.rfl' w).alloc' _
    obtain ⟨g, hg⟩ : ∃ g, w.heap.size = g := ⟨_, rfl⟩
    rw [hg] at hB
    have hK := lit1 (w.alloc (.cells #[.int .i64 1, .int .u64 ht, .int .i64 hv, .int .u64 et, .slice Ad ed.length cd, .int .u64 ix, .int .u64 si, .int .u64 st, .slice As ss.length cs] 101)) 1 (g + 1) (by simp [hg])
    have hxa := (Ext.rfl' (w.alloc (.cells #[.int .i64 1, .int .u64 ht, .int .i64 hv, .int .u64 et, .slice Ad ed.length cd, .int .u64 ix, .int .u64 si, .int .u64 st, .slice As ss.length cs] 101))).alloc' (.cells #[.int .u8 (1 : UInt8).toNat] 5)
    replace hB := hB.ext hxa
    have hx := hx0.trans' hxa
    go_enter Try.func88, Try.ntmps88
    go_upto_region 4 with fail
    change Code.wp _ _ _ _ ((w.alloc (.cells #[.int .i64 1, .int .u64 ht, .int .i64 hv, .int .u64 et, .slice Ad ed.length cd, .int .u64 ix, .int .u64 si, .int .u64 st, .slice As ss.length cs] 101)).alloc (.cells #[.int .u8 (1 : UInt8).toNat] 5))
    generalize ((w.alloc (.cells #[.int .i64 1, .int .u64 ht, .int .i64 hv, .int .u64 et, .slice Ad ed.length cd, .int .u64 ix, .int .u64 si, .int .u64 st, .slice As ss.length cs] 101)).alloc (.cells #[.int .u8 (1 : UInt8).toNat] 5)) = w3 at *
    clear hxa hx0
    have hwv : IntKind.u64.wrap hv = hv := by rw [IntKind.wrap_u64]; omega
    refine Rg.regionT Try.checked.mixed 54 11 (by kernel_rfl) [
      (fun x_ _ => x_ = .slice (some ⟨g + 1, 0, none⟩) 1 1),
      (fun x_ _ => x_ = .pointer (some ⟨g, 1, none⟩)),
      (fun x_ _ => x_ = .pointer (some ⟨g, 1, none⟩)),
      (fun x_ _ => x_ = .int .u64 ht),
      (fun v W => Bs W v ([1] ++ be 8 ht.toNat)),
      (fun x_ _ => x_ = .pointer (some ⟨g, 1, none⟩)),
      (fun x_ _ => x_ = .pointer (some ⟨g, 2, none⟩)),
      (fun x_ _ => x_ = .int .i64 hv),
      (fun x_ _ => x_ = .int .u64 hv),
      (fun v W => Nw w W v ([1] ++ be 8 ht.toNat ++ be 1 hv.toNat)),
      (fun v W => Nw w W v ([1] ++ be 8 ht.toNat ++ be 1 hv.toNat))] (fun W => Ext w3 W) Ext rfl rfl rfl
      ?st ((Ext.rfl' w3).drew') ?ob ?en
    case st => exact ⟨fun _ _ _ h _ => h, fun _ _ _ h _ => h, fun _ _ _ h _ => h, fun _ _ _ h _ => h, fun _ _ _ h hx => h.ext hx, fun _ _ _ h _ => h, fun _ _ _ h _ => h, fun _ _ _ h _ => h, fun _ _ _ h _ => h, fun _ _ _ h hx => own_ext h hx, fun _ _ _ h hx => own_ext h hx, trivial⟩
    case ob =>
      refine ⟨Rg.at_run [3] rfl ?_, ?_⟩
      · intro ρ W hR ⟨q3, _⟩
        replace q3 : ρ 3 = .slice (some ⟨g + 1, 0, none⟩) 1 1 := q3
        refine ⟨rfl, ?_⟩
        exact Rg.run_ok (v := .slice (some ⟨g + 1, 0, none⟩) 1 1) (by simp [execOp, Rg.ev, go_sem, q3]) ⟨rfl, hR, Ext.rfl' _⟩
      refine ⟨Rg.at_run [1] rfl ?_, ?_⟩
      · intro ρ W hR ⟨q1, _⟩
        replace q1 : ρ 1 = .pointer (some ⟨g, 0, none⟩) := q1
        refine ⟨rfl, ?_⟩
        exact Rg.run_ok (v := .pointer (some ⟨g, 1, none⟩)) (by simp [execOp, Rg.ev, go_sem, q1]) ⟨rfl, hR, Ext.rfl' _⟩
      refine ⟨Rg.at_run [13] rfl ?_, ?_⟩
      · intro ρ W hR ⟨q13, _⟩
        replace q13 : ρ 13 = .pointer (some ⟨g, 1, none⟩) := q13
        refine ⟨rfl, ?_⟩
        exact Rg.run_ok (v := .pointer (some ⟨g, 1, none⟩)) (by simp [execOp, Rg.ev, go_sem, q13]) ⟨rfl, hR, Ext.rfl' _⟩
      refine ⟨Rg.at_run [14] rfl ?_, ?_⟩
      · intro ρ W hR ⟨q14, _⟩
        replace q14 : ρ 14 = .pointer (some ⟨g, 1, none⟩) := q14
        refine ⟨rfl, ?_⟩
        have c1_ : W.cell? ⟨g, 1, none⟩ = some (.int .u64 ht) := ((hB.ext hR).cell 1).trans rfl
        exact Rg.run_ok (v := .int .u64 ht) (by simp [execOp, Rg.ev, go_sem, q14, c1_]) ⟨rfl, hR, Ext.rfl' _⟩
      refine ⟨Rg.at_run [12, 15] rfl ?_, ?_⟩
      · intro ρ W hR ⟨q12, q15, _⟩
        replace q12 : ρ 12 = .slice (some ⟨g + 1, 0, none⟩) 1 1 := q12
        replace q15 : ρ 15 = .int .u64 ht := q15
        refine ⟨rfl, ?_⟩
        refine Rg.run_enter (by simp [execOp, Rg.ev, go_sem, q12, q15]; exact ⟨⟨rfl, rfl⟩, rfl⟩) ?_
        refine (oPut8 _ [1] ht W ⟨t0, t1⟩ (by simp) (hK.ext hR)).mono ?_
        rintro e w2 ⟨m, Am, cm, hm, rfl, hz, hxx⟩
        have hm' := hm.out
        subst hm'
        exact ⟨_, rfl, hz.bs, hR.trans' hxx, hxx⟩
      refine ⟨Rg.at_run [1] rfl ?_, ?_⟩
      · intro ρ W hR ⟨q1, _⟩
        replace q1 : ρ 1 = .pointer (some ⟨g, 0, none⟩) := q1
        refine ⟨rfl, ?_⟩
        exact Rg.run_ok (v := .pointer (some ⟨g, 1, none⟩)) (by simp [execOp, Rg.ev, go_sem, q1]) ⟨rfl, hR, Ext.rfl' _⟩
      refine ⟨Rg.at_run [17] rfl ?_, ?_⟩
      · intro ρ W hR ⟨q17, _⟩
        replace q17 : ρ 17 = .pointer (some ⟨g, 1, none⟩) := q17
        refine ⟨rfl, ?_⟩
        exact Rg.run_ok (v := .pointer (some ⟨g, 2, none⟩)) (by simp [execOp, Rg.ev, go_sem, q17]) ⟨rfl, hR, Ext.rfl' _⟩
      refine ⟨Rg.at_run [18] rfl ?_, ?_⟩
      · intro ρ W hR ⟨q18, _⟩
        replace q18 : ρ 18 = .pointer (some ⟨g, 2, none⟩) := q18
        refine ⟨rfl, ?_⟩
        have c2_ : W.cell? ⟨g, 2, none⟩ = some (.int .i64 hv) := ((hB.ext hR).cell 2).trans rfl
        exact Rg.run_ok (v := .int .i64 hv) (by simp [execOp, Rg.ev, go_sem, q18, c2_]) ⟨rfl, hR, Ext.rfl' _⟩
      refine ⟨Rg.at_run [19] rfl ?_, ?_⟩
      · intro ρ W hR ⟨q19, _⟩
        replace q19 : ρ 19 = .int .i64 hv := q19
        refine ⟨rfl, ?_⟩
        exact Rg.run_ok (v := .int .u64 hv) (by simp [execOp, Rg.ev, go_sem, q19, hwv]) ⟨rfl, hR, Ext.rfl' _⟩
      refine ⟨Rg.at_run [16, 20] rfl ?_, ?_⟩
      · intro ρ W hR ⟨q16, q20, _⟩
        replace q16 : (fun v W => Bs W v ([1] ++ be 8 ht.toNat)) (ρ 16) W := q16
        replace q20 : ρ 20 = .int .u64 hv := q20
        refine ⟨rfl, ?_⟩
        refine Rg.run_enter (by simp [execOp, Rg.ev, go_sem, q20]; exact ⟨⟨rfl, rfl⟩, rfl⟩) ?_
        refine (oPut1 _ _ hv W ⟨by omega, by omega⟩ (by simp [be_length]) q16).mono ?_
        rintro e w2 ⟨m, Am, cm, hm, rfl, hz, hxx⟩
        have hm' := hm.out
        subst hm'
        exact ⟨_, rfl, hz.trans (hx.trans' hR), hR.trans' hxx, hxx⟩
      refine ⟨Rg.at_run [21] rfl ?_, ?_⟩
      · intro ρ W hR ⟨q21, _⟩
        replace q21 : (fun v W => Nw w W v ([1] ++ be 8 ht.toNat ++ be 1 hv.toNat)) (ρ 21) W := q21
        refine ⟨rfl, ?_⟩
        exact Rg.run_ok (by simp [execOp, Rg.ev, go_sem] <;> rfl) ⟨q21, hR, Ext.rfl' _⟩
      trivial
    case en =>
      intro tm W hR hsz hk
      rw [Rg.fin_eq (ds := [12, 13, 14, 15, 16, 17, 18, 19, 20, 21, 2]) rfl rfl rfl hsz hk]
      have k2 : (fun v W => Nw w W v ([1] ++ be 8 ht.toNat ++ be 1 hv.toNat)) (tm.getD 2 undef) W := hk 2
      have k12 : tm.getD 12 undef = .slice (some ⟨g + 1, 0, none⟩) 1 1 := hk 12
      have k13 : tm.getD 13 undef = .pointer (some ⟨g, 1, none⟩) := hk 13
      have k14 : tm.getD 14 undef = .pointer (some ⟨g, 1, none⟩) := hk 14
      have k15 : tm.getD 15 undef = .int .u64 ht := hk 15
      have k16 : (fun v W => Bs W v ([1] ++ be 8 ht.toNat)) (tm.getD 16 undef) W := hk 16
      have k17 : tm.getD 17 undef = .pointer (some ⟨g, 1, none⟩) := hk 17
      have k18 : tm.getD 18 undef = .pointer (some ⟨g, 2, none⟩) := hk 18
      have k19 : tm.getD 19 undef = .int .i64 hv := hk 19
      have k20 : tm.getD 20 undef = .int .u64 hv := hk 20
      have k21 : (fun v W => Nw w W v ([1] ++ be 8 ht.toNat ++ be 1 hv.toNat)) (tm.getD 21 undef) W := hk 21
      clear hk hsz
      simp only [Rg.putAll, List.setIfInBounds_toArray, List.set_cons_zero, List.set_cons_succ, k12, k13, k14, k15, k17, k18, k19, k20]
      generalize tm.getD 2 undef = u2 at *
      clear k12
      clear k13
      clear k14
      clear k15
      generalize tm.getD 16 undef = u16 at *
      clear k17
      clear k18
      clear k19
      clear k20
      generalize tm.getD 21 undef = u21 at *
      refine Rg.nil_list ?_
      go_wp2
      go_ret
      exact (RetNw.mk k2 (hx.trans' hR)).eq (by simp [one])
  · have hB := Blk.new w 101 #[.int .i64 2, .int .u64 ht, .int .i64 hv, .int .u64 et, .slice Ad ed.length cd, .int .u64 ix, .int .u64 si, .int .u64 st, .slice As ss.length cs]
    have hx0 : Ext w (w.alloc (.cells #[.int .i64 2, .int .u64 ht, .int .i64 hv, .int .u64 et, .slice Ad ed.length cd, .int .u64 ix, .int .u64 si, .int .u64 st, .slice As ss.length cs] 101)) := (Ext.rfl' w).alloc' _
    obtain ⟨g, hg⟩ : ∃ g, w.heap.size = g := ⟨_, rfl⟩
    rw [hg] at hB
    have hK := lit1 (w.alloc (.cells #[.int .i64 2, .int .u64 ht, .int .i64 hv, .int .u64 et, .slice Ad ed.length cd, .int .u64 ix, .int .u64 si, .int .u64 st, .slice As ss.length cs] 101)) 2 (g + 1) (by simp [hg])
    have hxa := (Ext.rfl' (w.alloc (.cells #[.int .i64 2, .int .u64 ht, .int .i64 hv, .int .u64 et, .slice Ad ed.length cd, .int .u64 ix, .int .u64 si, .int .u64 st, .slice As ss.length cs] 101))).alloc' (.cells #[.int .u8 (2 : UInt8).toNat] 5)
    replace hB := hB.ext hxa
    have hx := hx0.trans' hxa
    go_enter Try.func88, Try.ntmps88
    go_upto_region 6 with fail
    change Code.wp _ _ _ _ ((w.alloc (.cells #[.int .i64 2, .int .u64 ht, .int .i64 hv, .int .u64 et, .slice Ad ed.length cd, .int .u64 ix, .int .u64 si, .int .u64 st, .slice As ss.length cs] 101)).alloc (.cells #[.int .u8 (2 : UInt8).toNat] 5))
    generalize ((w.alloc (.cells #[.int .i64 2, .int .u64 ht, .int .i64 hv, .int .u64 et, .slice Ad ed.length cd, .int .u64 ix, .int .u64 si, .int .u64 st, .slice As ss.length cs] 101)).alloc (.cells #[.int .u8 (2 : UInt8).toNat] 5)) = w3 at *
    clear hxa hx0
    refine Rg.regionT Try.checked.mixed 54 8 (by kernel_rfl) [
      (fun x_ _ => x_ = .slice (some ⟨g + 1, 0, none⟩) 1 1),
      (fun x_ _ => x_ = .pointer (some ⟨g, 3, none⟩)),
      (fun x_ _ => x_ = .pointer (some ⟨g, 3, none⟩)),
      (fun x_ _ => x_ = .int .u64 et),
      (fun v W => Bs W v ([2] ++ be 8 et.toNat)),
      (fun x_ _ => x_ = .pointer (some ⟨g, 3, none⟩)),
      (fun x_ _ => x_ = .pointer (some ⟨g, 4, none⟩)),
      (fun x_ _ => x_ = .slice Ad ed.length cd)] (fun W => Ext w3 W) Ext rfl rfl rfl
      ?st ((Ext.rfl' w3).drew') ?ob ?en
    case st => exact ⟨fun _ _ _ h _ => h, fun _ _ _ h _ => h, fun _ _ _ h _ => h, fun _ _ _ h _ => h, fun _ _ _ h hx => h.ext hx, fun _ _ _ h _ => h, fun _ _ _ h _ => h, fun _ _ _ h _ => h, trivial⟩
    case ob =>
      refine ⟨Rg.at_run [3] rfl ?_, ?_⟩
      · intro ρ W hR ⟨q3, _⟩
        replace q3 : ρ 3 = .slice (some ⟨g + 1, 0, none⟩) 1 1 := q3
        refine ⟨rfl, ?_⟩
        exact Rg.run_ok (v := .slice (some ⟨g + 1, 0, none⟩) 1 1) (by simp [execOp, Rg.ev, go_sem, q3]) ⟨rfl, hR, Ext.rfl' _⟩
      refine ⟨Rg.at_run [1] rfl ?_, ?_⟩
      · intro ρ W hR ⟨q1, _⟩
        replace q1 : ρ 1 = .pointer (some ⟨g, 0, none⟩) := q1
        refine ⟨rfl, ?_⟩
        exact Rg.run_ok (v := .pointer (some ⟨g, 3, none⟩)) (by simp [execOp, Rg.ev, go_sem, q1]) ⟨rfl, hR, Ext.rfl' _⟩
      refine ⟨Rg.at_run [25] rfl ?_, ?_⟩
      · intro ρ W hR ⟨q25, _⟩
        replace q25 : ρ 25 = .pointer (some ⟨g, 3, none⟩) := q25
        refine ⟨rfl, ?_⟩
        exact Rg.run_ok (v := .pointer (some ⟨g, 3, none⟩)) (by simp [execOp, Rg.ev, go_sem, q25]) ⟨rfl, hR, Ext.rfl' _⟩
      refine ⟨Rg.at_run [26] rfl ?_, ?_⟩
      · intro ρ W hR ⟨q26, _⟩
        replace q26 : ρ 26 = .pointer (some ⟨g, 3, none⟩) := q26
        refine ⟨rfl, ?_⟩
        have c3_ : W.cell? ⟨g, 3, none⟩ = some (.int .u64 et) := ((hB.ext hR).cell 3).trans rfl
        exact Rg.run_ok (v := .int .u64 et) (by simp [execOp, Rg.ev, go_sem, q26, c3_]) ⟨rfl, hR, Ext.rfl' _⟩
      refine ⟨Rg.at_run [24, 27] rfl ?_, ?_⟩
      · intro ρ W hR ⟨q24, q27, _⟩
        replace q24 : ρ 24 = .slice (some ⟨g + 1, 0, none⟩) 1 1 := q24
        replace q27 : ρ 27 = .int .u64 et := q27
        refine ⟨rfl, ?_⟩
        refine Rg.run_enter (by simp [execOp, Rg.ev, go_sem, q24, q27]; exact ⟨⟨rfl, rfl⟩, rfl⟩) ?_
        refine (oPut8 _ [2] et W ⟨e0, e1⟩ (by simp) (hK.ext hR)).mono ?_
        rintro e w2 ⟨m, Am, cm, hm, rfl, hz, hxx⟩
        have hm' := hm.out
        subst hm'
        exact ⟨_, rfl, hz.bs, hR.trans' hxx, hxx⟩
      refine ⟨Rg.at_run [1] rfl ?_, ?_⟩
      · intro ρ W hR ⟨q1, _⟩
        replace q1 : ρ 1 = .pointer (some ⟨g, 0, none⟩) := q1
        refine ⟨rfl, ?_⟩
        exact Rg.run_ok (v := .pointer (some ⟨g, 3, none⟩)) (by simp [execOp, Rg.ev, go_sem, q1]) ⟨rfl, hR, Ext.rfl' _⟩
      refine ⟨Rg.at_run [29] rfl ?_, ?_⟩
      · intro ρ W hR ⟨q29, _⟩
        replace q29 : ρ 29 = .pointer (some ⟨g, 3, none⟩) := q29
        refine ⟨rfl, ?_⟩
        exact Rg.run_ok (v := .pointer (some ⟨g, 4, none⟩)) (by simp [execOp, Rg.ev, go_sem, q29]) ⟨rfl, hR, Ext.rfl' _⟩
      refine ⟨Rg.at_run [30] rfl ?_, ?_⟩
      · intro ρ W hR ⟨q30, _⟩
        replace q30 : ρ 30 = .pointer (some ⟨g, 4, none⟩) := q30
        refine ⟨rfl, ?_⟩
        have c4_ : W.cell? ⟨g, 4, none⟩ = some (.slice Ad ed.length cd) := ((hB.ext hR).cell 4).trans rfl
        exact Rg.run_ok (v := .slice Ad ed.length cd) (by simp [execOp, Rg.ev, go_sem, q30, c4_]) ⟨rfl, hR, Ext.rfl' _⟩
      trivial
    case en =>
      intro tm W hR hsz hk
      rw [Rg.fin_eq (ds := [24, 25, 26, 27, 28, 29, 30, 31]) rfl rfl rfl hsz hk]
      have k24 : tm.getD 24 undef = .slice (some ⟨g + 1, 0, none⟩) 1 1 := hk 24
      have k25 : tm.getD 25 undef = .pointer (some ⟨g, 3, none⟩) := hk 25
      have k26 : tm.getD 26 undef = .pointer (some ⟨g, 3, none⟩) := hk 26
      have k27 : tm.getD 27 undef = .int .u64 et := hk 27
      have k28 : (fun v W => Bs W v ([2] ++ be 8 et.toNat)) (tm.getD 28 undef) W := hk 28
      have k29 : tm.getD 29 undef = .pointer (some ⟨g, 3, none⟩) := hk 29
      have k30 : tm.getD 30 undef = .pointer (some ⟨g, 4, none⟩) := hk 30
      have k31 : tm.getD 31 undef = .slice Ad ed.length cd := hk 31
      clear hk hsz
      simp only [Rg.putAll, List.setIfInBounds_toArray, List.set_cons_zero, List.set_cons_succ, k24, k25, k26, k27, k29, k30, k31]
      clear k24
      clear k25
      clear k26
      clear k27
      generalize tm.getD 28 undef = u28 at *
      clear k29
      clear k30
      clear k31
      obtain ⟨A5, c5, hv5, -, -, -⟩ := id k28
      subst hv5
      go_wp2_with fail
      refine (cat2_b _ _ _ _ _ _ rfl (by simp [be_length]; omega) k28 (hd.ext (hx.trans' hR))).mono ?_
      rintro e w4 ⟨m4, A4, c4, hm4, rfl, hz4, hx4⟩
      go_wp2
      go_ret
      exact ⟨m4, A4, c4, hide (by rw [hm4.out]; simp [one]), rfl, hz4.trans (hx.trans' hR), (hx.trans' hR).trans' hx4⟩
  · have hB := Blk.new w 101 #[.int .i64 3, .int .u64 ht, .int .i64 hv, .int .u64 et, .slice Ad ed.length cd, .int .u64 ix, .int .u64 si, .int .u64 st, .slice As ss.length cs]
    have hx0 : Ext w (w.alloc (.cells #[.int .i64 3, .int .u64 ht, .int .i64 hv, .int .u64 et, .slice Ad ed.length cd, .int .u64 ix, .int .u64 si, .int .u64 st, .slice As ss.length cs] 101)) := (Ext.rfl' w).alloc' _
    obtain ⟨g, hg⟩ : ∃ g, w.heap.size = g := ⟨_, rfl⟩
    rw [hg] at hB
    have hK := lit1 (w.alloc (.cells #[.int .i64 3, .int .u64 ht, .int .i64 hv, .int .u64 et, .slice Ad ed.length cd, .int .u64 ix, .int .u64 si, .int .u64 st, .slice As ss.length cs] 101)) 3 (g + 1) (by simp [hg])
    have hxa := (Ext.rfl' (w.alloc (.cells #[.int .i64 3, .int .u64 ht, .int .i64 hv, .int .u64 et, .slice Ad ed.length cd, .int .u64 ix, .int .u64 si, .int .u64 st, .slice As ss.length cs] 101))).alloc' (.cells #[.int .u8 (3 : UInt8).toNat] 5)
    replace hB := hB.ext hxa
    have hx := hx0.trans' hxa
    go_enter Try.func88, Try.ntmps88
    go_upto_region 8 with fail
    change Code.wp _ _ _ _ ((w.alloc (.cells #[.int .i64 3, .int .u64 ht, .int .i64 hv, .int .u64 et, .slice Ad ed.length cd, .int .u64 ix, .int .u64 si, .int .u64 st, .slice As ss.length cs] 101)).alloc (.cells #[.int .u8 (3 : UInt8).toNat] 5))
    generalize ((w.alloc (.cells #[.int .i64 3, .int .u64 ht, .int .i64 hv, .int .u64 et, .slice Ad ed.length cd, .int .u64 ix, .int .u64 si, .int .u64 st, .slice As ss.length cs] 101)).alloc (.cells #[.int .u8 (3 : UInt8).toNat] 5)) = w3 at *
    clear hxa hx0
    have y3 := (hB.cell 5).trans rfl
    go_wp2_with fail
    refine (oPut8 _ [3] ix _ ⟨i0, i1⟩ (by simp) hK).mono ?_
    rintro e w4 ⟨m4, A4, c4, hm4, rfl, hz4, hx4⟩
    go_wp2
    go_ret
    exact ⟨m4, A4, c4, hide (by rw [hm4.out]; simp [one]), rfl, hz4.trans hx, hx.trans' hx4⟩
  · have hB := Blk.new w 101 #[.int .i64 4, .int .u64 ht, .int .i64 hv, .int .u64 et, .slice Ad ed.length cd, .int .u64 ix, .int .u64 si, .int .u64 st, .slice As ss.length cs]
    have hx0 : Ext w (w.alloc (.cells #[.int .i64 4, .int .u64 ht, .int .i64 hv, .int .u64 et, .slice Ad ed.length cd, .int .u64 ix, .int .u64 si, .int .u64 st, .slice As ss.length cs] 101)) := (Ext.rfl' w).alloc' _
    obtain ⟨g, hg⟩ : ∃ g, w.heap.size = g := ⟨_, rfl⟩
    rw [hg] at hB
    have hK := lit1 (w.alloc (.cells #[.int .i64 4, .int .u64 ht, .int .i64 hv, .int .u64 et, .slice Ad ed.length cd, .int .u64 ix, .int .u64 si, .int .u64 st, .slice As ss.length cs] 101)) 4 (g + 1) (by simp [hg])
    have hxa := (Ext.rfl' (w.alloc (.cells #[.int .i64 4, .int .u64 ht, .int .i64 hv, .int .u64 et, .slice Ad ed.length cd, .int .u64 ix, .int .u64 si, .int .u64 st, .slice As ss.length cs] 101))).alloc' (.cells #[.int .u8 (4 : UInt8).toNat] 5)
    replace hB := hB.ext hxa
    have hx := hx0.trans' hxa
    go_enter Try.func88, Try.ntmps88
    go_upto_region 9 with fail
    change Code.wp _ _ _ _ ((w.alloc (.cells #[.int .i64 4, .int .u64 ht, .int .i64 hv, .int .u64 et, .slice Ad ed.length cd, .int .u64 ix, .int .u64 si, .int .u64 st, .slice As ss.length cs] 101)).alloc (.cells #[.int .u8 (4 : UInt8).toNat] 5))
    generalize ((w.alloc (.cells #[.int .i64 4, .int .u64 ht, .int .i64 hv, .int .u64 et, .slice Ad ed.length cd, .int .u64 ix, .int .u64 si, .int .u64 st, .slice As ss.length cs] 101)).alloc (.cells #[.int .u8 (4 : UInt8).toNat] 5)) = w3 at *
    clear hxa hx0
    refine Rg.regionT Try.checked.mixed 54 12 (by kernel_rfl) [
      (fun x_ _ => x_ = .slice (some ⟨g + 1, 0, none⟩) 1 1),
      (fun x_ _ => x_ = .pointer (some ⟨g, 6, none⟩)),
      (fun x_ _ => x_ = .pointer (some ⟨g, 6, none⟩)),
      (fun x_ _ => x_ = .int .u64 si),
      (fun v W => Bs W v ([4] ++ be 8 si.toNat)),
      (fun x_ _ => x_ = .pointer (some ⟨g, 6, none⟩)),
      (fun x_ _ => x_ = .pointer (some ⟨g, 7, none⟩)),
      (fun x_ _ => x_ = .int .u64 st),
      (fun v W => Bs W v ([4] ++ be 8 si.toNat ++ be 8 st.toNat)),
      (fun x_ _ => x_ = .pointer (some ⟨g, 6, none⟩)),
      (fun x_ _ => x_ = .pointer (some ⟨g, 8, none⟩)),
      (fun x_ _ => x_ = .slice As ss.length cs)] (fun W => Ext w3 W) Ext rfl rfl rfl
      ?st ((Ext.rfl' w3).drew') ?ob ?en
    case st => exact ⟨fun _ _ _ h _ => h, fun _ _ _ h _ => h, fun _ _ _ h _ => h, fun _ _ _ h _ => h, fun _ _ _ h hx => h.ext hx, fun _ _ _ h _ => h, fun _ _ _ h _ => h, fun _ _ _ h _ => h, fun _ _ _ h hx => h.ext hx, fun _ _ _ h _ => h, fun _ _ _ h _ => h, fun _ _ _ h _ => h, trivial⟩
    case ob =>
      refine ⟨Rg.at_run [3] rfl ?_, ?_⟩
      · intro ρ W hR ⟨q3, _⟩
        replace q3 : ρ 3 = .slice (some ⟨g + 1, 0, none⟩) 1 1 := q3
        refine ⟨rfl, ?_⟩
        exact Rg.run_ok (v := .slice (some ⟨g + 1, 0, none⟩) 1 1) (by simp [execOp, Rg.ev, go_sem, q3]) ⟨rfl, hR, Ext.rfl' _⟩
      refine ⟨Rg.at_run [1] rfl ?_, ?_⟩
      · intro ρ W hR ⟨q1, _⟩
        replace q1 : ρ 1 = .pointer (some ⟨g, 0, none⟩) := q1
        refine ⟨rfl, ?_⟩
        exact Rg.run_ok (v := .pointer (some ⟨g, 6, none⟩)) (by simp [execOp, Rg.ev, go_sem, q1]) ⟨rfl, hR, Ext.rfl' _⟩
      refine ⟨Rg.at_run [41] rfl ?_, ?_⟩
      · intro ρ W hR ⟨q41, _⟩
        replace q41 : ρ 41 = .pointer (some ⟨g, 6, none⟩) := q41
        refine ⟨rfl, ?_⟩
        exact Rg.run_ok (v := .pointer (some ⟨g, 6, none⟩)) (by simp [execOp, Rg.ev, go_sem, q41]) ⟨rfl, hR, Ext.rfl' _⟩
      refine ⟨Rg.at_run [42] rfl ?_, ?_⟩
      · intro ρ W hR ⟨q42, _⟩
        replace q42 : ρ 42 = .pointer (some ⟨g, 6, none⟩) := q42
        refine ⟨rfl, ?_⟩
        have c6_ : W.cell? ⟨g, 6, none⟩ = some (.int .u64 si) := ((hB.ext hR).cell 6).trans rfl
        exact Rg.run_ok (v := .int .u64 si) (by simp [execOp, Rg.ev, go_sem, q42, c6_]) ⟨rfl, hR, Ext.rfl' _⟩
      refine ⟨Rg.at_run [40, 43] rfl ?_, ?_⟩
      · intro ρ W hR ⟨q40, q43, _⟩
        replace q40 : ρ 40 = .slice (some ⟨g + 1, 0, none⟩) 1 1 := q40
        replace q43 : ρ 43 = .int .u64 si := q43
        refine ⟨rfl, ?_⟩
        refine Rg.run_enter (by simp [execOp, Rg.ev, go_sem, q40, q43]; exact ⟨⟨rfl, rfl⟩, rfl⟩) ?_
        refine (oPut8 _ [4] si W ⟨n0, n1⟩ (by simp) (hK.ext hR)).mono ?_
        rintro e w2 ⟨m, Am, cm, hm, rfl, hz, hxx⟩
        have hm' := hm.out
        subst hm'
        exact ⟨_, rfl, hz.bs, hR.trans' hxx, hxx⟩
      refine ⟨Rg.at_run [1] rfl ?_, ?_⟩
      · intro ρ W hR ⟨q1, _⟩
        replace q1 : ρ 1 = .pointer (some ⟨g, 0, none⟩) := q1
        refine ⟨rfl, ?_⟩
        exact Rg.run_ok (v := .pointer (some ⟨g, 6, none⟩)) (by simp [execOp, Rg.ev, go_sem, q1]) ⟨rfl, hR, Ext.rfl' _⟩
      refine ⟨Rg.at_run [45] rfl ?_, ?_⟩
      · intro ρ W hR ⟨q45, _⟩
        replace q45 : ρ 45 = .pointer (some ⟨g, 6, none⟩) := q45
        refine ⟨rfl, ?_⟩
        exact Rg.run_ok (v := .pointer (some ⟨g, 7, none⟩)) (by simp [execOp, Rg.ev, go_sem, q45]) ⟨rfl, hR, Ext.rfl' _⟩
      refine ⟨Rg.at_run [46] rfl ?_, ?_⟩
      · intro ρ W hR ⟨q46, _⟩
        replace q46 : ρ 46 = .pointer (some ⟨g, 7, none⟩) := q46
        refine ⟨rfl, ?_⟩
        have c7_ : W.cell? ⟨g, 7, none⟩ = some (.int .u64 st) := ((hB.ext hR).cell 7).trans rfl
        exact Rg.run_ok (v := .int .u64 st) (by simp [execOp, Rg.ev, go_sem, q46, c7_]) ⟨rfl, hR, Ext.rfl' _⟩
      refine ⟨Rg.at_run [44, 47] rfl ?_, ?_⟩
      · intro ρ W hR ⟨q44, q47, _⟩
        replace q44 : (fun v W => Bs W v ([4] ++ be 8 si.toNat)) (ρ 44) W := q44
        replace q47 : ρ 47 = .int .u64 st := q47
        refine ⟨rfl, ?_⟩
        refine Rg.run_enter (by simp [execOp, Rg.ev, go_sem, q47]; exact ⟨⟨rfl, rfl⟩, rfl⟩) ?_
        refine (oPut8 _ _ st W ⟨p0, p1⟩ (by simp [be_length]) q44).mono ?_
        rintro e w2 ⟨m, Am, cm, hm, rfl, hz, hxx⟩
        have hm' := hm.out
        subst hm'
        exact ⟨_, rfl, hz.bs, hR.trans' hxx, hxx⟩
      refine ⟨Rg.at_run [1] rfl ?_, ?_⟩
      · intro ρ W hR ⟨q1, _⟩
        replace q1 : ρ 1 = .pointer (some ⟨g, 0, none⟩) := q1
        refine ⟨rfl, ?_⟩
        exact Rg.run_ok (v := .pointer (some ⟨g, 6, none⟩)) (by simp [execOp, Rg.ev, go_sem, q1]) ⟨rfl, hR, Ext.rfl' _⟩
      refine ⟨Rg.at_run [49] rfl ?_, ?_⟩
      · intro ρ W hR ⟨q49, _⟩
        replace q49 : ρ 49 = .pointer (some ⟨g, 6, none⟩) := q49
        refine ⟨rfl, ?_⟩
        exact Rg.run_ok (v := .pointer (some ⟨g, 8, none⟩)) (by simp [execOp, Rg.ev, go_sem, q49]) ⟨rfl, hR, Ext.rfl' _⟩
      refine ⟨Rg.at_run [50] rfl ?_, ?_⟩
      · intro ρ W hR ⟨q50, _⟩
        replace q50 : ρ 50 = .pointer (some ⟨g, 8, none⟩) := q50
        refine ⟨rfl, ?_⟩
        have c8_ : W.cell? ⟨g, 8, none⟩ = some (.slice As ss.length cs) := ((hB.ext hR).cell 8).trans rfl
        exact Rg.run_ok (v := .slice As ss.length cs) (by simp [execOp, Rg.ev, go_sem, q50, c8_]) ⟨rfl, hR, Ext.rfl' _⟩
      trivial
    case en =>
      intro tm W hR hsz hk
      rw [Rg.fin_eq (ds := [40, 41, 42, 43, 44, 45, 46, 47, 48, 49, 50, 51]) rfl rfl rfl hsz hk]
      have k40 : tm.getD 40 undef = .slice (some ⟨g + 1, 0, none⟩) 1 1 := hk 40
      have k41 : tm.getD 41 undef = .pointer (some ⟨g, 6, none⟩) := hk 41
      have k42 : tm.getD 42 undef = .pointer (some ⟨g, 6, none⟩) := hk 42
      have k43 : tm.getD 43 undef = .int .u64 si := hk 43
      have k44 : (fun v W => Bs W v ([4] ++ be 8 si.toNat)) (tm.getD 44 undef) W := hk 44
      have k45 : tm.getD 45 undef = .pointer (some ⟨g, 6, none⟩) := hk 45
      have k46 : tm.getD 46 undef = .pointer (some ⟨g, 7, none⟩) := hk 46
      have k47 : tm.getD 47 undef = .int .u64 st := hk 47
      have k48 : (fun v W => Bs W v ([4] ++ be 8 si.toNat ++ be 8 st.toNat)) (tm.getD 48 undef) W := hk 48
      have k49 : tm.getD 49 undef = .pointer (some ⟨g, 6, none⟩) := hk 49
      have k50 : tm.getD 50 undef = .pointer (some ⟨g, 8, none⟩) := hk 50
      have k51 : tm.getD 51 undef = .slice As ss.length cs := hk 51
      clear hk hsz
      simp only [Rg.putAll, List.setIfInBounds_toArray, List.set_cons_zero, List.set_cons_succ, k40, k41, k42, k43, k45, k46, k47, k49, k50, k51]
      clear k40
      clear k41
      clear k42
      clear k43
      generalize tm.getD 44 undef = u44 at *
      clear k45
      clear k46
      clear k47
      generalize tm.getD 48 undef = u48 at *
      clear k49
      clear k50
      clear k51
      obtain ⟨A5, c5, hv5, -, -, -⟩ := id k48
      subst hv5
      go_wp2_with fail
      refine (cat2_b _ _ _ _ _ _ rfl (by simp [be_length]; omega) k48 (hs.ext (hx.trans' hR))).mono ?_
      rintro e w4 ⟨m4, A4, c4, hm4, rfl, hz4, hx4⟩
      go_wp2
      go_ret
      exact ⟨m4, A4, c4, hide (by rw [hm4.out]; simp [one]), rfl, hz4.trans (hx.trans' hR), (hx.trans' hR).trans' hx4⟩
end Go.Proofs.Ytlblgopfdadalaa
namespace Go.Proofs.Ytlblgopfdadalaa
set_option linter.unusedVariables false
set_option linter.unusedSimpArgs false
set_option linter.unnecessarySimpa false
set_option maxRecDepth 100000
open Go.RowKit
def RetApp (w w' : World) (e : Ending) (l : Bytes) : Prop := ∃ (m : Bytes) (A : Option Addr) (c : Nat), Hid (m = l) ∧ e = .returned (.slice A m.length c) ∧ App w w' (.slice A m.length c) m ∧ Ext w w'
theorem re_at {w : World} {X : Avoid} {A : Option Addr} {n c k : Nat} {l : List Rec} (h : Enc.Sl reE w X (.slice A n c) l) (hk : k < l.length) : ∃ (ad : Addr) (r : Rec) (v1 v2 : Value), A = some ad ∧ Hid (l[k]? = some r) ∧ ad.block < w.heap.size ∧
    w.cell? (ad.add (k * 9)) = some (.int .i64 r.kind) ∧ w.cell? ⟨(ad.add (k * 9)).block, (ad.add (k * 9)).off + 1, none⟩ = some (.int .u64 r.hard.term) ∧ w.cell? ⟨(ad.add (k * 9)).block, (ad.add (k * 9)).off + 2, none⟩ = some (.int .i64 r.hard.vote) ∧
    w.cell? ⟨(ad.add (k * 9)).block, (ad.add (k * 9)).off + 3, none⟩ = some (.int .u64 r.ent.term) ∧ w.cell? ⟨(ad.add (k * 9)).block, (ad.add (k * 9)).off + 4, none⟩ = some v1 ∧ w.cell? ⟨(ad.add (k * 9)).block, (ad.add (k * 9)).off + 5, none⟩ = some (.int .u64 r.index) ∧
    w.cell? ⟨(ad.add (k * 9)).block, (ad.add (k * 9)).off + 6, none⟩ = some (.int .u64 r.snap.index) ∧ w.cell? ⟨(ad.add (k * 9)).block, (ad.add (k * 9)).off + 7, none⟩ = some (.int .u64 r.snap.term) ∧ w.cell? ⟨(ad.add (k * 9)).block, (ad.add (k * 9)).off + 8, none⟩ = some v2 ∧
    r.wide ∧ Enc.BsX w X v1 r.ent.data ∧ Enc.BsX w X v2 r.snap.state := by
  obtain ⟨ad, cs, rfl, hrep, hb, hcell⟩ := h.at_ hk
  obtain ⟨v1, v2, rfl, r1, r2, r3⟩ := re_rep.1 hrep
  exact ⟨ad, _, v1, v2, rfl, hide (List.getElem?_eq_getElem hk), hb, Enc.cell0 hcell rfl, Enc.cellS hcell 0 rfl, Enc.cellS hcell 1 rfl, Enc.cellS hcell 2 rfl, Enc.cellS hcell 3 rfl, Enc.cellS hcell 4 rfl, Enc.cellS hcell 5 rfl, Enc.cellS hcell 6 rfl, Enc.cellS hcell 7 rfl, r1, r2, r3⟩
theorem take_snoc {α : Type} {l : List α} {k : Nat} {d : α} (hd : l[k]? = some d) : l.take (k + 1) = l.take k ++ [d] := by
  rw [List.take_add_one, hd]
  rfl
theorem lput_take {l : List Rec} {k : Nat} {r : Rec} (h : l[k]? = some r) : lput (l.take (k + 1)) = lput (l.take k) ++ (if may r = true then oframe (one r) else []) := by
  rw [take_snoc h, lput_app]
  simp [lput]
theorem small_take {l : List Rec} (h : ∀ r ∈ l, r.wide ∧ r.small) (k : Nat) : (lput (l.take k)).length ≤ 85 * k :=
  Nat.le_trans (lput_len (l := l.take k) fun r hr => (h r (List.mem_of_mem_take hr)).2) (Nat.mul_le_mul_left _ (by rw [List.length_take]; omega))
set_option maxHeartbeats 3200000 in
theorem lputs_b (x : Value) (l : List Rec) (w : World) (hl : l.length ≤ 1000) (hx : Enc.Sl reE w noneAt x l) (hs : ∀ r ∈ l, r.wide ∧ r.small) :
    Calls Try.prog 54 #[x] w fun e w' => RetApp w w' e (lput l) := by
  obtain ⟨A, c, rfl, -, -⟩ := hx.form
  go_enter Try.func54, Try.ntmps54
  go_wp2_with fail
  go_loopw [3, 8] (fun vo vi wr => ∃ (k : Nat) (m : Bytes) (B : Option Addr) (cc : Nat), (k : Int) ≤ l.length ∧ vo = .slice B m.length cc ∧ vi = .int .i64 k ∧ Hid (m = lput (l.take k)) ∧ App w wr (.slice B m.length cc) m ∧ Ext w wr) (fun _ vi _ => (l.length - intOf vi).toNat)
  case atStart => exact ⟨0, [], none, 0, by omega, rfl, rfl, hide (by simp [lput]), (App0.nil _ _).app, Ext.rfl' _⟩
  case round =>
    obtain ⟨k, m, B, cc, hk, rfl, rfl, hm, hap, hxr⟩ := hrel
    by_cases hlt : (k : Int) < l.length
    · have HLT := hide hlt
      have hml : m.length ≤ 85 * k := by rw [hm.out]; exact small_take hs k
      obtain ⟨ad, r, v1, v2, rfl, hr, hb, p0, p1, p2, p3, p4, p5, p6, p7, p8, r1, r2, r3⟩ := re_at (hx.ext hxr) (k := k) (by omega)
      have hsm := (hs r (List.mem_of_getElem? hr.out)).2
      have ho := one_len hsm
      obtain ⟨hs1, hs2⟩ := hsm
      obtain ⟨A1, c1, rfl, -, -, -⟩ := id r2.1
      obtain ⟨A2, c2, rfl, -, -, -⟩ := id r3.1
      have HM := hide (fun W => may_b r (.slice A1 r.ent.data.length c1) (.slice A2 r.snap.state.length c2) W)
      have hB := Blk.new wr 101 (recells r (.slice A1 r.ent.data.length c1) (.slice A2 r.snap.state.length c2)).toArray
      have hxa := (Ext.rfl' wr).alloc' (.cells (recells r (.slice A1 r.ent.data.length c1) (.slice A2 r.snap.state.length c2)).toArray 101)
      obtain ⟨g, hg⟩ : ∃ g, wr.heap.size = g := ⟨_, rfl⟩
      rw [hg] at hB
      have HW := hide (hs r (List.mem_of_getElem? hr.out)).1
      have HT := hide (lput_take hr.out)
      go_wp2_with fail
      refine (HM.out _).mono ?_
      rintro e W1 ⟨rfl, hx1⟩
      replace hB := hB.ext hx1
      have hx2 := hxa.trans' hx1
      cases hmr : may r with
      | false =>
        rw [hmr] at HT
        go_wp2_with fail
        go_roundw
        case rel => exact ⟨k + 1, m, B, cc, by have := HLT.out; omega, rfl, by go_num, hide (by rw [HT.out, hm.out]; simp), hap.ext hx2, hxr.trans' hx2⟩
        case measure => have := HLT.out; simp [intOf]; omega
      | true =>
        rw [hmr] at HT
        have b0 := (hB.cell 0).trans rfl
        have b1 := (hB.cell 1).trans rfl
        have b2 := (hB.cell 2).trans rfl
        have b3 := (hB.cell 3).trans rfl
        have b4 := (hB.cell 4).trans rfl
        have b5 := (hB.cell 5).trans rfl
        have b6 := (hB.cell 6).trans rfl
        have b7 := (hB.cell 7).trans rfl
        have b8 := (hB.cell 8).trans rfl
        go_wp2_with fail
        refine (one_b r _ _ W1 hmr HW.out (r2.1.ext hx2) (r3.1.ext hx2) ⟨by omega, by omega⟩).mono ?_
        rintro e W2 ⟨m2, A3, c3, hm2, rfl, hz2, hx3⟩
        have hl2 : m2.length ≤ 77 := by rw [hm2.out]; exact ho.2
        go_wp2_with fail
        refine (frame_b _ m2 W2 (by omega) hz2.bs).mono ?_
        rintro e W3 ⟨m3, A4, c4, hm3, rfl, hz3, hx4⟩
        have hl3 : m3.length ≤ 85 := by rw [hm3.out, oframe_length]; omega
        have hx5 := (hx2.trans' hx3).trans' hx4
        clear b0 b1 b2 b3 b4 b5 b6 b7 b8
        go_wp2_with (at_builtin; refine wpList_appA w _ rfl (.tmp 14) (.tmp 17) rfl _ m rfl (hap.ext hx5) (hxr.trans' hx5) _ m3 rfl hz3.bs (by omega) ?_; intro m4 A5 c5 w5 hm4 hap5 hx6 hsm6)
        go_roundw
        case rel => exact ⟨k + 1, m4, A5, c5, by have := HLT.out; omega, rfl, by go_num, hide (by rw [HT.out, hm4.out, hm3.out, hm2.out, hm.out]; simp), hap5, hx6⟩
        case measure => have := HLT.out; simp [intOf]; omega
    · obtain rfl : k = l.length := by omega
      go_wp2
      go_ret
      exact ⟨m, B, cc, hide (by rw [hm.out, List.take_length]), rfl, hap, hxr⟩
end Go.Proofs.Ytlblgopfdadalaa
