/- A part of the proof of 'StateBytes'. -/
import Derived.Test.YtamimdlaclglkaaGreatB32
import Derived.Test.YtamimdlaclglkaaGreatB27
namespace Go.Proofs.YtamimdlaclglkaaGreat
set_option linter.unusedVariables false
set_option linter.unusedSimpArgs false
set_option linter.unnecessarySimpa false
set_option maxRecDepth 100000
open Go.RowKit
theorem rises_step {α : Type} (lt : α → α → Bool) {l : List α} {k : Nat} {a b : α} (h1 : l[k]? = some a) (h2 : l[k + 1]? = some b) : risesB lt (l.drop k) = (lt a b && risesB lt (l.drop (k + 1))) := by
  obtain ⟨q1, rfl⟩ := List.getElem?_eq_some_iff.1 h1
  obtain ⟨q2, rfl⟩ := List.getElem?_eq_some_iff.1 h2
  rw [List.drop_eq_getElem_cons q1, List.drop_eq_getElem_cons q2]
  rfl
theorem rises_end {α : Type} (lt : α → α → Bool) {l : List α} {k : Nat} (h : l.length ≤ k + 1) : risesB lt (l.drop k) = true := by
  have : (l.drop k).length ≤ 1 := by simp; omega
  match l.drop k, this with
  | [], _ => rfl
  | [_], _ => rfl
set_option maxHeartbeats 1600000 in
theorem stands1_b (a b : Ln) (w : World) : Calls Tryz.prog 80 #[.agg #[str a.name, str a.url, .int .u64 a.till, .bool a.made], .agg #[str b.name, str b.url, .int .u64 b.till, .bool b.made]] w fun e w' => e = .returned (.bool (Op.bytesLess a.name b.name)) ∧ Ext w w' := by
  obtain ⟨hB, hC, hxw⟩ := two_alC w 53 53 #[str a.name, str a.url, .int .u64 a.till, .bool a.made] #[str b.name, str b.url, .int .u64 b.till, .bool b.made]
  obtain ⟨g, hg⟩ : ∃ g, w.heap.size = g := ⟨_, rfl⟩
  rw [hg] at hB hC
  obtain ⟨r, hr⟩ : ∃ r, (Op.bytesLess a.name b.name) = r := ⟨_, rfl⟩
  go_enter Tryz.func80, Tryz.ntmps80
  go_upto_region 1 with fail
  generalize ((w.alloc (.cells #[str a.name, str a.url, .int .u64 a.till, .bool a.made] 53)).alloc (.cells #[str b.name, str b.url, .int .u64 b.till, .bool b.made] 53)) = w1 at *
  try rw [hg]
  have b0 := (hB.cell 0).trans rfl
  have c0 := (hC.cell 0).trans rfl
  go_wp2
  go_ret
  first | exact ⟨rfl, hxw⟩ | exact ⟨by rw [hr]; rfl, hxw⟩
set_option maxHeartbeats 1600000 in
theorem stands2_b (a b : Se) (va vb : Value) (w : World) : Calls Tryz.prog 82 #[.agg #[.int .i64 a.client, .int .u64 a.high, va], .agg #[.int .i64 b.client, .int .u64 b.high, vb]] w fun e w' => e = .returned (.bool (decide (a.client < b.client))) ∧ Ext w w' := by
  obtain ⟨hB, hC, hxw⟩ := two_alC w 56 56 #[.int .i64 a.client, .int .u64 a.high, va] #[.int .i64 b.client, .int .u64 b.high, vb]
  obtain ⟨g, hg⟩ : ∃ g, w.heap.size = g := ⟨_, rfl⟩
  rw [hg] at hB hC
  obtain ⟨r, hr⟩ : ∃ r, (decide (a.client < b.client)) = r := ⟨_, rfl⟩
  go_enter Tryz.func82, Tryz.ntmps82
  go_upto_region 1 with fail
  generalize ((w.alloc (.cells #[.int .i64 a.client, .int .u64 a.high, va] 56)).alloc (.cells #[.int .i64 b.client, .int .u64 b.high, vb] 56)) = w1 at *
  try rw [hg]
  have b0 := (hB.cell 0).trans rfl
  have c0 := (hC.cell 0).trans rfl
  go_wp2
  go_ret
  first | exact ⟨rfl, hxw⟩ | exact ⟨by rw [hr]; rfl, hxw⟩
set_option maxHeartbeats 1600000 in
theorem stands3_b (a b : Dn) (w : World) : Calls Tryz.prog 84 #[.agg #[.int .u64 a.seq, .int .i64 a.an.err, str a.an.text], .agg #[.int .u64 b.seq, .int .i64 b.an.err, str b.an.text]] w fun e w' => e = .returned (.bool (decide (a.seq < b.seq))) ∧ Ext w w' := by
  obtain ⟨hB, hC, hxw⟩ := two_alC w 68 68 #[.int .u64 a.seq, .int .i64 a.an.err, str a.an.text] #[.int .u64 b.seq, .int .i64 b.an.err, str b.an.text]
  obtain ⟨g, hg⟩ : ∃ g, w.heap.size = g := ⟨_, rfl⟩
  rw [hg] at hB hC
  obtain ⟨r, hr⟩ : ∃ r, (decide (a.seq < b.seq)) = r := ⟨_, rfl⟩
  go_enter Tryz.func84, Tryz.ntmps84
  go_upto_region 1 with fail
  generalize ((w.alloc (.cells #[.int .u64 a.seq, .int .i64 a.an.err, str a.an.text] 68)).alloc (.cells #[.int .u64 b.seq, .int .i64 b.an.err, str b.an.text] 68)) = w1 at *
  try rw [hg]
  have b0 := (hB.cell 0).trans rfl
  have c0 := (hC.cell 0).trans rfl
  go_wp2
  go_ret
  first | exact ⟨rfl, hxw⟩ | exact ⟨by rw [hr]; rfl, hxw⟩
set_option maxHeartbeats 6400000 in
theorem risesapi_Link_b (x : Value) (l : List Ln) (w : World) (hx : Enc.Sl lnE w noneAt x l) : Calls Tryz.prog 79 #[x, .func (.func 80) #[] #[]] w fun e w' => e = .returned (.bool (risesB (fun a b => Op.bytesLess a.name b.name) l)) ∧ Ext w w' := by
  obtain ⟨A, c, rfl, k1, k2⟩ := hx.form
  unfold maxLen at k2
  obtain ⟨res, hres⟩ : ∃ r, risesB (fun a b => Op.bytesLess a.name b.name) l = r := ⟨_, rfl⟩
  rw [hres]
  have HRES := hide hres
  clear hres
  go_enter Tryz.func79, Tryz.ntmps79
  go_wp2_with fail
  go_loopw [5] (fun vi wr => ∃ k : Nat, (k : Int) ≤ l.length ∧ vi = .int .i64 ((k : Int) + 1) ∧ Hid (res = risesB (fun a b => Op.bytesLess a.name b.name) (l.drop k)) ∧ Ext w wr) (fun vi _ => (l.length + 1 - intOf vi).toNat)
  case atStart => exact ⟨0, by omega, by go_num, hide (by rw [← HRES.out, List.drop_zero]), Ext.rfl' _⟩
  case round =>
    obtain ⟨k, hk, rfl, hsm, hxr⟩ := hrel
    by_cases hlt : (k : Int) + 1 < l.length
    · have HLT := hide hlt
      obtain ⟨ad, a, rfl, ha, hb, p0, p1, p2, p3, -⟩ := ln_at (hx.ext hxr) (k := k) (by omega)
      obtain ⟨ad2, b, hadd, hb_, hbb, r0, r1, r2, r3, -⟩ := ln_at (hx.ext hxr) (k := k + 1) (by omega)
      obtain rfl := Option.some.inj hadd
      have hab : (ad.add (k * 4)).block < wr.heap.size := by rw [block_of_add]; exact hb
      have hab2 : (ad.add ((k + 1) * 4)).block < wr.heap.size := by rw [block_of_add]; exact hb
      have hb1 : (0 : Int) ≤ k := by omega
      have hb2' : (k : Int) < l.length := by omega
      have hb3 : (0 : Int) ≤ (k : Int) + 1 := by omega
      have hb4' : (k : Int) + 1 < l.length := hlt
      have HW : IntKind.i64.wrap ((k : Int) + 1 - 1) = (k : Int) := by rw [Int.add_sub_cancel]; exact IntWalk.i64_in _ ⟨by omega, by omega⟩
      have HW2 : IntKind.i64.wrap (k : Int) = (k : Int) := IntWalk.i64_in _ ⟨by omega, by omega⟩
      have HS := hide (rises_step (fun a b => Op.bytesLess a.name b.name) ha.out hb_.out)
      rcases Bool.eq_false_or_eq_true (Op.bytesLess a.name b.name) with hbv | hbv
      · have HB : Hid ((Op.bytesLess a.name b.name) = true) := hide hbv
        have HC := hide (fun W : World => stands1_b a b W)
        replace hbv : (Op.bytesLess a.name b.name) = true := hbv
        rw [hbv] at HC
        clear hbv
        go_upto_region 4 with fail
        refine Rg.regionT Tryz.checked.mixed 24 12 (by kernel_rfl) [
          (fun x_ _ => x_ = .func (.func 80) #[] #[]),
          (fun x_ _ => x_ = .slice (some ad) l.length c),
          (fun x_ _ => x_ = .int .i64 ((k : Int) + 1)),
          (fun x_ _ => x_ = .int .i64 (k : Int)),
          (fun x_ _ => x_ = .pointer (some (ad.add (k * 4)))),
          (fun x_ _ => x_ = .agg #[str a.name, str a.url, .int .u64 a.till, .bool a.made]),
          (fun x_ _ => x_ = .slice (some ad) l.length c),
          (fun x_ _ => x_ = .int .i64 ((k : Int) + 1)),
          (fun x_ _ => x_ = .pointer (some (ad.add ((k + 1) * 4)))),
          (fun x_ _ => x_ = .agg #[str b.name, str b.url, .int .u64 b.till, .bool b.made]),
          (fun x_ _ => x_ = .bool true),
          (fun x_ _ => x_ = .bool false)] (fun W => Ext wr W) Ext rfl rfl rfl
          ?st ((Ext.rfl' wr).drew') ?ob ?en
        case st => exact ⟨fun _ _ _ h _ => h, fun _ _ _ h _ => h, fun _ _ _ h _ => h, fun _ _ _ h _ => h, fun _ _ _ h _ => h, fun _ _ _ h _ => h, fun _ _ _ h _ => h, fun _ _ _ h _ => h, fun _ _ _ h _ => h, fun _ _ _ h _ => h, fun _ _ _ h _ => h, fun _ _ _ h _ => h, trivial⟩
        case ob =>
          refine ⟨Rg.at_run [1] rfl ?_, ?_⟩
          · intro ρ W hR ⟨q1, _⟩
            replace q1 : ρ 1 = .func (.func 80) #[] #[] := q1
            refine ⟨rfl, ?_⟩
            exact Rg.run_ok (v := .func (.func 80) #[] #[]) (by simp [execOp, Rg.ev, go_sem, q1]) ⟨rfl, hR, Ext.rfl' _⟩
          refine ⟨Rg.at_run [0] rfl ?_, ?_⟩
          · intro ρ W hR ⟨q0, _⟩
            replace q0 : ρ 0 = .slice (some ad) l.length c := q0
            refine ⟨rfl, ?_⟩
            exact Rg.run_ok (v := .slice (some ad) l.length c) (by simp [execOp, Rg.ev, go_sem, q0]) ⟨rfl, hR, Ext.rfl' _⟩
          refine ⟨Rg.at_run [5] rfl ?_, ?_⟩
          · intro ρ W hR ⟨q5, _⟩
            replace q5 : ρ 5 = .int .i64 ((k : Int) + 1) := q5
            refine ⟨rfl, ?_⟩
            exact Rg.run_ok (v := .int .i64 ((k : Int) + 1)) (by simp [execOp, Rg.ev, go_sem, q5]) ⟨rfl, hR, Ext.rfl' _⟩
          refine ⟨Rg.at_run [14] rfl ?_, ?_⟩
          · intro ρ W hR ⟨q14, _⟩
            replace q14 : ρ 14 = .int .i64 ((k : Int) + 1) := q14
            refine ⟨rfl, ?_⟩
            exact Rg.run_ok (v := .int .i64 (k : Int)) (by simp [execOp, Rg.ev, go_sem, q14, HW, HW2]) ⟨rfl, hR, Ext.rfl' _⟩
          refine ⟨Rg.at_run [13, 15] rfl ?_, ?_⟩
          · intro ρ W hR ⟨q13, q15, _⟩
            replace q13 : ρ 13 = .slice (some ad) l.length c := q13
            replace q15 : ρ 15 = .int .i64 (k : Int) := q15
            refine ⟨rfl, ?_⟩
            exact Rg.run_ok (v := .pointer (some (ad.add (k * 4)))) (by simp [execOp, Rg.ev, go_sem, q13, q15, hb1, hb2']) ⟨rfl, hR, Ext.rfl' _⟩
          refine ⟨Rg.at_run [16] rfl ?_, ?_⟩
          · intro ρ W hR ⟨q16, _⟩
            replace q16 : ρ 16 = .pointer (some (ad.add (k * 4))) := q16
            refine ⟨rfl, ?_⟩
            have c0_ : W.cell? (ad.add (k * 4)) = some (str a.name) := (hR.cell (p := ad.add (k * 4)) hab).trans p0
            have c1_ : W.cell? (⟨(ad.add (k * 4)).block, (ad.add (k * 4)).off + 1, none⟩) = some (str a.url) := (hR.cell (p := ⟨(ad.add (k * 4)).block, (ad.add (k * 4)).off + 1, none⟩) hab).trans p1
            have c2_ : W.cell? (⟨(ad.add (k * 4)).block, (ad.add (k * 4)).off + 2, none⟩) = some (.int .u64 a.till) := (hR.cell (p := ⟨(ad.add (k * 4)).block, (ad.add (k * 4)).off + 2, none⟩) hab).trans p2
            have c3_ : W.cell? (⟨(ad.add (k * 4)).block, (ad.add (k * 4)).off + 3, none⟩) = some (.bool a.made) := (hR.cell (p := ⟨(ad.add (k * 4)).block, (ad.add (k * 4)).off + 3, none⟩) hab).trans p3
            exact Rg.run_ok (v := .agg #[str a.name, str a.url, .int .u64 a.till, .bool a.made]) (by simp [execOp, Rg.ev, go_sem, q16, c0_, c1_, c2_, c3_]) ⟨rfl, hR, Ext.rfl' _⟩
          refine ⟨Rg.at_run [0] rfl ?_, ?_⟩
          · intro ρ W hR ⟨q0, _⟩
            replace q0 : ρ 0 = .slice (some ad) l.length c := q0
            refine ⟨rfl, ?_⟩
            exact Rg.run_ok (v := .slice (some ad) l.length c) (by simp [execOp, Rg.ev, go_sem, q0]) ⟨rfl, hR, Ext.rfl' _⟩
          refine ⟨Rg.at_run [5] rfl ?_, ?_⟩
          · intro ρ W hR ⟨q5, _⟩
            replace q5 : ρ 5 = .int .i64 ((k : Int) + 1) := q5
            refine ⟨rfl, ?_⟩
            exact Rg.run_ok (v := .int .i64 ((k : Int) + 1)) (by simp [execOp, Rg.ev, go_sem, q5]) ⟨rfl, hR, Ext.rfl' _⟩
          refine ⟨Rg.at_run [18, 19] rfl ?_, ?_⟩
          · intro ρ W hR ⟨q18, q19, _⟩
            replace q18 : ρ 18 = .slice (some ad) l.length c := q18
            replace q19 : ρ 19 = .int .i64 ((k : Int) + 1) := q19
            refine ⟨rfl, ?_⟩
            exact Rg.run_ok (v := .pointer (some (ad.add ((k + 1) * 4)))) (by simp [execOp, Rg.ev, go_sem, q18, q19, hb3, hb4']) ⟨rfl, hR, Ext.rfl' _⟩
          refine ⟨Rg.at_run [20] rfl ?_, ?_⟩
          · intro ρ W hR ⟨q20, _⟩
            replace q20 : ρ 20 = .pointer (some (ad.add ((k + 1) * 4))) := q20
            refine ⟨rfl, ?_⟩
            have c0_ : W.cell? (ad.add ((k + 1) * 4)) = some (str b.name) := (hR.cell (p := ad.add ((k + 1) * 4)) hab2).trans r0
            have c1_ : W.cell? (⟨(ad.add ((k + 1) * 4)).block, (ad.add ((k + 1) * 4)).off + 1, none⟩) = some (str b.url) := (hR.cell (p := ⟨(ad.add ((k + 1) * 4)).block, (ad.add ((k + 1) * 4)).off + 1, none⟩) hab2).trans r1
            have c2_ : W.cell? (⟨(ad.add ((k + 1) * 4)).block, (ad.add ((k + 1) * 4)).off + 2, none⟩) = some (.int .u64 b.till) := (hR.cell (p := ⟨(ad.add ((k + 1) * 4)).block, (ad.add ((k + 1) * 4)).off + 2, none⟩) hab2).trans r2
            have c3_ : W.cell? (⟨(ad.add ((k + 1) * 4)).block, (ad.add ((k + 1) * 4)).off + 3, none⟩) = some (.bool b.made) := (hR.cell (p := ⟨(ad.add ((k + 1) * 4)).block, (ad.add ((k + 1) * 4)).off + 3, none⟩) hab2).trans r3
            exact Rg.run_ok (v := .agg #[str b.name, str b.url, .int .u64 b.till, .bool b.made]) (by simp [execOp, Rg.ev, go_sem, q20, c0_, c1_, c2_, c3_]) ⟨rfl, hR, Ext.rfl' _⟩
          refine ⟨Rg.at_run [12, 17, 21] rfl ?_, ?_⟩
          · intro ρ W hR ⟨q12, q17, q21, _⟩
            replace q12 : ρ 12 = .func (.func 80) #[] #[] := q12
            replace q17 : ρ 17 = .agg #[str a.name, str a.url, .int .u64 a.till, .bool a.made] := q17
            replace q21 : ρ 21 = .agg #[str b.name, str b.url, .int .u64 b.till, .bool b.made] := q21
            refine ⟨rfl, ?_⟩
            refine Rg.run_enter (f := 80) (args := #[.agg #[str a.name, str a.url, .int .u64 a.till, .bool a.made], .agg #[str b.name, str b.url, .int .u64 b.till, .bool b.made]]) (W' := W) (by simp [execOp, Rg.ev, go_sem, q12, q17, q21] <;> rfl) ?_
            refine (HC.out W).mono ?_
            rintro e_ w9 ⟨rfl, k2⟩
            exact ⟨_, rfl, rfl, hR.trans' k2, k2⟩
          refine ⟨Rg.at_run [22] rfl ?_, ?_⟩
          · intro ρ W hR ⟨q22, _⟩
            replace q22 : ρ 22 = .bool true := q22
            refine ⟨rfl, ?_⟩
            exact Rg.run_ok (v := .bool false) (by simp [execOp, Rg.ev, go_sem, q22]) ⟨rfl, hR, Ext.rfl' _⟩
          trivial
        case en =>
          intro tm W hR hsz hk
          rw [Rg.fin_eq (ds := [12, 13, 14, 15, 16, 17, 18, 19, 20, 21, 22, 23]) rfl rfl rfl hsz hk]
          have k12 : tm.getD 12 undef = .func (.func 80) #[] #[] := hk 12
          have k13 : tm.getD 13 undef = .slice (some ad) l.length c := hk 13
          have k14 : tm.getD 14 undef = .int .i64 ((k : Int) + 1) := hk 14
          have k15 : tm.getD 15 undef = .int .i64 (k : Int) := hk 15
          have k16 : tm.getD 16 undef = .pointer (some (ad.add (k * 4))) := hk 16
          have k17 : tm.getD 17 undef = .agg #[str a.name, str a.url, .int .u64 a.till, .bool a.made] := hk 17
          have k18 : tm.getD 18 undef = .slice (some ad) l.length c := hk 18
          have k19 : tm.getD 19 undef = .int .i64 ((k : Int) + 1) := hk 19
          have k20 : tm.getD 20 undef = .pointer (some (ad.add ((k + 1) * 4))) := hk 20
          have k21 : tm.getD 21 undef = .agg #[str b.name, str b.url, .int .u64 b.till, .bool b.made] := hk 21
          have k22 : tm.getD 22 undef = .bool true := hk 22
          have k23 : tm.getD 23 undef = .bool false := hk 23
          clear hk hsz
          simp only [Rg.putAll, List.setIfInBounds_toArray, List.set_cons_zero, List.set_cons_succ, k12, k13, k14, k15, k16, k17, k18, k19, k20, k21, k22, k23]
          clear k12
          clear k13
          clear k14
          clear k15
          clear k16
          clear k17
          clear k18
          clear k19
          clear k20
          clear k21
          clear k22
          clear k23
          refine Rg.nil_list ?_
          go_wp2
          go_roundw
          case rel => exact ⟨k + 1, by have := HLT.out; omega, by go_num, hide (by rw [hsm.out, HS.out, HB.out, Bool.true_and]), hxr.trans' hR⟩
          case measure => have := HLT.out; simp [intOf]; omega
      · have HB : Hid ((Op.bytesLess a.name b.name) = false) := hide hbv
        have HC := hide (fun W : World => stands1_b a b W)
        replace hbv : (Op.bytesLess a.name b.name) = false := hbv
        rw [hbv] at HC
        clear hbv
        go_upto_region 4 with fail
        refine Rg.regionT Tryz.checked.mixed 24 12 (by kernel_rfl) [
          (fun x_ _ => x_ = .func (.func 80) #[] #[]),
          (fun x_ _ => x_ = .slice (some ad) l.length c),
          (fun x_ _ => x_ = .int .i64 ((k : Int) + 1)),
          (fun x_ _ => x_ = .int .i64 (k : Int)),
          (fun x_ _ => x_ = .pointer (some (ad.add (k * 4)))),
          (fun x_ _ => x_ = .agg #[str a.name, str a.url, .int .u64 a.till, .bool a.made]),
          (fun x_ _ => x_ = .slice (some ad) l.length c),
          (fun x_ _ => x_ = .int .i64 ((k : Int) + 1)),
          (fun x_ _ => x_ = .pointer (some (ad.add ((k + 1) * 4)))),
          (fun x_ _ => x_ = .agg #[str b.name, str b.url, .int .u64 b.till, .bool b.made]),
          (fun x_ _ => x_ = .bool false),
          (fun x_ _ => x_ = .bool true)] (fun W => Ext wr W) Ext rfl rfl rfl
          ?st ((Ext.rfl' wr).drew') ?ob ?en
        case st => exact ⟨fun _ _ _ h _ => h, fun _ _ _ h _ => h, fun _ _ _ h _ => h, fun _ _ _ h _ => h, fun _ _ _ h _ => h, fun _ _ _ h _ => h, fun _ _ _ h _ => h, fun _ _ _ h _ => h, fun _ _ _ h _ => h, fun _ _ _ h _ => h, fun _ _ _ h _ => h, fun _ _ _ h _ => h, trivial⟩
        case ob =>
          refine ⟨Rg.at_run [1] rfl ?_, ?_⟩
          · intro ρ W hR ⟨q1, _⟩
            replace q1 : ρ 1 = .func (.func 80) #[] #[] := q1
            refine ⟨rfl, ?_⟩
            exact Rg.run_ok (v := .func (.func 80) #[] #[]) (by simp [execOp, Rg.ev, go_sem, q1]) ⟨rfl, hR, Ext.rfl' _⟩
          refine ⟨Rg.at_run [0] rfl ?_, ?_⟩
          · intro ρ W hR ⟨q0, _⟩
            replace q0 : ρ 0 = .slice (some ad) l.length c := q0
            refine ⟨rfl, ?_⟩
            exact Rg.run_ok (v := .slice (some ad) l.length c) (by simp [execOp, Rg.ev, go_sem, q0]) ⟨rfl, hR, Ext.rfl' _⟩
          refine ⟨Rg.at_run [5] rfl ?_, ?_⟩
          · intro ρ W hR ⟨q5, _⟩
            replace q5 : ρ 5 = .int .i64 ((k : Int) + 1) := q5
            refine ⟨rfl, ?_⟩
            exact Rg.run_ok (v := .int .i64 ((k : Int) + 1)) (by simp [execOp, Rg.ev, go_sem, q5]) ⟨rfl, hR, Ext.rfl' _⟩
          refine ⟨Rg.at_run [14] rfl ?_, ?_⟩
          · intro ρ W hR ⟨q14, _⟩
            replace q14 : ρ 14 = .int .i64 ((k : Int) + 1) := q14
            refine ⟨rfl, ?_⟩
            exact Rg.run_ok (v := .int .i64 (k : Int)) (by simp [execOp, Rg.ev, go_sem, q14, HW, HW2]) ⟨rfl, hR, Ext.rfl' _⟩
          refine ⟨Rg.at_run [13, 15] rfl ?_, ?_⟩
          · intro ρ W hR ⟨q13, q15, _⟩
            replace q13 : ρ 13 = .slice (some ad) l.length c := q13
            replace q15 : ρ 15 = .int .i64 (k : Int) := q15
            refine ⟨rfl, ?_⟩
            exact Rg.run_ok (v := .pointer (some (ad.add (k * 4)))) (by simp [execOp, Rg.ev, go_sem, q13, q15, hb1, hb2']) ⟨rfl, hR, Ext.rfl' _⟩
          refine ⟨Rg.at_run [16] rfl ?_, ?_⟩
          · intro ρ W hR ⟨q16, _⟩
            replace q16 : ρ 16 = .pointer (some (ad.add (k * 4))) := q16
            refine ⟨rfl, ?_⟩
            have c0_ : W.cell? (ad.add (k * 4)) = some (str a.name) := (hR.cell (p := ad.add (k * 4)) hab).trans p0
            have c1_ : W.cell? (⟨(ad.add (k * 4)).block, (ad.add (k * 4)).off + 1, none⟩) = some (str a.url) := (hR.cell (p := ⟨(ad.add (k * 4)).block, (ad.add (k * 4)).off + 1, none⟩) hab).trans p1
            have c2_ : W.cell? (⟨(ad.add (k * 4)).block, (ad.add (k * 4)).off + 2, none⟩) = some (.int .u64 a.till) := (hR.cell (p := ⟨(ad.add (k * 4)).block, (ad.add (k * 4)).off + 2, none⟩) hab).trans p2
            have c3_ : W.cell? (⟨(ad.add (k * 4)).block, (ad.add (k * 4)).off + 3, none⟩) = some (.bool a.made) := (hR.cell (p := ⟨(ad.add (k * 4)).block, (ad.add (k * 4)).off + 3, none⟩) hab).trans p3
            exact Rg.run_ok (v := .agg #[str a.name, str a.url, .int .u64 a.till, .bool a.made]) (by simp [execOp, Rg.ev, go_sem, q16, c0_, c1_, c2_, c3_]) ⟨rfl, hR, Ext.rfl' _⟩
          refine ⟨Rg.at_run [0] rfl ?_, ?_⟩
          · intro ρ W hR ⟨q0, _⟩
            replace q0 : ρ 0 = .slice (some ad) l.length c := q0
            refine ⟨rfl, ?_⟩
            exact Rg.run_ok (v := .slice (some ad) l.length c) (by simp [execOp, Rg.ev, go_sem, q0]) ⟨rfl, hR, Ext.rfl' _⟩
          refine ⟨Rg.at_run [5] rfl ?_, ?_⟩
          · intro ρ W hR ⟨q5, _⟩
            replace q5 : ρ 5 = .int .i64 ((k : Int) + 1) := q5
            refine ⟨rfl, ?_⟩
            exact Rg.run_ok (v := .int .i64 ((k : Int) + 1)) (by simp [execOp, Rg.ev, go_sem, q5]) ⟨rfl, hR, Ext.rfl' _⟩
          refine ⟨Rg.at_run [18, 19] rfl ?_, ?_⟩
          · intro ρ W hR ⟨q18, q19, _⟩
            replace q18 : ρ 18 = .slice (some ad) l.length c := q18
            replace q19 : ρ 19 = .int .i64 ((k : Int) + 1) := q19
            refine ⟨rfl, ?_⟩
            exact Rg.run_ok (v := .pointer (some (ad.add ((k + 1) * 4)))) (by simp [execOp, Rg.ev, go_sem, q18, q19, hb3, hb4']) ⟨rfl, hR, Ext.rfl' _⟩
          refine ⟨Rg.at_run [20] rfl ?_, ?_⟩
          · intro ρ W hR ⟨q20, _⟩
            replace q20 : ρ 20 = .pointer (some (ad.add ((k + 1) * 4))) := q20
            refine ⟨rfl, ?_⟩
            have c0_ : W.cell? (ad.add ((k + 1) * 4)) = some (str b.name) := (hR.cell (p := ad.add ((k + 1) * 4)) hab2).trans r0
            have c1_ : W.cell? (⟨(ad.add ((k + 1) * 4)).block, (ad.add ((k + 1) * 4)).off + 1, none⟩) = some (str b.url) := (hR.cell (p := ⟨(ad.add ((k + 1) * 4)).block, (ad.add ((k + 1) * 4)).off + 1, none⟩) hab2).trans r1
            have c2_ : W.cell? (⟨(ad.add ((k + 1) * 4)).block, (ad.add ((k + 1) * 4)).off + 2, none⟩) = some (.int .u64 b.till) := (hR.cell (p := ⟨(ad.add ((k + 1) * 4)).block, (ad.add ((k + 1) * 4)).off + 2, none⟩) hab2).trans r2
            have c3_ : W.cell? (⟨(ad.add ((k + 1) * 4)).block, (ad.add ((k + 1) * 4)).off + 3, none⟩) = some (.bool b.made) := (hR.cell (p := ⟨(ad.add ((k + 1) * 4)).block, (ad.add ((k + 1) * 4)).off + 3, none⟩) hab2).trans r3
            exact Rg.run_ok (v := .agg #[str b.name, str b.url, .int .u64 b.till, .bool b.made]) (by simp [execOp, Rg.ev, go_sem, q20, c0_, c1_, c2_, c3_]) ⟨rfl, hR, Ext.rfl' _⟩
          refine ⟨Rg.at_run [12, 17, 21] rfl ?_, ?_⟩
          · intro ρ W hR ⟨q12, q17, q21, _⟩
            replace q12 : ρ 12 = .func (.func 80) #[] #[] := q12
            replace q17 : ρ 17 = .agg #[str a.name, str a.url, .int .u64 a.till, .bool a.made] := q17
            replace q21 : ρ 21 = .agg #[str b.name, str b.url, .int .u64 b.till, .bool b.made] := q21
            refine ⟨rfl, ?_⟩
            refine Rg.run_enter (f := 80) (args := #[.agg #[str a.name, str a.url, .int .u64 a.till, .bool a.made], .agg #[str b.name, str b.url, .int .u64 b.till, .bool b.made]]) (W' := W) (by simp [execOp, Rg.ev, go_sem, q12, q17, q21] <;> rfl) ?_
            refine (HC.out W).mono ?_
            rintro e_ w9 ⟨rfl, k2⟩
            exact ⟨_, rfl, rfl, hR.trans' k2, k2⟩
          refine ⟨Rg.at_run [22] rfl ?_, ?_⟩
          · intro ρ W hR ⟨q22, _⟩
            replace q22 : ρ 22 = .bool false := q22
            refine ⟨rfl, ?_⟩
            exact Rg.run_ok (v := .bool true) (by simp [execOp, Rg.ev, go_sem, q22]) ⟨rfl, hR, Ext.rfl' _⟩
          trivial
        case en =>
          intro tm W hR hsz hk
          rw [Rg.fin_eq (ds := [12, 13, 14, 15, 16, 17, 18, 19, 20, 21, 22, 23]) rfl rfl rfl hsz hk]
          have k12 : tm.getD 12 undef = .func (.func 80) #[] #[] := hk 12
          have k13 : tm.getD 13 undef = .slice (some ad) l.length c := hk 13
          have k14 : tm.getD 14 undef = .int .i64 ((k : Int) + 1) := hk 14
          have k15 : tm.getD 15 undef = .int .i64 (k : Int) := hk 15
          have k16 : tm.getD 16 undef = .pointer (some (ad.add (k * 4))) := hk 16
          have k17 : tm.getD 17 undef = .agg #[str a.name, str a.url, .int .u64 a.till, .bool a.made] := hk 17
          have k18 : tm.getD 18 undef = .slice (some ad) l.length c := hk 18
          have k19 : tm.getD 19 undef = .int .i64 ((k : Int) + 1) := hk 19
          have k20 : tm.getD 20 undef = .pointer (some (ad.add ((k + 1) * 4))) := hk 20
          have k21 : tm.getD 21 undef = .agg #[str b.name, str b.url, .int .u64 b.till, .bool b.made] := hk 21
          have k22 : tm.getD 22 undef = .bool false := hk 22
          have k23 : tm.getD 23 undef = .bool true := hk 23
          clear hk hsz
          simp only [Rg.putAll, List.setIfInBounds_toArray, List.set_cons_zero, List.set_cons_succ, k12, k13, k14, k15, k16, k17, k18, k19, k20, k21, k22, k23]
          clear k12
          clear k13
          clear k14
          clear k15
          clear k16
          clear k17
          clear k18
          clear k19
          clear k20
          clear k21
          clear k22
          clear k23
          refine Rg.nil_list ?_
          go_wp2
          go_ret
          exact ⟨by rw [hsm.out, HS.out, HB.out, Bool.false_and]; rfl, hxr.trans' hR⟩
    · have HN : Hid (res = true) := hide (by rw [hsm.out]; exact rises_end _ (by omega))
      go_wp2
      go_ret
      exact ⟨by rw [HN.out]; rfl, hxr⟩
set_option maxHeartbeats 6400000 in
theorem risesapi_Session_b (x : Value) (l : List Se) (w : World) (hx : Enc.Sl seE w noneAt x l) : Calls Tryz.prog 81 #[x, .func (.func 82) #[] #[]] w fun e w' => e = .returned (.bool (risesB (fun a b => decide (a.client < b.client)) l)) ∧ Ext w w' := by
  obtain ⟨A, c, rfl, k1, k2⟩ := hx.form
  unfold maxLen at k2
  obtain ⟨res, hres⟩ : ∃ r, risesB (fun a b => decide (a.client < b.client)) l = r := ⟨_, rfl⟩
  rw [hres]
  have HRES := hide hres
  clear hres
  go_enter Tryz.func81, Tryz.ntmps81
  go_wp2_with fail
  go_loopw [5] (fun vi wr => ∃ k : Nat, (k : Int) ≤ l.length ∧ vi = .int .i64 ((k : Int) + 1) ∧ Hid (res = risesB (fun a b => decide (a.client < b.client)) (l.drop k)) ∧ Ext w wr) (fun vi _ => (l.length + 1 - intOf vi).toNat)
  case atStart => exact ⟨0, by omega, by go_num, hide (by rw [← HRES.out, List.drop_zero]), Ext.rfl' _⟩
  case round =>
    obtain ⟨k, hk, rfl, hsm, hxr⟩ := hrel
    by_cases hlt : (k : Int) + 1 < l.length
    · have HLT := hide hlt
      obtain ⟨ad, a, va, rfl, ha, hb, p0, p1, p2, -⟩ := se_at (hx.ext hxr) (k := k) (by omega)
      obtain ⟨ad2, b, vb, hadd, hb_, hbb, r0, r1, r2, -⟩ := se_at (hx.ext hxr) (k := k + 1) (by omega)
      obtain rfl := Option.some.inj hadd
      have hab : (ad.add (k * 3)).block < wr.heap.size := by rw [block_of_add]; exact hb
      have hab2 : (ad.add ((k + 1) * 3)).block < wr.heap.size := by rw [block_of_add]; exact hb
      have hb1 : (0 : Int) ≤ k := by omega
      have hb2' : (k : Int) < l.length := by omega
      have hb3 : (0 : Int) ≤ (k : Int) + 1 := by omega
      have hb4' : (k : Int) + 1 < l.length := hlt
      have HW : IntKind.i64.wrap ((k : Int) + 1 - 1) = (k : Int) := by rw [Int.add_sub_cancel]; exact IntWalk.i64_in _ ⟨by omega, by omega⟩
      have HW2 : IntKind.i64.wrap (k : Int) = (k : Int) := IntWalk.i64_in _ ⟨by omega, by omega⟩
      have HS := hide (rises_step (fun a b => decide (a.client < b.client)) ha.out hb_.out)
      rcases Bool.eq_false_or_eq_true (decide (a.client < b.client)) with hbv | hbv
      · have HB : Hid ((decide (a.client < b.client)) = true) := hide hbv
        have HC := hide (fun W : World => stands2_b a b va vb W)
        replace hbv : (decide (a.client < b.client)) = true := hbv
        rw [hbv] at HC
        clear hbv
        go_upto_region 4 with fail
        refine Rg.regionT Tryz.checked.mixed 24 12 (by kernel_rfl) [
          (fun x_ _ => x_ = .func (.func 82) #[] #[]),
          (fun x_ _ => x_ = .slice (some ad) l.length c),
          (fun x_ _ => x_ = .int .i64 ((k : Int) + 1)),
          (fun x_ _ => x_ = .int .i64 (k : Int)),
          (fun x_ _ => x_ = .pointer (some (ad.add (k * 3)))),
          (fun x_ _ => x_ = .agg #[.int .i64 a.client, .int .u64 a.high, va]),
          (fun x_ _ => x_ = .slice (some ad) l.length c),
          (fun x_ _ => x_ = .int .i64 ((k : Int) + 1)),
          (fun x_ _ => x_ = .pointer (some (ad.add ((k + 1) * 3)))),
          (fun x_ _ => x_ = .agg #[.int .i64 b.client, .int .u64 b.high, vb]),
          (fun x_ _ => x_ = .bool true),
          (fun x_ _ => x_ = .bool false)] (fun W => Ext wr W) Ext rfl rfl rfl
          ?st ((Ext.rfl' wr).drew') ?ob ?en
        case st => exact ⟨fun _ _ _ h _ => h, fun _ _ _ h _ => h, fun _ _ _ h _ => h, fun _ _ _ h _ => h, fun _ _ _ h _ => h, fun _ _ _ h _ => h, fun _ _ _ h _ => h, fun _ _ _ h _ => h, fun _ _ _ h _ => h, fun _ _ _ h _ => h, fun _ _ _ h _ => h, fun _ _ _ h _ => h, trivial⟩
        case ob =>
          refine ⟨Rg.at_run [1] rfl ?_, ?_⟩
          · intro ρ W hR ⟨q1, _⟩
            replace q1 : ρ 1 = .func (.func 82) #[] #[] := q1
            refine ⟨rfl, ?_⟩
            exact Rg.run_ok (v := .func (.func 82) #[] #[]) (by simp [execOp, Rg.ev, go_sem, q1]) ⟨rfl, hR, Ext.rfl' _⟩
          refine ⟨Rg.at_run [0] rfl ?_, ?_⟩
          · intro ρ W hR ⟨q0, _⟩
            replace q0 : ρ 0 = .slice (some ad) l.length c := q0
            refine ⟨rfl, ?_⟩
            exact Rg.run_ok (v := .slice (some ad) l.length c) (by simp [execOp, Rg.ev, go_sem, q0]) ⟨rfl, hR, Ext.rfl' _⟩
          refine ⟨Rg.at_run [5] rfl ?_, ?_⟩
          · intro ρ W hR ⟨q5, _⟩
            replace q5 : ρ 5 = .int .i64 ((k : Int) + 1) := q5
            refine ⟨rfl, ?_⟩
            exact Rg.run_ok (v := .int .i64 ((k : Int) + 1)) (by simp [execOp, Rg.ev, go_sem, q5]) ⟨rfl, hR, Ext.rfl' _⟩
          refine ⟨Rg.at_run [14] rfl ?_, ?_⟩
          · intro ρ W hR ⟨q14, _⟩
            replace q14 : ρ 14 = .int .i64 ((k : Int) + 1) := q14
            refine ⟨rfl, ?_⟩
            exact Rg.run_ok (v := .int .i64 (k : Int)) (by simp [execOp, Rg.ev, go_sem, q14, HW, HW2]) ⟨rfl, hR, Ext.rfl' _⟩
          refine ⟨Rg.at_run [13, 15] rfl ?_, ?_⟩
          · intro ρ W hR ⟨q13, q15, _⟩
            replace q13 : ρ 13 = .slice (some ad) l.length c := q13
            replace q15 : ρ 15 = .int .i64 (k : Int) := q15
            refine ⟨rfl, ?_⟩
            exact Rg.run_ok (v := .pointer (some (ad.add (k * 3)))) (by simp [execOp, Rg.ev, go_sem, q13, q15, hb1, hb2']) ⟨rfl, hR, Ext.rfl' _⟩
          refine ⟨Rg.at_run [16] rfl ?_, ?_⟩
          · intro ρ W hR ⟨q16, _⟩
            replace q16 : ρ 16 = .pointer (some (ad.add (k * 3))) := q16
            refine ⟨rfl, ?_⟩
            have c0_ : W.cell? (ad.add (k * 3)) = some (.int .i64 a.client) := (hR.cell (p := ad.add (k * 3)) hab).trans p0
            have c1_ : W.cell? (⟨(ad.add (k * 3)).block, (ad.add (k * 3)).off + 1, none⟩) = some (.int .u64 a.high) := (hR.cell (p := ⟨(ad.add (k * 3)).block, (ad.add (k * 3)).off + 1, none⟩) hab).trans p1
            have c2_ : W.cell? (⟨(ad.add (k * 3)).block, (ad.add (k * 3)).off + 2, none⟩) = some (va) := (hR.cell (p := ⟨(ad.add (k * 3)).block, (ad.add (k * 3)).off + 2, none⟩) hab).trans p2
            exact Rg.run_ok (v := .agg #[.int .i64 a.client, .int .u64 a.high, va]) (by simp [execOp, Rg.ev, go_sem, q16, c0_, c1_, c2_]) ⟨rfl, hR, Ext.rfl' _⟩
          refine ⟨Rg.at_run [0] rfl ?_, ?_⟩
          · intro ρ W hR ⟨q0, _⟩
            replace q0 : ρ 0 = .slice (some ad) l.length c := q0
            refine ⟨rfl, ?_⟩
            exact Rg.run_ok (v := .slice (some ad) l.length c) (by simp [execOp, Rg.ev, go_sem, q0]) ⟨rfl, hR, Ext.rfl' _⟩
          refine ⟨Rg.at_run [5] rfl ?_, ?_⟩
          · intro ρ W hR ⟨q5, _⟩
            replace q5 : ρ 5 = .int .i64 ((k : Int) + 1) := q5
            refine ⟨rfl, ?_⟩
            exact Rg.run_ok (v := .int .i64 ((k : Int) + 1)) (by simp [execOp, Rg.ev, go_sem, q5]) ⟨rfl, hR, Ext.rfl' _⟩
          refine ⟨Rg.at_run [18, 19] rfl ?_, ?_⟩
          · intro ρ W hR ⟨q18, q19, _⟩
            replace q18 : ρ 18 = .slice (some ad) l.length c := q18
            replace q19 : ρ 19 = .int .i64 ((k : Int) + 1) := q19
            refine ⟨rfl, ?_⟩
            exact Rg.run_ok (v := .pointer (some (ad.add ((k + 1) * 3)))) (by simp [execOp, Rg.ev, go_sem, q18, q19, hb3, hb4']) ⟨rfl, hR, Ext.rfl' _⟩
          refine ⟨Rg.at_run [20] rfl ?_, ?_⟩
          · intro ρ W hR ⟨q20, _⟩
            replace q20 : ρ 20 = .pointer (some (ad.add ((k + 1) * 3))) := q20
            refine ⟨rfl, ?_⟩
            have c0_ : W.cell? (ad.add ((k + 1) * 3)) = some (.int .i64 b.client) := (hR.cell (p := ad.add ((k + 1) * 3)) hab2).trans r0
            have c1_ : W.cell? (⟨(ad.add ((k + 1) * 3)).block, (ad.add ((k + 1) * 3)).off + 1, none⟩) = some (.int .u64 b.high) := (hR.cell (p := ⟨(ad.add ((k + 1) * 3)).block, (ad.add ((k + 1) * 3)).off + 1, none⟩) hab2).trans r1
            have c2_ : W.cell? (⟨(ad.add ((k + 1) * 3)).block, (ad.add ((k + 1) * 3)).off + 2, none⟩) = some (vb) := (hR.cell (p := ⟨(ad.add ((k + 1) * 3)).block, (ad.add ((k + 1) * 3)).off + 2, none⟩) hab2).trans r2
            exact Rg.run_ok (v := .agg #[.int .i64 b.client, .int .u64 b.high, vb]) (by simp [execOp, Rg.ev, go_sem, q20, c0_, c1_, c2_]) ⟨rfl, hR, Ext.rfl' _⟩
          refine ⟨Rg.at_run [12, 17, 21] rfl ?_, ?_⟩
          · intro ρ W hR ⟨q12, q17, q21, _⟩
            replace q12 : ρ 12 = .func (.func 82) #[] #[] := q12
            replace q17 : ρ 17 = .agg #[.int .i64 a.client, .int .u64 a.high, va] := q17
            replace q21 : ρ 21 = .agg #[.int .i64 b.client, .int .u64 b.high, vb] := q21
            refine ⟨rfl, ?_⟩
            refine Rg.run_enter (f := 82) (args := #[.agg #[.int .i64 a.client, .int .u64 a.high, va], .agg #[.int .i64 b.client, .int .u64 b.high, vb]]) (W' := W) (by simp [execOp, Rg.ev, go_sem, q12, q17, q21] <;> rfl) ?_
            refine (HC.out W).mono ?_
            rintro e_ w9 ⟨rfl, k2⟩
            exact ⟨_, rfl, rfl, hR.trans' k2, k2⟩
          refine ⟨Rg.at_run [22] rfl ?_, ?_⟩
          · intro ρ W hR ⟨q22, _⟩
            replace q22 : ρ 22 = .bool true := q22
            refine ⟨rfl, ?_⟩
            exact Rg.run_ok (v := .bool false) (by simp [execOp, Rg.ev, go_sem, q22]) ⟨rfl, hR, Ext.rfl' _⟩
          trivial
        case en =>
          intro tm W hR hsz hk
          rw [Rg.fin_eq (ds := [12, 13, 14, 15, 16, 17, 18, 19, 20, 21, 22, 23]) rfl rfl rfl hsz hk]
          have k12 : tm.getD 12 undef = .func (.func 82) #[] #[] := hk 12
          have k13 : tm.getD 13 undef = .slice (some ad) l.length c := hk 13
          have k14 : tm.getD 14 undef = .int .i64 ((k : Int) + 1) := hk 14
          have k15 : tm.getD 15 undef = .int .i64 (k : Int) := hk 15
          have k16 : tm.getD 16 undef = .pointer (some (ad.add (k * 3))) := hk 16
          have k17 : tm.getD 17 undef = .agg #[.int .i64 a.client, .int .u64 a.high, va] := hk 17
          have k18 : tm.getD 18 undef = .slice (some ad) l.length c := hk 18
          have k19 : tm.getD 19 undef = .int .i64 ((k : Int) + 1) := hk 19
          have k20 : tm.getD 20 undef = .pointer (some (ad.add ((k + 1) * 3))) := hk 20
          have k21 : tm.getD 21 undef = .agg #[.int .i64 b.client, .int .u64 b.high, vb] := hk 21
          have k22 : tm.getD 22 undef = .bool true := hk 22
          have k23 : tm.getD 23 undef = .bool false := hk 23
          clear hk hsz
          simp only [Rg.putAll, List.setIfInBounds_toArray, List.set_cons_zero, List.set_cons_succ, k12, k13, k14, k15, k16, k17, k18, k19, k20, k21, k22, k23]
          clear k12
          clear k13
          clear k14
          clear k15
          clear k16
          clear k17
          clear k18
          clear k19
          clear k20
          clear k21
          clear k22
          clear k23
          refine Rg.nil_list ?_
          go_wp2
          go_roundw
          case rel => exact ⟨k + 1, by have := HLT.out; omega, by go_num, hide (by rw [hsm.out, HS.out, HB.out, Bool.true_and]), hxr.trans' hR⟩
          case measure => have := HLT.out; simp [intOf]; omega
      · have HB : Hid ((decide (a.client < b.client)) = false) := hide hbv
        have HC := hide (fun W : World => stands2_b a b va vb W)
        replace hbv : (decide (a.client < b.client)) = false := hbv
        rw [hbv] at HC
        clear hbv
        go_upto_region 4 with fail
        refine Rg.regionT Tryz.checked.mixed 24 12 (by kernel_rfl) [
          (fun x_ _ => x_ = .func (.func 82) #[] #[]),
          (fun x_ _ => x_ = .slice (some ad) l.length c),
          (fun x_ _ => x_ = .int .i64 ((k : Int) + 1)),
          (fun x_ _ => x_ = .int .i64 (k : Int)),
          (fun x_ _ => x_ = .pointer (some (ad.add (k * 3)))),
          (fun x_ _ => x_ = .agg #[.int .i64 a.client, .int .u64 a.high, va]),
          (fun x_ _ => x_ = .slice (some ad) l.length c),
          (fun x_ _ => x_ = .int .i64 ((k : Int) + 1)),
          (fun x_ _ => x_ = .pointer (some (ad.add ((k + 1) * 3)))),
          (fun x_ _ => x_ = .agg #[.int .i64 b.client, .int .u64 b.high, vb]),
          (fun x_ _ => x_ = .bool false),
          (fun x_ _ => x_ = .bool true)] (fun W => Ext wr W) Ext rfl rfl rfl
          ?st ((Ext.rfl' wr).drew') ?ob ?en
        case st => exact ⟨fun _ _ _ h _ => h, fun _ _ _ h _ => h, fun _ _ _ h _ => h, fun _ _ _ h _ => h, fun _ _ _ h _ => h, fun _ _ _ h _ => h, fun _ _ _ h _ => h, fun _ _ _ h _ => h, fun _ _ _ h _ => h, fun _ _ _ h _ => h, fun _ _ _ h _ => h, fun _ _ _ h _ => h, trivial⟩
        case ob =>
          refine ⟨Rg.at_run [1] rfl ?_, ?_⟩
          · intro ρ W hR ⟨q1, _⟩
            replace q1 : ρ 1 = .func (.func 82) #[] #[] := q1
            refine ⟨rfl, ?_⟩
            exact Rg.run_ok (v := .func (.func 82) #[] #[]) (by simp [execOp, Rg.ev, go_sem, q1]) ⟨rfl, hR, Ext.rfl' _⟩
          refine ⟨Rg.at_run [0] rfl ?_, ?_⟩
          · intro ρ W hR ⟨q0, _⟩
            replace q0 : ρ 0 = .slice (some ad) l.length c := q0
            refine ⟨rfl, ?_⟩
            exact Rg.run_ok (v := .slice (some ad) l.length c) (by simp [execOp, Rg.ev, go_sem, q0]) ⟨rfl, hR, Ext.rfl' _⟩
          refine ⟨Rg.at_run [5] rfl ?_, ?_⟩
          · intro ρ W hR ⟨q5, _⟩
            replace q5 : ρ 5 = .int .i64 ((k : Int) + 1) := q5
            refine ⟨rfl, ?_⟩
            exact Rg.run_ok (v := .int .i64 ((k : Int) + 1)) (by simp [execOp, Rg.ev, go_sem, q5]) ⟨rfl, hR, Ext.rfl' _⟩
          refine ⟨Rg.at_run [14] rfl ?_, ?_⟩
          · intro ρ W hR ⟨q14, _⟩
            replace q14 : ρ 14 = .int .i64 ((k : Int) + 1) := q14
            refine ⟨rfl, ?_⟩
            exact Rg.run_ok (v := .int .i64 (k : Int)) (by simp [execOp, Rg.ev, go_sem, q14, HW, HW2]) ⟨rfl, hR, Ext.rfl' _⟩
          refine ⟨Rg.at_run [13, 15] rfl ?_, ?_⟩
          · intro ρ W hR ⟨q13, q15, _⟩
            replace q13 : ρ 13 = .slice (some ad) l.length c := q13
            replace q15 : ρ 15 = .int .i64 (k : Int) := q15
            refine ⟨rfl, ?_⟩
            exact Rg.run_ok (v := .pointer (some (ad.add (k * 3)))) (by simp [execOp, Rg.ev, go_sem, q13, q15, hb1, hb2']) ⟨rfl, hR, Ext.rfl' _⟩
          refine ⟨Rg.at_run [16] rfl ?_, ?_⟩
          · intro ρ W hR ⟨q16, _⟩
            replace q16 : ρ 16 = .pointer (some (ad.add (k * 3))) := q16
            refine ⟨rfl, ?_⟩
            have c0_ : W.cell? (ad.add (k * 3)) = some (.int .i64 a.client) := (hR.cell (p := ad.add (k * 3)) hab).trans p0
            have c1_ : W.cell? (⟨(ad.add (k * 3)).block, (ad.add (k * 3)).off + 1, none⟩) = some (.int .u64 a.high) := (hR.cell (p := ⟨(ad.add (k * 3)).block, (ad.add (k * 3)).off + 1, none⟩) hab).trans p1
            have c2_ : W.cell? (⟨(ad.add (k * 3)).block, (ad.add (k * 3)).off + 2, none⟩) = some (va) := (hR.cell (p := ⟨(ad.add (k * 3)).block, (ad.add (k * 3)).off + 2, none⟩) hab).trans p2
            exact Rg.run_ok (v := .agg #[.int .i64 a.client, .int .u64 a.high, va]) (by simp [execOp, Rg.ev, go_sem, q16, c0_, c1_, c2_]) ⟨rfl, hR, Ext.rfl' _⟩
          refine ⟨Rg.at_run [0] rfl ?_, ?_⟩
          · intro ρ W hR ⟨q0, _⟩
            replace q0 : ρ 0 = .slice (some ad) l.length c := q0
            refine ⟨rfl, ?_⟩
            exact Rg.run_ok (v := .slice (some ad) l.length c) (by simp [execOp, Rg.ev, go_sem, q0]) ⟨rfl, hR, Ext.rfl' _⟩
          refine ⟨Rg.at_run [5] rfl ?_, ?_⟩
          · intro ρ W hR ⟨q5, _⟩
            replace q5 : ρ 5 = .int .i64 ((k : Int) + 1) := q5
            refine ⟨rfl, ?_⟩
            exact Rg.run_ok (v := .int .i64 ((k : Int) + 1)) (by simp [execOp, Rg.ev, go_sem, q5]) ⟨rfl, hR, Ext.rfl' _⟩
          refine ⟨Rg.at_run [18, 19] rfl ?_, ?_⟩
          · intro ρ W hR ⟨q18, q19, _⟩
            replace q18 : ρ 18 = .slice (some ad) l.length c := q18
            replace q19 : ρ 19 = .int .i64 ((k : Int) + 1) := q19
            refine ⟨rfl, ?_⟩
            exact Rg.run_ok (v := .pointer (some (ad.add ((k + 1) * 3)))) (by simp [execOp, Rg.ev, go_sem, q18, q19, hb3, hb4']) ⟨rfl, hR, Ext.rfl' _⟩
          refine ⟨Rg.at_run [20] rfl ?_, ?_⟩
          · intro ρ W hR ⟨q20, _⟩
            replace q20 : ρ 20 = .pointer (some (ad.add ((k + 1) * 3))) := q20
            refine ⟨rfl, ?_⟩
            have c0_ : W.cell? (ad.add ((k + 1) * 3)) = some (.int .i64 b.client) := (hR.cell (p := ad.add ((k + 1) * 3)) hab2).trans r0
            have c1_ : W.cell? (⟨(ad.add ((k + 1) * 3)).block, (ad.add ((k + 1) * 3)).off + 1, none⟩) = some (.int .u64 b.high) := (hR.cell (p := ⟨(ad.add ((k + 1) * 3)).block, (ad.add ((k + 1) * 3)).off + 1, none⟩) hab2).trans r1
            have c2_ : W.cell? (⟨(ad.add ((k + 1) * 3)).block, (ad.add ((k + 1) * 3)).off + 2, none⟩) = some (vb) := (hR.cell (p := ⟨(ad.add ((k + 1) * 3)).block, (ad.add ((k + 1) * 3)).off + 2, none⟩) hab2).trans r2
            exact Rg.run_ok (v := .agg #[.int .i64 b.client, .int .u64 b.high, vb]) (by simp [execOp, Rg.ev, go_sem, q20, c0_, c1_, c2_]) ⟨rfl, hR, Ext.rfl' _⟩
          refine ⟨Rg.at_run [12, 17, 21] rfl ?_, ?_⟩
          · intro ρ W hR ⟨q12, q17, q21, _⟩
            replace q12 : ρ 12 = .func (.func 82) #[] #[] := q12
            replace q17 : ρ 17 = .agg #[.int .i64 a.client, .int .u64 a.high, va] := q17
            replace q21 : ρ 21 = .agg #[.int .i64 b.client, .int .u64 b.high, vb] := q21
            refine ⟨rfl, ?_⟩
            refine Rg.run_enter (f := 82) (args := #[.agg #[.int .i64 a.client, .int .u64 a.high, va], .agg #[.int .i64 b.client, .int .u64 b.high, vb]]) (W' := W) (by simp [execOp, Rg.ev, go_sem, q12, q17, q21] <;> rfl) ?_
            refine (HC.out W).mono ?_
            rintro e_ w9 ⟨rfl, k2⟩
            exact ⟨_, rfl, rfl, hR.trans' k2, k2⟩
          refine ⟨Rg.at_run [22] rfl ?_, ?_⟩
          · intro ρ W hR ⟨q22, _⟩
            replace q22 : ρ 22 = .bool false := q22
            refine ⟨rfl, ?_⟩
            exact Rg.run_ok (v := .bool true) (by simp [execOp, Rg.ev, go_sem, q22]) ⟨rfl, hR, Ext.rfl' _⟩
          trivial
        case en =>
          intro tm W hR hsz hk
          rw [Rg.fin_eq (ds := [12, 13, 14, 15, 16, 17, 18, 19, 20, 21, 22, 23]) rfl rfl rfl hsz hk]
          have k12 : tm.getD 12 undef = .func (.func 82) #[] #[] := hk 12
          have k13 : tm.getD 13 undef = .slice (some ad) l.length c := hk 13
          have k14 : tm.getD 14 undef = .int .i64 ((k : Int) + 1) := hk 14
          have k15 : tm.getD 15 undef = .int .i64 (k : Int) := hk 15
          have k16 : tm.getD 16 undef = .pointer (some (ad.add (k * 3))) := hk 16
          have k17 : tm.getD 17 undef = .agg #[.int .i64 a.client, .int .u64 a.high, va] := hk 17
          have k18 : tm.getD 18 undef = .slice (some ad) l.length c := hk 18
          have k19 : tm.getD 19 undef = .int .i64 ((k : Int) + 1) := hk 19
          have k20 : tm.getD 20 undef = .pointer (some (ad.add ((k + 1) * 3))) := hk 20
          have k21 : tm.getD 21 undef = .agg #[.int .i64 b.client, .int .u64 b.high, vb] := hk 21
          have k22 : tm.getD 22 undef = .bool false := hk 22
          have k23 : tm.getD 23 undef = .bool true := hk 23
          clear hk hsz
          simp only [Rg.putAll, List.setIfInBounds_toArray, List.set_cons_zero, List.set_cons_succ, k12, k13, k14, k15, k16, k17, k18, k19, k20, k21, k22, k23]
          clear k12
          clear k13
          clear k14
          clear k15
          clear k16
          clear k17
          clear k18
          clear k19
          clear k20
          clear k21
          clear k22
          clear k23
          refine Rg.nil_list ?_
          go_wp2
          go_ret
          exact ⟨by rw [hsm.out, HS.out, HB.out, Bool.false_and]; rfl, hxr.trans' hR⟩
    · have HN : Hid (res = true) := hide (by rw [hsm.out]; exact rises_end _ (by omega))
      go_wp2
      go_ret
      exact ⟨by rw [HN.out]; rfl, hxr⟩
set_option maxHeartbeats 6400000 in
theorem risesapi_Done_b (x : Value) (l : List Dn) (w : World) (hx : Enc.Sl dnE w noneAt x l) : Calls Tryz.prog 83 #[x, .func (.func 84) #[] #[]] w fun e w' => e = .returned (.bool (risesB (fun a b => decide (a.seq < b.seq)) l)) ∧ Ext w w' := by
  obtain ⟨A, c, rfl, k1, k2⟩ := hx.form
  unfold maxLen at k2
  obtain ⟨res, hres⟩ : ∃ r, risesB (fun a b => decide (a.seq < b.seq)) l = r := ⟨_, rfl⟩
  rw [hres]
  have HRES := hide hres
  clear hres
  go_enter Tryz.func83, Tryz.ntmps83
  go_wp2_with fail
  go_loopw [5] (fun vi wr => ∃ k : Nat, (k : Int) ≤ l.length ∧ vi = .int .i64 ((k : Int) + 1) ∧ Hid (res = risesB (fun a b => decide (a.seq < b.seq)) (l.drop k)) ∧ Ext w wr) (fun vi _ => (l.length + 1 - intOf vi).toNat)
  case atStart => exact ⟨0, by omega, by go_num, hide (by rw [← HRES.out, List.drop_zero]), Ext.rfl' _⟩
  case round =>
    obtain ⟨k, hk, rfl, hsm, hxr⟩ := hrel
    by_cases hlt : (k : Int) + 1 < l.length
    · have HLT := hide hlt
      obtain ⟨ad, a, rfl, ha, hb, p0, p1, p2, -⟩ := dn_at (hx.ext hxr) (k := k) (by omega)
      obtain ⟨ad2, b, hadd, hb_, hbb, r0, r1, r2, -⟩ := dn_at (hx.ext hxr) (k := k + 1) (by omega)
      obtain rfl := Option.some.inj hadd
      have hab : (ad.add (k * 3)).block < wr.heap.size := by rw [block_of_add]; exact hb
      have hab2 : (ad.add ((k + 1) * 3)).block < wr.heap.size := by rw [block_of_add]; exact hb
      have hb1 : (0 : Int) ≤ k := by omega
      have hb2' : (k : Int) < l.length := by omega
      have hb3 : (0 : Int) ≤ (k : Int) + 1 := by omega
      have hb4' : (k : Int) + 1 < l.length := hlt
      have HW : IntKind.i64.wrap ((k : Int) + 1 - 1) = (k : Int) := by rw [Int.add_sub_cancel]; exact IntWalk.i64_in _ ⟨by omega, by omega⟩
      have HW2 : IntKind.i64.wrap (k : Int) = (k : Int) := IntWalk.i64_in _ ⟨by omega, by omega⟩
      have HS := hide (rises_step (fun a b => decide (a.seq < b.seq)) ha.out hb_.out)
      rcases Bool.eq_false_or_eq_true (decide (a.seq < b.seq)) with hbv | hbv
      · have HB : Hid ((decide (a.seq < b.seq)) = true) := hide hbv
        have HC := hide (fun W : World => stands3_b a b W)
        replace hbv : (decide (a.seq < b.seq)) = true := hbv
        rw [hbv] at HC
        clear hbv
        go_upto_region 4 with fail
        refine Rg.regionT Tryz.checked.mixed 24 12 (by kernel_rfl) [
          (fun x_ _ => x_ = .func (.func 84) #[] #[]),
          (fun x_ _ => x_ = .slice (some ad) l.length c),
          (fun x_ _ => x_ = .int .i64 ((k : Int) + 1)),
          (fun x_ _ => x_ = .int .i64 (k : Int)),
          (fun x_ _ => x_ = .pointer (some (ad.add (k * 3)))),
          (fun x_ _ => x_ = .agg #[.int .u64 a.seq, .int .i64 a.an.err, str a.an.text]),
          (fun x_ _ => x_ = .slice (some ad) l.length c),
          (fun x_ _ => x_ = .int .i64 ((k : Int) + 1)),
          (fun x_ _ => x_ = .pointer (some (ad.add ((k + 1) * 3)))),
          (fun x_ _ => x_ = .agg #[.int .u64 b.seq, .int .i64 b.an.err, str b.an.text]),
          (fun x_ _ => x_ = .bool true),
          (fun x_ _ => x_ = .bool false)] (fun W => Ext wr W) Ext rfl rfl rfl
          ?st ((Ext.rfl' wr).drew') ?ob ?en
        case st => exact ⟨fun _ _ _ h _ => h, fun _ _ _ h _ => h, fun _ _ _ h _ => h, fun _ _ _ h _ => h, fun _ _ _ h _ => h, fun _ _ _ h _ => h, fun _ _ _ h _ => h, fun _ _ _ h _ => h, fun _ _ _ h _ => h, fun _ _ _ h _ => h, fun _ _ _ h _ => h, fun _ _ _ h _ => h, trivial⟩
        case ob =>
          refine ⟨Rg.at_run [1] rfl ?_, ?_⟩
          · intro ρ W hR ⟨q1, _⟩
            replace q1 : ρ 1 = .func (.func 84) #[] #[] := q1
            refine ⟨rfl, ?_⟩
            exact Rg.run_ok (v := .func (.func 84) #[] #[]) (by simp [execOp, Rg.ev, go_sem, q1]) ⟨rfl, hR, Ext.rfl' _⟩
          refine ⟨Rg.at_run [0] rfl ?_, ?_⟩
          · intro ρ W hR ⟨q0, _⟩
            replace q0 : ρ 0 = .slice (some ad) l.length c := q0
            refine ⟨rfl, ?_⟩
            exact Rg.run_ok (v := .slice (some ad) l.length c) (by simp [execOp, Rg.ev, go_sem, q0]) ⟨rfl, hR, Ext.rfl' _⟩
          refine ⟨Rg.at_run [5] rfl ?_, ?_⟩
          · intro ρ W hR ⟨q5, _⟩
            replace q5 : ρ 5 = .int .i64 ((k : Int) + 1) := q5
            refine ⟨rfl, ?_⟩
            exact Rg.run_ok (v := .int .i64 ((k : Int) + 1)) (by simp [execOp, Rg.ev, go_sem, q5]) ⟨rfl, hR, Ext.rfl' _⟩
          refine ⟨Rg.at_run [14] rfl ?_, ?_⟩
          · intro ρ W hR ⟨q14, _⟩
            replace q14 : ρ 14 = .int .i64 ((k : Int) + 1) := q14
            refine ⟨rfl, ?_⟩
            exact Rg.run_ok (v := .int .i64 (k : Int)) (by simp [execOp, Rg.ev, go_sem, q14, HW, HW2]) ⟨rfl, hR, Ext.rfl' _⟩
          refine ⟨Rg.at_run [13, 15] rfl ?_, ?_⟩
          · intro ρ W hR ⟨q13, q15, _⟩
            replace q13 : ρ 13 = .slice (some ad) l.length c := q13
            replace q15 : ρ 15 = .int .i64 (k : Int) := q15
            refine ⟨rfl, ?_⟩
            exact Rg.run_ok (v := .pointer (some (ad.add (k * 3)))) (by simp [execOp, Rg.ev, go_sem, q13, q15, hb1, hb2']) ⟨rfl, hR, Ext.rfl' _⟩
          refine ⟨Rg.at_run [16] rfl ?_, ?_⟩
          · intro ρ W hR ⟨q16, _⟩
            replace q16 : ρ 16 = .pointer (some (ad.add (k * 3))) := q16
            refine ⟨rfl, ?_⟩
            have c0_ : W.cell? (ad.add (k * 3)) = some (.int .u64 a.seq) := (hR.cell (p := ad.add (k * 3)) hab).trans p0
            have c1_ : W.cell? (⟨(ad.add (k * 3)).block, (ad.add (k * 3)).off + 1, none⟩) = some (.int .i64 a.an.err) := (hR.cell (p := ⟨(ad.add (k * 3)).block, (ad.add (k * 3)).off + 1, none⟩) hab).trans p1
            have c2_ : W.cell? (⟨(ad.add (k * 3)).block, (ad.add (k * 3)).off + 2, none⟩) = some (str a.an.text) := (hR.cell (p := ⟨(ad.add (k * 3)).block, (ad.add (k * 3)).off + 2, none⟩) hab).trans p2
            exact Rg.run_ok (v := .agg #[.int .u64 a.seq, .int .i64 a.an.err, str a.an.text]) (by simp [execOp, Rg.ev, go_sem, q16, c0_, c1_, c2_]) ⟨rfl, hR, Ext.rfl' _⟩
          refine ⟨Rg.at_run [0] rfl ?_, ?_⟩
          · intro ρ W hR ⟨q0, _⟩
            replace q0 : ρ 0 = .slice (some ad) l.length c := q0
            refine ⟨rfl, ?_⟩
            exact Rg.run_ok (v := .slice (some ad) l.length c) (by simp [execOp, Rg.ev, go_sem, q0]) ⟨rfl, hR, Ext.rfl' _⟩
          refine ⟨Rg.at_run [5] rfl ?_, ?_⟩
          · intro ρ W hR ⟨q5, _⟩
            replace q5 : ρ 5 = .int .i64 ((k : Int) + 1) := q5
            refine ⟨rfl, ?_⟩
            exact Rg.run_ok (v := .int .i64 ((k : Int) + 1)) (by simp [execOp, Rg.ev, go_sem, q5]) ⟨rfl, hR, Ext.rfl' _⟩
          refine ⟨Rg.at_run [18, 19] rfl ?_, ?_⟩
          · intro ρ W hR ⟨q18, q19, _⟩
            replace q18 : ρ 18 = .slice (some ad) l.length c := q18
            replace q19 : ρ 19 = .int .i64 ((k : Int) + 1) := q19
            refine ⟨rfl, ?_⟩
            exact Rg.run_ok (v := .pointer (some (ad.add ((k + 1) * 3)))) (by simp [execOp, Rg.ev, go_sem, q18, q19, hb3, hb4']) ⟨rfl, hR, Ext.rfl' _⟩
          refine ⟨Rg.at_run [20] rfl ?_, ?_⟩
          · intro ρ W hR ⟨q20, _⟩
            replace q20 : ρ 20 = .pointer (some (ad.add ((k + 1) * 3))) := q20
            refine ⟨rfl, ?_⟩
            have c0_ : W.cell? (ad.add ((k + 1) * 3)) = some (.int .u64 b.seq) := (hR.cell (p := ad.add ((k + 1) * 3)) hab2).trans r0
            have c1_ : W.cell? (⟨(ad.add ((k + 1) * 3)).block, (ad.add ((k + 1) * 3)).off + 1, none⟩) = some (.int .i64 b.an.err) := (hR.cell (p := ⟨(ad.add ((k + 1) * 3)).block, (ad.add ((k + 1) * 3)).off + 1, none⟩) hab2).trans r1
            have c2_ : W.cell? (⟨(ad.add ((k + 1) * 3)).block, (ad.add ((k + 1) * 3)).off + 2, none⟩) = some (str b.an.text) := (hR.cell (p := ⟨(ad.add ((k + 1) * 3)).block, (ad.add ((k + 1) * 3)).off + 2, none⟩) hab2).trans r2
            exact Rg.run_ok (v := .agg #[.int .u64 b.seq, .int .i64 b.an.err, str b.an.text]) (by simp [execOp, Rg.ev, go_sem, q20, c0_, c1_, c2_]) ⟨rfl, hR, Ext.rfl' _⟩
          refine ⟨Rg.at_run [12, 17, 21] rfl ?_, ?_⟩
          · intro ρ W hR ⟨q12, q17, q21, _⟩
            replace q12 : ρ 12 = .func (.func 84) #[] #[] := q12
            replace q17 : ρ 17 = .agg #[.int .u64 a.seq, .int .i64 a.an.err, str a.an.text] := q17
            replace q21 : ρ 21 = .agg #[.int .u64 b.seq, .int .i64 b.an.err, str b.an.text] := q21
            refine ⟨rfl, ?_⟩
            refine Rg.run_enter (f := 84) (args := #[.agg #[.int .u64 a.seq, .int .i64 a.an.err, str a.an.text], .agg #[.int .u64 b.seq, .int .i64 b.an.err, str b.an.text]]) (W' := W) (by simp [execOp, Rg.ev, go_sem, q12, q17, q21] <;> rfl) ?_
            refine (HC.out W).mono ?_
            rintro e_ w9 ⟨rfl, k2⟩
            exact ⟨_, rfl, rfl, hR.trans' k2, k2⟩
          refine ⟨Rg.at_run [22] rfl ?_, ?_⟩
          · intro ρ W hR ⟨q22, _⟩
            replace q22 : ρ 22 = .bool true := q22
            refine ⟨rfl, ?_⟩
            exact Rg.run_ok (v := .bool false) (by simp [execOp, Rg.ev, go_sem, q22]) ⟨rfl, hR, Ext.rfl' _⟩
          trivial
        case en =>
          intro tm W hR hsz hk
          rw [Rg.fin_eq (ds := [12, 13, 14, 15, 16, 17, 18, 19, 20, 21, 22, 23]) rfl rfl rfl hsz hk]
          have k12 : tm.getD 12 undef = .func (.func 84) #[] #[] := hk 12
          have k13 : tm.getD 13 undef = .slice (some ad) l.length c := hk 13
          have k14 : tm.getD 14 undef = .int .i64 ((k : Int) + 1) := hk 14
          have k15 : tm.getD 15 undef = .int .i64 (k : Int) := hk 15
          have k16 : tm.getD 16 undef = .pointer (some (ad.add (k * 3))) := hk 16
          have k17 : tm.getD 17 undef = .agg #[.int .u64 a.seq, .int .i64 a.an.err, str a.an.text] := hk 17
          have k18 : tm.getD 18 undef = .slice (some ad) l.length c := hk 18
          have k19 : tm.getD 19 undef = .int .i64 ((k : Int) + 1) := hk 19
          have k20 : tm.getD 20 undef = .pointer (some (ad.add ((k + 1) * 3))) := hk 20
          have k21 : tm.getD 21 undef = .agg #[.int .u64 b.seq, .int .i64 b.an.err, str b.an.text] := hk 21
          have k22 : tm.getD 22 undef = .bool true := hk 22
          have k23 : tm.getD 23 undef = .bool false := hk 23
          clear hk hsz
          simp only [Rg.putAll, List.setIfInBounds_toArray, List.set_cons_zero, List.set_cons_succ, k12, k13, k14, k15, k16, k17, k18, k19, k20, k21, k22, k23]
          clear k12
          clear k13
          clear k14
          clear k15
          clear k16
          clear k17
          clear k18
          clear k19
          clear k20
          clear k21
          clear k22
          clear k23
          refine Rg.nil_list ?_
          go_wp2
          go_roundw
          case rel => exact ⟨k + 1, by have := HLT.out; omega, by go_num, hide (by rw [hsm.out, HS.out, HB.out, Bool.true_and]), hxr.trans' hR⟩
          case measure => have := HLT.out; simp [intOf]; omega
      · have HB : Hid ((decide (a.seq < b.seq)) = false) := hide hbv
        have HC := hide (fun W : World => stands3_b a b W)
        replace hbv : (decide (a.seq < b.seq)) = false := hbv
        rw [hbv] at HC
        clear hbv
        go_upto_region 4 with fail
        refine Rg.regionT Tryz.checked.mixed 24 12 (by kernel_rfl) [
          (fun x_ _ => x_ = .func (.func 84) #[] #[]),
          (fun x_ _ => x_ = .slice (some ad) l.length c),
          (fun x_ _ => x_ = .int .i64 ((k : Int) + 1)),
          (fun x_ _ => x_ = .int .i64 (k : Int)),
          (fun x_ _ => x_ = .pointer (some (ad.add (k * 3)))),
          (fun x_ _ => x_ = .agg #[.int .u64 a.seq, .int .i64 a.an.err, str a.an.text]),
          (fun x_ _ => x_ = .slice (some ad) l.length c),
          (fun x_ _ => x_ = .int .i64 ((k : Int) + 1)),
          (fun x_ _ => x_ = .pointer (some (ad.add ((k + 1) * 3)))),
          (fun x_ _ => x_ = .agg #[.int .u64 b.seq, .int .i64 b.an.err, str b.an.text]),
          (fun x_ _ => x_ = .bool false),
          (fun x_ _ => x_ = .bool true)] (fun W => Ext wr W) Ext rfl rfl rfl
          ?st ((Ext.rfl' wr).drew') ?ob ?en
        case st => exact ⟨fun _ _ _ h _ => h, fun _ _ _ h _ => h, fun _ _ _ h _ => h, fun _ _ _ h _ => h, fun _ _ _ h _ => h, fun _ _ _ h _ => h, fun _ _ _ h _ => h, fun _ _ _ h _ => h, fun _ _ _ h _ => h, fun _ _ _ h _ => h, fun _ _ _ h _ => h, fun _ _ _ h _ => h, trivial⟩
        case ob =>
          refine ⟨Rg.at_run [1] rfl ?_, ?_⟩
          · intro ρ W hR ⟨q1, _⟩
            replace q1 : ρ 1 = .func (.func 84) #[] #[] := q1
            refine ⟨rfl, ?_⟩
            exact Rg.run_ok (v := .func (.func 84) #[] #[]) (by simp [execOp, Rg.ev, go_sem, q1]) ⟨rfl, hR, Ext.rfl' _⟩
          refine ⟨Rg.at_run [0] rfl ?_, ?_⟩
          · intro ρ W hR ⟨q0, _⟩
            replace q0 : ρ 0 = .slice (some ad) l.length c := q0
            refine ⟨rfl, ?_⟩
            exact Rg.run_ok (v := .slice (some ad) l.length c) (by simp [execOp, Rg.ev, go_sem, q0]) ⟨rfl, hR, Ext.rfl' _⟩
          refine ⟨Rg.at_run [5] rfl ?_, ?_⟩
          · intro ρ W hR ⟨q5, _⟩
            replace q5 : ρ 5 = .int .i64 ((k : Int) + 1) := q5
            refine ⟨rfl, ?_⟩
            exact Rg.run_ok (v := .int .i64 ((k : Int) + 1)) (by simp [execOp, Rg.ev, go_sem, q5]) ⟨rfl, hR, Ext.rfl' _⟩
          refine ⟨Rg.at_run [14] rfl ?_, ?_⟩
          · intro ρ W hR ⟨q14, _⟩
            replace q14 : ρ 14 = .int .i64 ((k : Int) + 1) := q14
            refine ⟨rfl, ?_⟩
            exact Rg.run_ok (v := .int .i64 (k : Int)) (by simp [execOp, Rg.ev, go_sem, q14, HW, HW2]) ⟨rfl, hR, Ext.rfl' _⟩
          refine ⟨Rg.at_run [13, 15] rfl ?_, ?_⟩
          · intro ρ W hR ⟨q13, q15, _⟩
            replace q13 : ρ 13 = .slice (some ad) l.length c := q13
            replace q15 : ρ 15 = .int .i64 (k : Int) := q15
            refine ⟨rfl, ?_⟩
            exact Rg.run_ok (v := .pointer (some (ad.add (k * 3)))) (by simp [execOp, Rg.ev, go_sem, q13, q15, hb1, hb2']) ⟨rfl, hR, Ext.rfl' _⟩
          refine ⟨Rg.at_run [16] rfl ?_, ?_⟩
          · intro ρ W hR ⟨q16, _⟩
            replace q16 : ρ 16 = .pointer (some (ad.add (k * 3))) := q16
            refine ⟨rfl, ?_⟩
            have c0_ : W.cell? (ad.add (k * 3)) = some (.int .u64 a.seq) := (hR.cell (p := ad.add (k * 3)) hab).trans p0
            have c1_ : W.cell? (⟨(ad.add (k * 3)).block, (ad.add (k * 3)).off + 1, none⟩) = some (.int .i64 a.an.err) := (hR.cell (p := ⟨(ad.add (k * 3)).block, (ad.add (k * 3)).off + 1, none⟩) hab).trans p1
            have c2_ : W.cell? (⟨(ad.add (k * 3)).block, (ad.add (k * 3)).off + 2, none⟩) = some (str a.an.text) := (hR.cell (p := ⟨(ad.add (k * 3)).block, (ad.add (k * 3)).off + 2, none⟩) hab).trans p2
            exact Rg.run_ok (v := .agg #[.int .u64 a.seq, .int .i64 a.an.err, str a.an.text]) (by simp [execOp, Rg.ev, go_sem, q16, c0_, c1_, c2_]) ⟨rfl, hR, Ext.rfl' _⟩
          refine ⟨Rg.at_run [0] rfl ?_, ?_⟩
          · intro ρ W hR ⟨q0, _⟩
            replace q0 : ρ 0 = .slice (some ad) l.length c := q0
            refine ⟨rfl, ?_⟩
            exact Rg.run_ok (v := .slice (some ad) l.length c) (by simp [execOp, Rg.ev, go_sem, q0]) ⟨rfl, hR, Ext.rfl' _⟩
          refine ⟨Rg.at_run [5] rfl ?_, ?_⟩
          · intro ρ W hR ⟨q5, _⟩
            replace q5 : ρ 5 = .int .i64 ((k : Int) + 1) := q5
            refine ⟨rfl, ?_⟩
            exact Rg.run_ok (v := .int .i64 ((k : Int) + 1)) (by simp [execOp, Rg.ev, go_sem, q5]) ⟨rfl, hR, Ext.rfl' _⟩
          refine ⟨Rg.at_run [18, 19] rfl ?_, ?_⟩
          · intro ρ W hR ⟨q18, q19, _⟩
            replace q18 : ρ 18 = .slice (some ad) l.length c := q18
            replace q19 : ρ 19 = .int .i64 ((k : Int) + 1) := q19
            refine ⟨rfl, ?_⟩
            exact Rg.run_ok (v := .pointer (some (ad.add ((k + 1) * 3)))) (by simp [execOp, Rg.ev, go_sem, q18, q19, hb3, hb4']) ⟨rfl, hR, Ext.rfl' _⟩
          refine ⟨Rg.at_run [20] rfl ?_, ?_⟩
          · intro ρ W hR ⟨q20, _⟩
            replace q20 : ρ 20 = .pointer (some (ad.add ((k + 1) * 3))) := q20
            refine ⟨rfl, ?_⟩
            have c0_ : W.cell? (ad.add ((k + 1) * 3)) = some (.int .u64 b.seq) := (hR.cell (p := ad.add ((k + 1) * 3)) hab2).trans r0
            have c1_ : W.cell? (⟨(ad.add ((k + 1) * 3)).block, (ad.add ((k + 1) * 3)).off + 1, none⟩) = some (.int .i64 b.an.err) := (hR.cell (p := ⟨(ad.add ((k + 1) * 3)).block, (ad.add ((k + 1) * 3)).off + 1, none⟩) hab2).trans r1
            have c2_ : W.cell? (⟨(ad.add ((k + 1) * 3)).block, (ad.add ((k + 1) * 3)).off + 2, none⟩) = some (str b.an.text) := (hR.cell (p := ⟨(ad.add ((k + 1) * 3)).block, (ad.add ((k + 1) * 3)).off + 2, none⟩) hab2).trans r2
            exact Rg.run_ok (v := .agg #[.int .u64 b.seq, .int .i64 b.an.err, str b.an.text]) (by simp [execOp, Rg.ev, go_sem, q20, c0_, c1_, c2_]) ⟨rfl, hR, Ext.rfl' _⟩
          refine ⟨Rg.at_run [12, 17, 21] rfl ?_, ?_⟩
          · intro ρ W hR ⟨q12, q17, q21, _⟩
            replace q12 : ρ 12 = .func (.func 84) #[] #[] := q12
            replace q17 : ρ 17 = .agg #[.int .u64 a.seq, .int .i64 a.an.err, str a.an.text] := q17
            replace q21 : ρ 21 = .agg #[.int .u64 b.seq, .int .i64 b.an.err, str b.an.text] := q21
            refine ⟨rfl, ?_⟩
            refine Rg.run_enter (f := 84) (args := #[.agg #[.int .u64 a.seq, .int .i64 a.an.err, str a.an.text], .agg #[.int .u64 b.seq, .int .i64 b.an.err, str b.an.text]]) (W' := W) (by simp [execOp, Rg.ev, go_sem, q12, q17, q21] <;> rfl) ?_
            refine (HC.out W).mono ?_
            rintro e_ w9 ⟨rfl, k2⟩
            exact ⟨_, rfl, rfl, hR.trans' k2, k2⟩
          refine ⟨Rg.at_run [22] rfl ?_, ?_⟩
          · intro ρ W hR ⟨q22, _⟩
            replace q22 : ρ 22 = .bool false := q22
            refine ⟨rfl, ?_⟩
            exact Rg.run_ok (v := .bool true) (by simp [execOp, Rg.ev, go_sem, q22]) ⟨rfl, hR, Ext.rfl' _⟩
          trivial
        case en =>
          intro tm W hR hsz hk
          rw [Rg.fin_eq (ds := [12, 13, 14, 15, 16, 17, 18, 19, 20, 21, 22, 23]) rfl rfl rfl hsz hk]
          have k12 : tm.getD 12 undef = .func (.func 84) #[] #[] := hk 12
          have k13 : tm.getD 13 undef = .slice (some ad) l.length c := hk 13
          have k14 : tm.getD 14 undef = .int .i64 ((k : Int) + 1) := hk 14
          have k15 : tm.getD 15 undef = .int .i64 (k : Int) := hk 15
          have k16 : tm.getD 16 undef = .pointer (some (ad.add (k * 3))) := hk 16
          have k17 : tm.getD 17 undef = .agg #[.int .u64 a.seq, .int .i64 a.an.err, str a.an.text] := hk 17
          have k18 : tm.getD 18 undef = .slice (some ad) l.length c := hk 18
          have k19 : tm.getD 19 undef = .int .i64 ((k : Int) + 1) := hk 19
          have k20 : tm.getD 20 undef = .pointer (some (ad.add ((k + 1) * 3))) := hk 20
          have k21 : tm.getD 21 undef = .agg #[.int .u64 b.seq, .int .i64 b.an.err, str b.an.text] := hk 21
          have k22 : tm.getD 22 undef = .bool false := hk 22
          have k23 : tm.getD 23 undef = .bool true := hk 23
          clear hk hsz
          simp only [Rg.putAll, List.setIfInBounds_toArray, List.set_cons_zero, List.set_cons_succ, k12, k13, k14, k15, k16, k17, k18, k19, k20, k21, k22, k23]
          clear k12
          clear k13
          clear k14
          clear k15
          clear k16
          clear k17
          clear k18
          clear k19
          clear k20
          clear k21
          clear k22
          clear k23
          refine Rg.nil_list ?_
          go_wp2
          go_ret
          exact ⟨by rw [hsm.out, HS.out, HB.out, Bool.false_and]; rfl, hxr.trans' hR⟩
    · have HN : Hid (res = true) := hide (by rw [hsm.out]; exact rises_end _ (by omega))
      go_wp2
      go_ret
      exact ⟨by rw [HN.out]; rfl, hxr⟩
end Go.Proofs.YtamimdlaclglkaaGreat
