import Derived.Test.YtboncnlcomeahaaPk24
/- The document's SameRecords: of two values of one list it is true. -/
namespace Go.Proofs.Ytboncnlcomeahaa
set_option linter.unusedVariables false
set_option linter.unusedSimpArgs false
set_option linter.unnecessarySimpa false
set_option maxRecDepth 100000
open Go.RowKit
set_option maxHeartbeats 1600000 in
theorem sameSnap_b (s : Sn) (v1 v2 : Value) (w : World) (h1 : Bs w v1 s.state) (h2 : Bs w v2 s.state) : Calls Try.prog 38 #[.agg (sncells s v1).toArray, .agg (sncells s v2).toArray] w fun e w' => e = .returned (.bool true) ∧ Ext w w' := by
  obtain ⟨A1, c1, rfl, -, -, -⟩ := id h1
  obtain ⟨A2, c2, rfl, -, -, -⟩ := id h2
  have hx : Ext w ((w.alloc (.cells (sncells s (.slice A1 s.state.length c1)).toArray 30)).alloc (.cells (sncells s (.slice A2 s.state.length c2)).toArray 30)) := ((Ext.rfl' w).alloc' _).alloc' _
  have hs1 := run_str (P := Try.prog) (h1.ext hx) Try.underlying28 Try.underlying5 Try.underlying9
  have hs2 := run_str (P := Try.prog) (h2.ext hx) Try.underlying28 Try.underlying5 Try.underlying9
  go_enter Try.func38, Try.ntmps38
  go_wp2
  go_ret
  exact ⟨rfl, hx⟩
set_option maxHeartbeats 3200000 in
theorem sameEntries_b (x y : Value) (l : List En) (w : World) (hx : Enc.Sl enE w noneAt x l) (hy : Enc.Sl enE w noneAt y l) : Calls Try.prog 39 #[x, y] w fun e w' => e = .returned (.bool true) ∧ Ext w w' := by
  obtain ⟨A, c, rfl, k1, k2⟩ := hx.form
  obtain ⟨B, d, rfl, -, -⟩ := hy.form
  unfold maxLen at k2
  go_enter Try.func39, Try.ntmps39
  go_wp2_with fail
  go_loopw [5] (fun vi wr => ∃ k : Nat, (k : Int) ≤ l.length ∧ vi = .int .i64 k ∧ Ext w wr) (fun vi _ => (l.length - intOf vi).toNat)
  case atStart => exact ⟨0, by omega, rfl, Ext.rfl' _⟩
  case round =>
    obtain ⟨k, hk, rfl, hxr⟩ := hrel
    by_cases hlt : (k : Int) < l.length
    · have HLT := hide hlt
      obtain ⟨ad, e, v1, rfl, he, hb, p0, p1, -, r1⟩ := en_at (hx.ext hxr) (k := k) (by omega)
      obtain ⟨ad2, e2, v2, rfl, he2, hb2, q0_, q1_, -, r2⟩ := en_at (hy.ext hxr) (k := k) (by omega)
      obtain rfl : e = e2 := Option.some.inj (he.out.symm.trans he2.out)
      obtain ⟨A1, c1, rfl, -, -, -⟩ := id r1.1
      obtain ⟨A2, c2, rfl, -, -, -⟩ := id r2.1
      have hab : (ad.add (k * 2)).block < wr.heap.size := by rw [block_of_add]; exact hb
      have hab2 : (ad2.add (k * 2)).block < wr.heap.size := by rw [block_of_add]; exact hb2
      have hb1 : (0 : Int) ≤ k := by omega
      have hb2' : (k : Int) < l.length := hlt
      have r1' := r1.1
      have r2' := r2.1
      go_upto_region 6 with fail
      refine Rg.regionT Try.checked.mixed 43 26 (by kernel_rfl) [
        (fun x_ _ => x_ = .slice (some ad) l.length c),
        (fun x_ _ => x_ = .int .i64 k),
        (fun x_ _ => x_ = .pointer (some (ad.add (k * 2)))),
        (fun x_ _ => x_ = .pointer (some (ad.add (k * 2)))),
        (fun x_ _ => x_ = .int .u64 e.term),
        (fun x_ _ => x_ = .slice (some ad2) l.length d),
        (fun x_ _ => x_ = .int .i64 k),
        (fun x_ _ => x_ = .pointer (some (ad2.add (k * 2)))),
        (fun x_ _ => x_ = .pointer (some (ad2.add (k * 2)))),
        (fun x_ _ => x_ = .int .u64 e.term),
        (fun x_ _ => x_ = .bool false),
        (fun x_ _ => x_ = .bool false),
        (fun x_ _ => x_ = .slice (some ad) l.length c),
        (fun x_ _ => x_ = .int .i64 k),
        (fun x_ _ => x_ = .pointer (some (ad.add (k * 2)))),
        (fun x_ _ => x_ = .pointer (some ⟨(ad.add (k * 2)).block, (ad.add (k * 2)).off + 1, none⟩)),
        (fun x_ _ => x_ = .slice A1 e.data.length c1),
        (fun x_ _ => x_ = str e.data),
        (fun x_ _ => x_ = .slice (some ad2) l.length d),
        (fun x_ _ => x_ = .int .i64 k),
        (fun x_ _ => x_ = .pointer (some (ad2.add (k * 2)))),
        (fun x_ _ => x_ = .pointer (some ⟨(ad2.add (k * 2)).block, (ad2.add (k * 2)).off + 1, none⟩)),
        (fun x_ _ => x_ = .slice A2 e.data.length c2),
        (fun x_ _ => x_ = str e.data),
        (fun x_ _ => x_ = .bool false),
        (fun x_ _ => x_ = .bool false)] (fun W => Ext wr W) Ext rfl rfl rfl
        ?st ((Ext.rfl' wr).drew') ?ob ?en
      case st => exact ⟨fun _ _ _ h _ => h, fun _ _ _ h _ => h, fun _ _ _ h _ => h, fun _ _ _ h _ => h, fun _ _ _ h _ => h, fun _ _ _ h _ => h, fun _ _ _ h _ => h, fun _ _ _ h _ => h, fun _ _ _ h _ => h, fun _ _ _ h _ => h, fun _ _ _ h _ => h, fun _ _ _ h _ => h, fun _ _ _ h _ => h, fun _ _ _ h _ => h, fun _ _ _ h _ => h, fun _ _ _ h _ => h, fun _ _ _ h _ => h, fun _ _ _ h _ => h, fun _ _ _ h _ => h, fun _ _ _ h _ => h, fun _ _ _ h _ => h, fun _ _ _ h _ => h, fun _ _ _ h _ => h, fun _ _ _ h _ => h, fun _ _ _ h _ => h, fun _ _ _ h _ => h, trivial⟩
      case ob =>
        refine ⟨Rg.at_run [0] rfl ?_, ?_⟩
        · intro ρ W hR ⟨q0, _⟩
          replace q0 : ρ 0 = .slice (some ad) l.length c := q0
          refine ⟨rfl, ?_⟩
          exact Rg.run_ok (v := .slice (some ad) l.length c) (by simp [execOp, Rg.ev, go_sem, q0]) ⟨rfl, hR, Ext.rfl' _⟩
        refine ⟨Rg.at_run [5] rfl ?_, ?_⟩
        · intro ρ W hR ⟨q5, _⟩
          replace q5 : ρ 5 = .int .i64 k := q5
          refine ⟨rfl, ?_⟩
          exact Rg.run_ok (v := .int .i64 k) (by simp [execOp, Rg.ev, go_sem, q5]) ⟨rfl, hR, Ext.rfl' _⟩
        refine ⟨Rg.at_run [17, 18] rfl ?_, ?_⟩
        · intro ρ W hR ⟨q17, q18, _⟩
          replace q17 : ρ 17 = .slice (some ad) l.length c := q17
          replace q18 : ρ 18 = .int .i64 k := q18
          refine ⟨rfl, ?_⟩
          exact Rg.run_ok (v := .pointer (some (ad.add (k * 2)))) (by simp [execOp, Rg.ev, go_sem, q17, q18, hb1, hb2']) ⟨rfl, hR, Ext.rfl' _⟩
        refine ⟨Rg.at_run [19] rfl ?_, ?_⟩
        · intro ρ W hR ⟨q19, _⟩
          replace q19 : ρ 19 = .pointer (some (ad.add (k * 2))) := q19
          refine ⟨rfl, ?_⟩
          exact Rg.run_ok (v := .pointer (some (ad.add (k * 2)))) (by simp [execOp, Rg.ev, go_sem, q19]) ⟨rfl, hR, Ext.rfl' _⟩
        refine ⟨Rg.at_run [20] rfl ?_, ?_⟩
        · intro ρ W hR ⟨q20, _⟩
          replace q20 : ρ 20 = .pointer (some (ad.add (k * 2))) := q20
          refine ⟨rfl, ?_⟩
          have c_ : W.cell? (ad.add (k * 2)) = some (.int .u64 e.term) := (hR.cell (p := ad.add (k * 2)) hab).trans p0
          exact Rg.run_ok (v := .int .u64 e.term) (by simp [execOp, Rg.ev, go_sem, q20, c_]) ⟨rfl, hR, Ext.rfl' _⟩
        refine ⟨Rg.at_run [1] rfl ?_, ?_⟩
        · intro ρ W hR ⟨q1, _⟩
          replace q1 : ρ 1 = .slice (some ad2) l.length d := q1
          refine ⟨rfl, ?_⟩
          exact Rg.run_ok (v := .slice (some ad2) l.length d) (by simp [execOp, Rg.ev, go_sem, q1]) ⟨rfl, hR, Ext.rfl' _⟩
        refine ⟨Rg.at_run [5] rfl ?_, ?_⟩
        · intro ρ W hR ⟨q5, _⟩
          replace q5 : ρ 5 = .int .i64 k := q5
          refine ⟨rfl, ?_⟩
          exact Rg.run_ok (v := .int .i64 k) (by simp [execOp, Rg.ev, go_sem, q5]) ⟨rfl, hR, Ext.rfl' _⟩
        refine ⟨Rg.at_run [22, 23] rfl ?_, ?_⟩
        · intro ρ W hR ⟨q22, q23, _⟩
          replace q22 : ρ 22 = .slice (some ad2) l.length d := q22
          replace q23 : ρ 23 = .int .i64 k := q23
          refine ⟨rfl, ?_⟩
          exact Rg.run_ok (v := .pointer (some (ad2.add (k * 2)))) (by simp [execOp, Rg.ev, go_sem, q22, q23, hb1, hb2']) ⟨rfl, hR, Ext.rfl' _⟩
        refine ⟨Rg.at_run [24] rfl ?_, ?_⟩
        · intro ρ W hR ⟨q24, _⟩
          replace q24 : ρ 24 = .pointer (some (ad2.add (k * 2))) := q24
          refine ⟨rfl, ?_⟩
          exact Rg.run_ok (v := .pointer (some (ad2.add (k * 2)))) (by simp [execOp, Rg.ev, go_sem, q24]) ⟨rfl, hR, Ext.rfl' _⟩
        refine ⟨Rg.at_run [25] rfl ?_, ?_⟩
        · intro ρ W hR ⟨q25, _⟩
          replace q25 : ρ 25 = .pointer (some (ad2.add (k * 2))) := q25
          refine ⟨rfl, ?_⟩
          have c_ : W.cell? (ad2.add (k * 2)) = some (.int .u64 e.term) := (hR.cell (p := ad2.add (k * 2)) hab2).trans q0_
          exact Rg.run_ok (v := .int .u64 e.term) (by simp [execOp, Rg.ev, go_sem, q25, c_]) ⟨rfl, hR, Ext.rfl' _⟩
        refine ⟨Rg.at_run [21, 26] rfl ?_, ?_⟩
        · intro ρ W hR ⟨q21, q26, _⟩
          replace q21 : ρ 21 = .int .u64 e.term := q21
          replace q26 : ρ 26 = .int .u64 e.term := q26
          refine ⟨rfl, ?_⟩
          exact Rg.run_ok (v := .bool false) (by simp [execOp, Rg.ev, go_sem, q21, q26]) ⟨rfl, hR, Ext.rfl' _⟩
        refine ⟨Rg.at_run [27] rfl ?_, ?_⟩
        · intro ρ W hR ⟨q27, _⟩
          replace q27 : ρ 27 = .bool false := q27
          refine ⟨rfl, ?_⟩
          exact Rg.run_ok (v := .bool false) (by simp [execOp, Rg.ev, go_sem, q27]) ⟨rfl, hR, Ext.rfl' _⟩
        refine ⟨Rg.at_run [0, 28] rfl ?_, ?_⟩
        · intro ρ W hR ⟨q0, q28, _⟩
          replace q0 : ρ 0 = .slice (some ad) l.length c := q0
          replace q28 : ρ 28 = .bool false := q28
          refine ⟨by simp [Rg.wants, q28], ?_⟩
          exact Rg.run_ok (v := .slice (some ad) l.length c) (by simp [execOp, Rg.ev, go_sem, q0]) ⟨rfl, hR, Ext.rfl' _⟩
        refine ⟨Rg.at_run [5, 28] rfl ?_, ?_⟩
        · intro ρ W hR ⟨q5, q28, _⟩
          replace q5 : ρ 5 = .int .i64 k := q5
          replace q28 : ρ 28 = .bool false := q28
          refine ⟨by simp [Rg.wants, q28], ?_⟩
          exact Rg.run_ok (v := .int .i64 k) (by simp [execOp, Rg.ev, go_sem, q5]) ⟨rfl, hR, Ext.rfl' _⟩
        refine ⟨Rg.at_run [29, 30, 28] rfl ?_, ?_⟩
        · intro ρ W hR ⟨q29, q30, q28, _⟩
          replace q29 : ρ 29 = .slice (some ad) l.length c := q29
          replace q30 : ρ 30 = .int .i64 k := q30
          replace q28 : ρ 28 = .bool false := q28
          refine ⟨by simp [Rg.wants, q28], ?_⟩
          exact Rg.run_ok (v := .pointer (some (ad.add (k * 2)))) (by simp [execOp, Rg.ev, go_sem, q29, q30, hb1, hb2']) ⟨rfl, hR, Ext.rfl' _⟩
        refine ⟨Rg.at_run [31, 28] rfl ?_, ?_⟩
        · intro ρ W hR ⟨q31, q28, _⟩
          replace q31 : ρ 31 = .pointer (some (ad.add (k * 2))) := q31
          replace q28 : ρ 28 = .bool false := q28
          refine ⟨by simp [Rg.wants, q28], ?_⟩
          exact Rg.run_ok (v := .pointer (some ⟨(ad.add (k * 2)).block, (ad.add (k * 2)).off + 1, none⟩)) (by simp [execOp, Rg.ev, go_sem, q31]) ⟨rfl, hR, Ext.rfl' _⟩
        refine ⟨Rg.at_run [32, 28] rfl ?_, ?_⟩
        · intro ρ W hR ⟨q32, q28, _⟩
          replace q32 : ρ 32 = .pointer (some ⟨(ad.add (k * 2)).block, (ad.add (k * 2)).off + 1, none⟩) := q32
          replace q28 : ρ 28 = .bool false := q28
          refine ⟨by simp [Rg.wants, q28], ?_⟩
          have c_ : W.cell? (⟨(ad.add (k * 2)).block, (ad.add (k * 2)).off + 1, none⟩) = some (.slice A1 e.data.length c1) := (hR.cell (p := ⟨(ad.add (k * 2)).block, (ad.add (k * 2)).off + 1, none⟩) hab).trans p1
          exact Rg.run_ok (v := .slice A1 e.data.length c1) (by simp [execOp, Rg.ev, go_sem, q32, c_]) ⟨rfl, hR, Ext.rfl' _⟩
        refine ⟨Rg.at_run [33, 28] rfl ?_, ?_⟩
        · intro ρ W hR ⟨q33, q28, _⟩
          replace q33 : ρ 33 = .slice A1 e.data.length c1 := q33
          replace q28 : ρ 28 = .bool false := q28
          refine ⟨by simp [Rg.wants, q28], ?_⟩
          have hs := run_str (P := Try.prog) (r1'.ext hR) Try.underlying28 Try.underlying5 Try.underlying9
          exact Rg.run_ok (v := str e.data) (by simp only [execOp, Rg.ev, Sem.run_bind, Sem.run_pure, Result.andThen_ok, q33, hs]) ⟨rfl, hR, Ext.rfl' _⟩
        refine ⟨Rg.at_run [1, 28] rfl ?_, ?_⟩
        · intro ρ W hR ⟨q1, q28, _⟩
          replace q1 : ρ 1 = .slice (some ad2) l.length d := q1
          replace q28 : ρ 28 = .bool false := q28
          refine ⟨by simp [Rg.wants, q28], ?_⟩
          exact Rg.run_ok (v := .slice (some ad2) l.length d) (by simp [execOp, Rg.ev, go_sem, q1]) ⟨rfl, hR, Ext.rfl' _⟩
        refine ⟨Rg.at_run [5, 28] rfl ?_, ?_⟩
        · intro ρ W hR ⟨q5, q28, _⟩
          replace q5 : ρ 5 = .int .i64 k := q5
          replace q28 : ρ 28 = .bool false := q28
          refine ⟨by simp [Rg.wants, q28], ?_⟩
          exact Rg.run_ok (v := .int .i64 k) (by simp [execOp, Rg.ev, go_sem, q5]) ⟨rfl, hR, Ext.rfl' _⟩
        refine ⟨Rg.at_run [35, 36, 28] rfl ?_, ?_⟩
        · intro ρ W hR ⟨q35, q36, q28, _⟩
          replace q35 : ρ 35 = .slice (some ad2) l.length d := q35
          replace q36 : ρ 36 = .int .i64 k := q36
          replace q28 : ρ 28 = .bool false := q28
          refine ⟨by simp [Rg.wants, q28], ?_⟩
          exact Rg.run_ok (v := .pointer (some (ad2.add (k * 2)))) (by simp [execOp, Rg.ev, go_sem, q35, q36, hb1, hb2']) ⟨rfl, hR, Ext.rfl' _⟩
        refine ⟨Rg.at_run [37, 28] rfl ?_, ?_⟩
        · intro ρ W hR ⟨q37, q28, _⟩
          replace q37 : ρ 37 = .pointer (some (ad2.add (k * 2))) := q37
          replace q28 : ρ 28 = .bool false := q28
          refine ⟨by simp [Rg.wants, q28], ?_⟩
          exact Rg.run_ok (v := .pointer (some ⟨(ad2.add (k * 2)).block, (ad2.add (k * 2)).off + 1, none⟩)) (by simp [execOp, Rg.ev, go_sem, q37]) ⟨rfl, hR, Ext.rfl' _⟩
        refine ⟨Rg.at_run [38, 28] rfl ?_, ?_⟩
        · intro ρ W hR ⟨q38, q28, _⟩
          replace q38 : ρ 38 = .pointer (some ⟨(ad2.add (k * 2)).block, (ad2.add (k * 2)).off + 1, none⟩) := q38
          replace q28 : ρ 28 = .bool false := q28
          refine ⟨by simp [Rg.wants, q28], ?_⟩
          have c_ : W.cell? (⟨(ad2.add (k * 2)).block, (ad2.add (k * 2)).off + 1, none⟩) = some (.slice A2 e.data.length c2) := (hR.cell (p := ⟨(ad2.add (k * 2)).block, (ad2.add (k * 2)).off + 1, none⟩) hab2).trans q1_
          exact Rg.run_ok (v := .slice A2 e.data.length c2) (by simp [execOp, Rg.ev, go_sem, q38, c_]) ⟨rfl, hR, Ext.rfl' _⟩
        refine ⟨Rg.at_run [39, 28] rfl ?_, ?_⟩
        · intro ρ W hR ⟨q39, q28, _⟩
          replace q39 : ρ 39 = .slice A2 e.data.length c2 := q39
          replace q28 : ρ 28 = .bool false := q28
          refine ⟨by simp [Rg.wants, q28], ?_⟩
          have hs := run_str (P := Try.prog) (r2'.ext hR) Try.underlying28 Try.underlying5 Try.underlying9
          exact Rg.run_ok (v := str e.data) (by simp only [execOp, Rg.ev, Sem.run_bind, Sem.run_pure, Result.andThen_ok, q39, hs]) ⟨rfl, hR, Ext.rfl' _⟩
        refine ⟨Rg.at_run [34, 40, 28] rfl ?_, ?_⟩
        · intro ρ W hR ⟨q34, q40, q28, _⟩
          replace q34 : ρ 34 = str e.data := q34
          replace q40 : ρ 40 = str e.data := q40
          replace q28 : ρ 28 = .bool false := q28
          refine ⟨by simp [Rg.wants, q28], ?_⟩
          exact Rg.run_ok (v := .bool false) (by simp [execOp, Rg.ev, go_sem, q34, q40]) ⟨rfl, hR, Ext.rfl' _⟩
        refine ⟨Rg.at_run [28, 41] rfl ?_, ?_⟩
        · intro ρ W hR ⟨q28, q41, _⟩
          replace q28 : ρ 28 = .bool false := q28
          replace q41 : ρ 41 = .bool false := q41
          refine ⟨rfl, ?_⟩
          exact Rg.run_ok (v := .bool false) (by simp [execOp, Rg.ev, go_sem, q28, q41]) ⟨rfl, hR, Ext.rfl' _⟩
        trivial
      case en =>
        intro tm W hR hsz hk
        rw [Rg.fin_eq (ds := [17, 18, 19, 20, 21, 22, 23, 24, 25, 26, 27, 28, 29, 30, 31, 32, 33, 34, 35, 36, 37, 38, 39, 40, 41, 42]) rfl rfl rfl hsz hk]
        have k17 : tm.getD 17 undef = .slice (some ad) l.length c := hk 17
        have k18 : tm.getD 18 undef = .int .i64 k := hk 18
        have k19 : tm.getD 19 undef = .pointer (some (ad.add (k * 2))) := hk 19
        have k20 : tm.getD 20 undef = .pointer (some (ad.add (k * 2))) := hk 20
        have k21 : tm.getD 21 undef = .int .u64 e.term := hk 21
        have k22 : tm.getD 22 undef = .slice (some ad2) l.length d := hk 22
        have k23 : tm.getD 23 undef = .int .i64 k := hk 23
        have k24 : tm.getD 24 undef = .pointer (some (ad2.add (k * 2))) := hk 24
        have k25 : tm.getD 25 undef = .pointer (some (ad2.add (k * 2))) := hk 25
        have k26 : tm.getD 26 undef = .int .u64 e.term := hk 26
        have k27 : tm.getD 27 undef = .bool false := hk 27
        have k28 : tm.getD 28 undef = .bool false := hk 28
        have k29 : tm.getD 29 undef = .slice (some ad) l.length c := hk 29
        have k30 : tm.getD 30 undef = .int .i64 k := hk 30
        have k31 : tm.getD 31 undef = .pointer (some (ad.add (k * 2))) := hk 31
        have k32 : tm.getD 32 undef = .pointer (some ⟨(ad.add (k * 2)).block, (ad.add (k * 2)).off + 1, none⟩) := hk 32
        have k33 : tm.getD 33 undef = .slice A1 e.data.length c1 := hk 33
        have k34 : tm.getD 34 undef = str e.data := hk 34
        have k35 : tm.getD 35 undef = .slice (some ad2) l.length d := hk 35
        have k36 : tm.getD 36 undef = .int .i64 k := hk 36
        have k37 : tm.getD 37 undef = .pointer (some (ad2.add (k * 2))) := hk 37
        have k38 : tm.getD 38 undef = .pointer (some ⟨(ad2.add (k * 2)).block, (ad2.add (k * 2)).off + 1, none⟩) := hk 38
        have k39 : tm.getD 39 undef = .slice A2 e.data.length c2 := hk 39
        have k40 : tm.getD 40 undef = str e.data := hk 40
        have k41 : tm.getD 41 undef = .bool false := hk 41
        have k42 : tm.getD 42 undef = .bool false := hk 42
        clear hk hsz
        simp only [Rg.putAll, List.setIfInBounds_toArray, List.set_cons_zero, List.set_cons_succ, k17, k18, k19, k20, k21, k22, k23, k24, k25, k26, k27, k28, k29, k30, k31, k32, k33, k34, k35, k36, k37, k38, k39, k40, k41, k42]
        clear k17
        clear k18
        clear k19
        clear k20
        clear k21
        clear k22
        clear k23
        clear k24
        clear k25
        clear k26
        clear k27
        clear k28
        clear k29
        clear k30
        clear k31
        clear k32
        clear k33
        clear k34
        clear k35
        clear k36
        clear k37
        clear k38
        clear k39
        clear k40
        clear k41
        clear k42
        refine Rg.nil_list ?_
        go_wp2
        go_roundw
        case rel => exact ⟨k + 1, by have := HLT.out; omega, by go_num, hxr.trans' hR⟩
        case measure => have := HLT.out; simp [intOf]; omega
    · go_wp2
      go_ret
      exact ⟨rfl, hxr⟩
set_option maxHeartbeats 3200000 in
theorem sameRecord_b (r : Rec) (v1 v2 u1 u2 : Value) (w : World) (hw : r.wide) (h1 : Bs w v1 r.ent.data) (h2 : Bs w v2 r.snap.state) (g1 : Bs w u1 r.ent.data) (g2 : Bs w u2 r.snap.state) :
    Calls Try.prog 40 #[.agg (recells r v1 v2).toArray, .agg (recells r u1 u2).toArray] w fun e w' => e = .returned (.bool true) ∧ Ext w w' := by
  obtain ⟨A1, c1, rfl, -, -, -⟩ := id h1
  obtain ⟨A2, c2, rfl, -, -, -⟩ := id h2
  obtain ⟨B1, d1, rfl, -, -, -⟩ := id g1
  obtain ⟨B2, d2, rfl, -, -, -⟩ := id g2
  have hx0 : Ext w (w.alloc (.cells (recells r (.slice A1 r.ent.data.length c1) (.slice A2 r.snap.state.length c2)).toArray 38)) := (Ext.rfl' w).alloc' _
  have hx1 := hx0.alloc' (.cells (recells r (.slice B1 r.ent.data.length d1) (.slice B2 r.snap.state.length d2)).toArray 38)
  have hX := (Blk.new w 38 (recells r (.slice A1 r.ent.data.length c1) (.slice A2 r.snap.state.length c2)).toArray).alloc (.cells (recells r (.slice B1 r.ent.data.length d1) (.slice B2 r.snap.state.length d2)).toArray 38)
  have hY := Blk.new (w.alloc (.cells (recells r (.slice A1 r.ent.data.length c1) (.slice A2 r.snap.state.length c2)).toArray 38)) 38 (recells r (.slice B1 r.ent.data.length d1) (.slice B2 r.snap.state.length d2)).toArray
  obtain ⟨g, hg⟩ : ∃ g, w.heap.size = g := ⟨_, rfl⟩
  rw [show (w.alloc (.cells (recells r (.slice A1 r.ent.data.length c1) (.slice A2 r.snap.state.length c2)).toArray 38)).heap.size = g + 1 by simp [hg]] at hY
  rw [hg] at hX
  generalize hW2 : ((w.alloc (.cells (recells r (.slice A1 r.ent.data.length c1) (.slice A2 r.snap.state.length c2)).toArray 38)).alloc (.cells (recells r (.slice B1 r.ent.data.length d1) (.slice B2 r.snap.state.length d2)).toArray 38)) = W2 at hx1 hX hY
  have hs2 : W2.heap.size = g + 1 + 1 := by rw [← hW2]; simp [hg]
  have he1 := Sl.one 36 (E := enE) (w := W2) (X := noneAt) (cs := encells r.ent (.slice A1 r.ent.data.length c1)) (a := r.ent) (en_rep.2 ⟨_, rfl, ⟨hw.e0, hw.e1⟩, Enc.BsX.of (h1.ext hx1)⟩) (g + 1 + 1) hs2 (fun h => h)
  have hxe1 : Ext W2 (W2.alloc (.cells (encells r.ent (.slice A1 r.ent.data.length c1)).toArray 36)) := (Ext.rfl' W2).alloc' _
  have he2 := Sl.one 36 (E := enE) (w := W2.alloc (.cells (encells r.ent (.slice A1 r.ent.data.length c1)).toArray 36)) (X := noneAt) (cs := encells r.ent (.slice B1 r.ent.data.length d1)) (a := r.ent) (en_rep.2 ⟨_, rfl, ⟨hw.e0, hw.e1⟩, Enc.BsX.of ((g1.ext hx1).ext hxe1)⟩) (g + 1 + 1 + 1) (by simp [hs2]) (fun h => h)
  have hxe2 : Ext _ ((W2.alloc (.cells (encells r.ent (.slice A1 r.ent.data.length c1)).toArray 36)).alloc (.cells (encells r.ent (.slice B1 r.ent.data.length d1)).toArray 36)) := (Ext.rfl' (W2.alloc (.cells (encells r.ent (.slice A1 r.ent.data.length c1)).toArray 36))).alloc' _
  have HSE := hide (sameEntries_b _ _ [r.ent] _ (he1.ext hxe2) he2)
  have hxE := hxe1.trans' hxe2
  subst hW2
  clear he1 he2 hs2
  go_enter Try.func40, Try.ntmps40
  go_wp2_with fail
  refine HSE.out.mono ?_
  rintro e W3 ⟨rfl, hx3⟩
  have hx13 := hx1.trans' (hxE.trans' hx3)
  replace hX := (hX.ext hxE).ext hx3
  replace hY := (hY.ext hxE).ext hx3
  have x5 := (hX.cell 5).trans rfl
  have x6 := (hX.cell 6).trans rfl
  have x7 := (hX.cell 7).trans rfl
  have x8 := (hX.cell 8).trans rfl
  have y5 := (hY.cell 5).trans rfl
  have y6 := (hY.cell 6).trans rfl
  have y7 := (hY.cell 7).trans rfl
  have y8 := (hY.cell 8).trans rfl
  go_wp2_with fail
  refine (sameSnap_b r.snap _ _ W3 (h2.ext hx13) (g2.ext hx13)).mono ?_
  rintro e W4 ⟨rfl, hx4⟩
  go_wp2
  go_ret
  exact ⟨rfl, hx13.trans' hx4⟩
set_option maxHeartbeats 3200000 in
theorem sameRecords_b (x y : Value) (l : List Rec) (w : World) (hx : Enc.Sl reE w noneAt x l) (hy : Enc.Sl reE w noneAt y l) : Calls Try.prog 15 #[x, y] w fun e w' => e = .returned (.bool true) ∧ Ext w w' := by
  obtain ⟨A, c, rfl, k1, k2⟩ := hx.form
  obtain ⟨B, d, rfl, -, -⟩ := hy.form
  unfold maxLen at k2
  go_enter Try.func15, Try.ntmps15
  go_wp2_with fail
  go_loopw [5] (fun vi wr => ∃ k : Nat, (k : Int) ≤ l.length ∧ vi = .int .i64 k ∧ Ext w wr) (fun vi _ => (l.length - intOf vi).toNat)
  case atStart => exact ⟨0, by omega, rfl, Ext.rfl' _⟩
  case round =>
    obtain ⟨k, hk, rfl, hxr⟩ := hrel
    by_cases hlt : (k : Int) < l.length
    · have HLT := hide hlt
      obtain ⟨ad, r, v1, v2, rfl, hr, hb, p0, p1, p2, p3, p4, p5, p6, p7, p8, r1, r2, r3⟩ := re_at (hx.ext hxr) (k := k) (by omega)
      obtain ⟨ad2, r', u1, u2, rfl, hr', hb2, s0, s1, s2, s3, s4, s5, s6, s7, s8, -, t2, t3⟩ := re_at (hy.ext hxr) (k := k) (by omega)
      obtain rfl : r = r' := Option.some.inj (hr.out.symm.trans hr'.out)
      obtain ⟨A1, c1, rfl, -, -, -⟩ := id r2.1
      obtain ⟨A2, c2, rfl, -, -, -⟩ := id r3.1
      obtain ⟨B1, d1, rfl, -, -, -⟩ := id t2.1
      obtain ⟨B2, d2, rfl, -, -, -⟩ := id t3.1
      have hab : (ad.add (k * 9)).block < wr.heap.size := by rw [block_of_add]; exact hb
      have hab2 : (ad2.add (k * 9)).block < wr.heap.size := by rw [block_of_add]; exact hb2
      have hb1 : (0 : Int) ≤ k := by omega
      have hb2' : (k : Int) < l.length := hlt
      go_upto_region 6 with fail
      refine Rg.regionT Try.checked.mixed 27 10 (by kernel_rfl) [
        (fun x_ _ => x_ = .slice (some ad) l.length c),
        (fun x_ _ => x_ = .int .i64 k),
        (fun x_ _ => x_ = .pointer (some (ad.add (k * 9)))),
        (fun x_ _ => x_ = .agg #[.int .i64 r.kind, .int .u64 r.hard.term, .int .i64 r.hard.vote, .int .u64 r.ent.term, .slice A1 r.ent.data.length c1, .int .u64 r.index, .int .u64 r.snap.index, .int .u64 r.snap.term, .slice A2 r.snap.state.length c2]),
        (fun x_ _ => x_ = .slice (some ad2) l.length d),
        (fun x_ _ => x_ = .int .i64 k),
        (fun x_ _ => x_ = .pointer (some (ad2.add (k * 9)))),
        (fun x_ _ => x_ = .agg #[.int .i64 r.kind, .int .u64 r.hard.term, .int .i64 r.hard.vote, .int .u64 r.ent.term, .slice B1 r.ent.data.length d1, .int .u64 r.index, .int .u64 r.snap.index, .int .u64 r.snap.term, .slice B2 r.snap.state.length d2]),
        (fun x_ _ => x_ = .bool true),
        (fun x_ _ => x_ = .bool false)] (fun W => Ext wr W) Ext rfl rfl rfl
        ?st ((Ext.rfl' wr).drew') ?ob ?en
      case st => exact ⟨fun _ _ _ h _ => h, fun _ _ _ h _ => h, fun _ _ _ h _ => h, fun _ _ _ h _ => h, fun _ _ _ h _ => h, fun _ _ _ h _ => h, fun _ _ _ h _ => h, fun _ _ _ h _ => h, fun _ _ _ h _ => h, fun _ _ _ h _ => h, trivial⟩
      case ob =>
        refine ⟨Rg.at_run [0] rfl ?_, ?_⟩
        · intro ρ W hR ⟨q0, _⟩
          replace q0 : ρ 0 = .slice (some ad) l.length c := q0
          refine ⟨rfl, ?_⟩
          exact Rg.run_ok (v := .slice (some ad) l.length c) (by simp [execOp, Rg.ev, go_sem, q0]) ⟨rfl, hR, Ext.rfl' _⟩
        refine ⟨Rg.at_run [5] rfl ?_, ?_⟩
        · intro ρ W hR ⟨q5, _⟩
          replace q5 : ρ 5 = .int .i64 k := q5
          refine ⟨rfl, ?_⟩
          exact Rg.run_ok (v := .int .i64 k) (by simp [execOp, Rg.ev, go_sem, q5]) ⟨rfl, hR, Ext.rfl' _⟩
        refine ⟨Rg.at_run [17, 18] rfl ?_, ?_⟩
        · intro ρ W hR ⟨q17, q18, _⟩
          replace q17 : ρ 17 = .slice (some ad) l.length c := q17
          replace q18 : ρ 18 = .int .i64 k := q18
          refine ⟨rfl, ?_⟩
          exact Rg.run_ok (v := .pointer (some (ad.add (k * 9)))) (by simp [execOp, Rg.ev, go_sem, q17, q18, hb1, hb2']) ⟨rfl, hR, Ext.rfl' _⟩
        refine ⟨Rg.at_run [19] rfl ?_, ?_⟩
        · intro ρ W hR ⟨q19, _⟩
          replace q19 : ρ 19 = .pointer (some (ad.add (k * 9))) := q19
          refine ⟨rfl, ?_⟩
          have c0_ : W.cell? (ad.add (k * 9)) = some (.int .i64 r.kind) := (hR.cell (p := ad.add (k * 9)) hab).trans p0
          have c1_ : W.cell? (⟨(ad.add (k * 9)).block, (ad.add (k * 9)).off + 1, none⟩) = some (.int .u64 r.hard.term) := (hR.cell (p := ⟨(ad.add (k * 9)).block, (ad.add (k * 9)).off + 1, none⟩) hab).trans p1
          have c2_ : W.cell? (⟨(ad.add (k * 9)).block, (ad.add (k * 9)).off + 2, none⟩) = some (.int .i64 r.hard.vote) := (hR.cell (p := ⟨(ad.add (k * 9)).block, (ad.add (k * 9)).off + 2, none⟩) hab).trans p2
          have c3_ : W.cell? (⟨(ad.add (k * 9)).block, (ad.add (k * 9)).off + 3, none⟩) = some (.int .u64 r.ent.term) := (hR.cell (p := ⟨(ad.add (k * 9)).block, (ad.add (k * 9)).off + 3, none⟩) hab).trans p3
          have c4_ : W.cell? (⟨(ad.add (k * 9)).block, (ad.add (k * 9)).off + 4, none⟩) = some (.slice A1 r.ent.data.length c1) := (hR.cell (p := ⟨(ad.add (k * 9)).block, (ad.add (k * 9)).off + 4, none⟩) hab).trans p4
          have c5_ : W.cell? (⟨(ad.add (k * 9)).block, (ad.add (k * 9)).off + 5, none⟩) = some (.int .u64 r.index) := (hR.cell (p := ⟨(ad.add (k * 9)).block, (ad.add (k * 9)).off + 5, none⟩) hab).trans p5
          have c6_ : W.cell? (⟨(ad.add (k * 9)).block, (ad.add (k * 9)).off + 6, none⟩) = some (.int .u64 r.snap.index) := (hR.cell (p := ⟨(ad.add (k * 9)).block, (ad.add (k * 9)).off + 6, none⟩) hab).trans p6
          have c7_ : W.cell? (⟨(ad.add (k * 9)).block, (ad.add (k * 9)).off + 7, none⟩) = some (.int .u64 r.snap.term) := (hR.cell (p := ⟨(ad.add (k * 9)).block, (ad.add (k * 9)).off + 7, none⟩) hab).trans p7
          have c8_ : W.cell? (⟨(ad.add (k * 9)).block, (ad.add (k * 9)).off + 8, none⟩) = some (.slice A2 r.snap.state.length c2) := (hR.cell (p := ⟨(ad.add (k * 9)).block, (ad.add (k * 9)).off + 8, none⟩) hab).trans p8
          exact Rg.run_ok (v := .agg #[.int .i64 r.kind, .int .u64 r.hard.term, .int .i64 r.hard.vote, .int .u64 r.ent.term, .slice A1 r.ent.data.length c1, .int .u64 r.index, .int .u64 r.snap.index, .int .u64 r.snap.term, .slice A2 r.snap.state.length c2]) (by simp [execOp, Rg.ev, go_sem, q19, c0_, c1_, c2_, c3_, c4_, c5_, c6_, c7_, c8_]) ⟨rfl, hR, Ext.rfl' _⟩
        refine ⟨Rg.at_run [1] rfl ?_, ?_⟩
        · intro ρ W hR ⟨q1, _⟩
          replace q1 : ρ 1 = .slice (some ad2) l.length d := q1
          refine ⟨rfl, ?_⟩
          exact Rg.run_ok (v := .slice (some ad2) l.length d) (by simp [execOp, Rg.ev, go_sem, q1]) ⟨rfl, hR, Ext.rfl' _⟩
        refine ⟨Rg.at_run [5] rfl ?_, ?_⟩
        · intro ρ W hR ⟨q5, _⟩
          replace q5 : ρ 5 = .int .i64 k := q5
          refine ⟨rfl, ?_⟩
          exact Rg.run_ok (v := .int .i64 k) (by simp [execOp, Rg.ev, go_sem, q5]) ⟨rfl, hR, Ext.rfl' _⟩
        refine ⟨Rg.at_run [21, 22] rfl ?_, ?_⟩
        · intro ρ W hR ⟨q21, q22, _⟩
          replace q21 : ρ 21 = .slice (some ad2) l.length d := q21
          replace q22 : ρ 22 = .int .i64 k := q22
          refine ⟨rfl, ?_⟩
          exact Rg.run_ok (v := .pointer (some (ad2.add (k * 9)))) (by simp [execOp, Rg.ev, go_sem, q21, q22, hb1, hb2']) ⟨rfl, hR, Ext.rfl' _⟩
        refine ⟨Rg.at_run [23] rfl ?_, ?_⟩
        · intro ρ W hR ⟨q23, _⟩
          replace q23 : ρ 23 = .pointer (some (ad2.add (k * 9))) := q23
          refine ⟨rfl, ?_⟩
          have c0_ : W.cell? (ad2.add (k * 9)) = some (.int .i64 r.kind) := (hR.cell (p := ad2.add (k * 9)) hab2).trans s0
          have c1_ : W.cell? (⟨(ad2.add (k * 9)).block, (ad2.add (k * 9)).off + 1, none⟩) = some (.int .u64 r.hard.term) := (hR.cell (p := ⟨(ad2.add (k * 9)).block, (ad2.add (k * 9)).off + 1, none⟩) hab2).trans s1
          have c2_ : W.cell? (⟨(ad2.add (k * 9)).block, (ad2.add (k * 9)).off + 2, none⟩) = some (.int .i64 r.hard.vote) := (hR.cell (p := ⟨(ad2.add (k * 9)).block, (ad2.add (k * 9)).off + 2, none⟩) hab2).trans s2
          have c3_ : W.cell? (⟨(ad2.add (k * 9)).block, (ad2.add (k * 9)).off + 3, none⟩) = some (.int .u64 r.ent.term) := (hR.cell (p := ⟨(ad2.add (k * 9)).block, (ad2.add (k * 9)).off + 3, none⟩) hab2).trans s3
          have c4_ : W.cell? (⟨(ad2.add (k * 9)).block, (ad2.add (k * 9)).off + 4, none⟩) = some (.slice B1 r.ent.data.length d1) := (hR.cell (p := ⟨(ad2.add (k * 9)).block, (ad2.add (k * 9)).off + 4, none⟩) hab2).trans s4
          have c5_ : W.cell? (⟨(ad2.add (k * 9)).block, (ad2.add (k * 9)).off + 5, none⟩) = some (.int .u64 r.index) := (hR.cell (p := ⟨(ad2.add (k * 9)).block, (ad2.add (k * 9)).off + 5, none⟩) hab2).trans s5
          have c6_ : W.cell? (⟨(ad2.add (k * 9)).block, (ad2.add (k * 9)).off + 6, none⟩) = some (.int .u64 r.snap.index) := (hR.cell (p := ⟨(ad2.add (k * 9)).block, (ad2.add (k * 9)).off + 6, none⟩) hab2).trans s6
          have c7_ : W.cell? (⟨(ad2.add (k * 9)).block, (ad2.add (k * 9)).off + 7, none⟩) = some (.int .u64 r.snap.term) := (hR.cell (p := ⟨(ad2.add (k * 9)).block, (ad2.add (k * 9)).off + 7, none⟩) hab2).trans s7
          have c8_ : W.cell? (⟨(ad2.add (k * 9)).block, (ad2.add (k * 9)).off + 8, none⟩) = some (.slice B2 r.snap.state.length d2) := (hR.cell (p := ⟨(ad2.add (k * 9)).block, (ad2.add (k * 9)).off + 8, none⟩) hab2).trans s8
          exact Rg.run_ok (v := .agg #[.int .i64 r.kind, .int .u64 r.hard.term, .int .i64 r.hard.vote, .int .u64 r.ent.term, .slice B1 r.ent.data.length d1, .int .u64 r.index, .int .u64 r.snap.index, .int .u64 r.snap.term, .slice B2 r.snap.state.length d2]) (by simp [execOp, Rg.ev, go_sem, q23, c0_, c1_, c2_, c3_, c4_, c5_, c6_, c7_, c8_]) ⟨rfl, hR, Ext.rfl' _⟩
        refine ⟨Rg.at_run [20, 24] rfl ?_, ?_⟩
        · intro ρ W hR ⟨q20, q24, _⟩
          replace q20 : ρ 20 = .agg #[.int .i64 r.kind, .int .u64 r.hard.term, .int .i64 r.hard.vote, .int .u64 r.ent.term, .slice A1 r.ent.data.length c1, .int .u64 r.index, .int .u64 r.snap.index, .int .u64 r.snap.term, .slice A2 r.snap.state.length c2] := q20
          replace q24 : ρ 24 = .agg #[.int .i64 r.kind, .int .u64 r.hard.term, .int .i64 r.hard.vote, .int .u64 r.ent.term, .slice B1 r.ent.data.length d1, .int .u64 r.index, .int .u64 r.snap.index, .int .u64 r.snap.term, .slice B2 r.snap.state.length d2] := q24
          refine ⟨rfl, ?_⟩
          refine Rg.run_enter (by simp [execOp, Rg.ev, go_sem, q20, q24]; exact ⟨⟨rfl, rfl⟩, rfl⟩) ?_
          refine (sameRecord_b r _ _ _ _ W r1 (r2.1.ext hR) (r3.1.ext hR) (t2.1.ext hR) (t3.1.ext hR)).mono ?_
          rintro e_ w2 ⟨rfl, hxx⟩
          exact ⟨_, rfl, rfl, hR.trans' hxx, hxx⟩
        refine ⟨Rg.at_run [25] rfl ?_, ?_⟩
        · intro ρ W hR ⟨q25, _⟩
          replace q25 : ρ 25 = .bool true := q25
          refine ⟨rfl, ?_⟩
          exact Rg.run_ok (v := .bool false) (by simp [execOp, Rg.ev, go_sem, q25]) ⟨rfl, hR, Ext.rfl' _⟩
        trivial
      case en =>
        intro tm W hR hsz hk
        rw [Rg.fin_eq (ds := [17, 18, 19, 20, 21, 22, 23, 24, 25, 26]) rfl rfl rfl hsz hk]
        have k17 : tm.getD 17 undef = .slice (some ad) l.length c := hk 17
        have k18 : tm.getD 18 undef = .int .i64 k := hk 18
        have k19 : tm.getD 19 undef = .pointer (some (ad.add (k * 9))) := hk 19
        have k20 : tm.getD 20 undef = .agg #[.int .i64 r.kind, .int .u64 r.hard.term, .int .i64 r.hard.vote, .int .u64 r.ent.term, .slice A1 r.ent.data.length c1, .int .u64 r.index, .int .u64 r.snap.index, .int .u64 r.snap.term, .slice A2 r.snap.state.length c2] := hk 20
        have k21 : tm.getD 21 undef = .slice (some ad2) l.length d := hk 21
        have k22 : tm.getD 22 undef = .int .i64 k := hk 22
        have k23 : tm.getD 23 undef = .pointer (some (ad2.add (k * 9))) := hk 23
        have k24 : tm.getD 24 undef = .agg #[.int .i64 r.kind, .int .u64 r.hard.term, .int .i64 r.hard.vote, .int .u64 r.ent.term, .slice B1 r.ent.data.length d1, .int .u64 r.index, .int .u64 r.snap.index, .int .u64 r.snap.term, .slice B2 r.snap.state.length d2] := hk 24
        have k25 : tm.getD 25 undef = .bool true := hk 25
        have k26 : tm.getD 26 undef = .bool false := hk 26
        clear hk hsz
        simp only [Rg.putAll, List.setIfInBounds_toArray, List.set_cons_zero, List.set_cons_succ, k17, k18, k19, k20, k21, k22, k23, k24, k25, k26]
        clear k17
        clear k18
        clear k19
        clear k20
        clear k21
        clear k22
        clear k23
        clear k24
        clear k25
        clear k26
        refine Rg.nil_list ?_
        go_wp2
        go_roundw
        case rel => exact ⟨k + 1, by have := HLT.out; omega, by go_num, hxr.trans' hR⟩
        case measure => have := HLT.out; simp [intOf]; omega
    · go_wp2
      go_ret
      exact ⟨rfl, hxr⟩
end Go.Proofs.Ytboncnlcomeahaa

