/- A part of the proof of 'StoreAll'. -/
import Derived.Test.YtlblgopfdadalaaS7
import Derived.Test.YtlblgopfdadalaaS9
import Derived.Test.YtlblgopfdadalaaS35
import Derived.Deep.DeepCutAuto
namespace Go.Proofs.Ytlblgopfdadalaa
set_option linter.unusedVariables false
set_option linter.unusedSimpArgs false
set_option linter.unnecessarySimpa false
set_option maxRecDepth 100000
open Go.RowKit
theorem take_snocE {α : Type} {l : List α} {k : Nat} {d : α} (hd : l[k]? = some d) : l.take (k + 1) = l.take k ++ [d] := by
  rw [List.take_add_one, hd]
  rfl
theorem sn_ext {s t : Sn} (h1 : s.index = t.index) (h2 : s.term = t.term) (h3 : s.state = t.state) : s = t := by cases s; cases t; simp_all
theorem en_ext {s t : En} (h1 : s.term = t.term) (h2 : s.data = t.data) : s = t := by cases s; cases t; simp_all
set_option maxHeartbeats 3200000 in
theorem sameSnapG_b (s t : Sn) (v1 v2 : Value) (w : World) (h1 : Bs w v1 s.state) (h2 : Bs w v2 t.state) : Calls Try.prog 46 #[.agg (sncells s v1).toArray, .agg (sncells t v2).toArray] w fun e w' => RetIs (s = t) w w' e := by
  obtain ⟨A1, c1, rfl, -, -, -⟩ := id h1
  obtain ⟨A2, c2, rfl, -, -, -⟩ := id h2
  have hx : Ext w ((w.alloc (.cells (sncells s (.slice A1 s.state.length c1)).toArray 26)).alloc (.cells (sncells t (.slice A2 t.state.length c2)).toArray 26)) := ((Ext.rfl' w).alloc' _).alloc' _
  have hs1 := run_str (P := Try.prog) (h1.ext hx) Try.underlying24 Try.underlying5 Try.underlying9
  have hs2 := run_str (P := Try.prog) (h2.ext hx) Try.underlying24 Try.underlying5 Try.underlying9
  rcases Bool.eq_false_or_eq_true (s.index == t.index) with f1 | f1
  · rcases Bool.eq_false_or_eq_true (s.term == t.term) with f2 | f2
    · rcases Bool.eq_false_or_eq_true (s.state == t.state) with f3 | f3
      · have HE : Hid (s = t) := hide (sn_ext (by simpa using f1) (by simpa using f2) (by simpa using f3))
        go_enter Try.func46, Try.ntmps46
        go_wp2
        go_ret
        exact RetIs.yes hx HE.out
      · have HE : Hid (¬ s = t) := hide (fun h => by simp [h] at f3)
        go_enter Try.func46, Try.ntmps46
        go_wp2
        go_ret
        exact RetIs.no hx HE.out
    · have HE : Hid (¬ s = t) := hide (fun h => by simp [h] at f2)
      go_enter Try.func46, Try.ntmps46
      go_wp2
      go_ret
      exact RetIs.no hx HE.out
  · have HE : Hid (¬ s = t) := hide (fun h => by simp [h] at f1)
    go_enter Try.func46, Try.ntmps46
    go_wp2
    go_ret
    exact RetIs.no hx HE.out
set_option maxHeartbeats 6400000 in
theorem sameEntriesG_b (x y : Value) (l m : List En) (w : World) (hx : Enc.Sl enE w noneAt x l) (hy : Enc.Sl enE w noneAt y m) : Calls Try.prog 45 #[x, y] w fun e w' => RetIs (l = m) w w' e := by
  obtain ⟨A, c, rfl, k1, k2⟩ := hx.form
  obtain ⟨B, d, rfl, k3, k4⟩ := hy.form
  unfold maxLen at k2 k4
  by_cases hlen : l.length = m.length
  · have HL := hide hlen
    have fl : ((l.length : Int) == (m.length : Int)) = true := by simp [hlen]
    have fl2 : (l.length == m.length) = true := by simp [hlen]
    clear hlen
    go_enter Try.func45, Try.ntmps45
    go_wp2_with fail
    clear fl fl2
    go_loopw [5] (fun vi wr => ∃ k : Nat, (k : Int) ≤ l.length ∧ vi = .int .i64 k ∧ Hid (l.take k = m.take k) ∧ Ext w wr) (fun vi _ => (l.length - intOf vi).toNat)
    case atStart => exact ⟨0, by omega, rfl, hide (by simp), Ext.rfl' _⟩
    case round =>
      obtain ⟨k, hk, rfl, hsm, hxr⟩ := hrel
      by_cases hlt : (k : Int) < l.length
      · have HLT := hide hlt
        obtain ⟨ad, e, v1, rfl, he, hb, p0, p1, -, r1⟩ := en_at (hx.ext hxr) (k := k) (by omega)
        obtain ⟨ad2, e2, v2, rfl, he2, hb2, q0_, q1_, -, r2⟩ := en_at (hy.ext hxr) (k := k) (by rw [← HL.out]; omega)
        obtain ⟨A1, c1, rfl, -, -, -⟩ := id r1.1
        obtain ⟨A2, c2, rfl, -, -, -⟩ := id r2.1
        have hab : (ad.add (k * 2)).block < wr.heap.size := by rw [block_of_add]; exact hb
        have hab2 : (ad2.add (k * 2)).block < wr.heap.size := by rw [block_of_add]; exact hb2
        have hb1 : (0 : Int) ≤ k := by omega
        have hb2' : (k : Int) < l.length := hlt
        have hb3' : (k : Int) < m.length := by rw [← HL.out]; exact hlt
        have r1' := r1.1
        have r2' := r2.1
        have hne : Hid (¬ e = e2 → ¬ l = m) := hide (fun h hlm => h (by subst hlm; exact Option.some.inj (he.out.symm.trans he2.out)))
        rcases Bool.eq_false_or_eq_true (e.term == e2.term) with g1 | g1
        · rcases Bool.eq_false_or_eq_true (e.data == e2.data) with g2 | g2
          · have HE : Hid (e = e2) := hide (en_ext (by simpa using g1) (by simpa using g2))
            go_upto_region 6 with fail
            refine Rg.regionT Try.checked.mixed 43 26 (by kernel_rfl) [
              (fun x_ _ => x_ = .slice (some ad) l.length c),
              (fun x_ _ => x_ = .int .i64 k),
              (fun x_ _ => x_ = .pointer (some (ad.add (k * 2)))),
              (fun x_ _ => x_ = .pointer (some (ad.add (k * 2)))),
              (fun x_ _ => x_ = .int .u64 e.term),
              (fun x_ _ => x_ = .slice (some ad2) m.length d),
              (fun x_ _ => x_ = .int .i64 k),
              (fun x_ _ => x_ = .pointer (some (ad2.add (k * 2)))),
              (fun x_ _ => x_ = .pointer (some (ad2.add (k * 2)))),
              (fun x_ _ => x_ = .int .u64 e2.term),
              (fun x_ _ => x_ = .bool false),
              (fun x_ _ => x_ = .bool false),
              (fun x_ _ => x_ = .slice (some ad) l.length c),
              (fun x_ _ => x_ = .int .i64 k),
              (fun x_ _ => x_ = .pointer (some (ad.add (k * 2)))),
              (fun x_ _ => x_ = .pointer (some ⟨(ad.add (k * 2)).block, (ad.add (k * 2)).off + 1, none⟩)),
              (fun x_ _ => x_ = .slice A1 e.data.length c1),
              (fun x_ _ => x_ = str e.data),
              (fun x_ _ => x_ = .slice (some ad2) m.length d),
              (fun x_ _ => x_ = .int .i64 k),
              (fun x_ _ => x_ = .pointer (some (ad2.add (k * 2)))),
              (fun x_ _ => x_ = .pointer (some ⟨(ad2.add (k * 2)).block, (ad2.add (k * 2)).off + 1, none⟩)),
              (fun x_ _ => x_ = .slice A2 e2.data.length c2),
              (fun x_ _ => x_ = str e2.data),
              (fun x_ _ => x_ = .bool false),
              (fun x_ _ => x_ = .bool false)] (fun W => Ext wr W) Ext rfl rfl rfl
              ?st ((Ext.rfl' wr).drew') ?ob ?en
            case st => exact ⟨fun _ _ _ h _ => h, fun _ _ _ h _ => h, fun _ _ _ h _ => h, fun _ _ _ h _ => h, fun _ _ _ h _ => h, fun _ _ _ h _ => h, fun _ _ _ h _ => h, fun _ _ _ h _ => h, fun _ _ _ h _ => h, fun _ _ _ h _ => h, fun _ _ _ h _ => h, fun _ _ _ h _ => h, fun _ _ _ h _ => h, fun _ _ _ h _ => h, fun _ _ _ h _ => h, fun _ _ _ h _ => h, fun _ _ _ h _ => h, fun _ _ _ h _ => h, fun _ _ _ h _ => h, fun _ _ _ h _ => h, fun _ _ _ h _ => h, fun _ _ _ h _ => h, fun _ _ _ h _ => h, fun _ _ _ h _ => h, fun _ _ _ h _ => h, fun _ _ _ h _ => h, trivial⟩
            case ob =>
              refine ⟨Rg.at_run [0] rfl ?_, ?_⟩
              · intro ρ W hR ⟨q0, _⟩
                replace q0 : ρ 0 = .slice (some ad) l.length c := q0
                refine ⟨rfl, ?_⟩
                exact Rg.run_ok (v := .slice (some ad) l.length c) (by simp [execOp, Rg.ev, go_sem, q0]) ⟨rfl, hR, Ext.rfl' _⟩
              refine ⟨Rg.at_run [5] rfl ?_, ?_⟩
              · intro ρ W hR ⟨q5, _⟩
                replace q5 : ρ 5 = .int .i64 k := q5
                refine ⟨rfl, ?_⟩
                exact Rg.run_ok (v := .int .i64 k) (by simp [execOp, Rg.ev, go_sem, q5]) ⟨rfl, hR, Ext.rfl' _⟩
              refine ⟨Rg.at_run [17, 18] rfl ?_, ?_⟩
              · intro ρ W hR ⟨q17, q18, _⟩
                replace q17 : ρ 17 = .slice (some ad) l.length c := q17
                replace q18 : ρ 18 = .int .i64 k := q18
                refine ⟨rfl, ?_⟩
                exact Rg.run_ok (v := .pointer (some (ad.add (k * 2)))) (by simp [execOp, Rg.ev, go_sem, q17, q18, hb1, hb2']) ⟨rfl, hR, Ext.rfl' _⟩
              refine ⟨Rg.at_run [19] rfl ?_, ?_⟩
              · intro ρ W hR ⟨q19, _⟩
                replace q19 : ρ 19 = .pointer (some (ad.add (k * 2))) := q19
                refine ⟨rfl, ?_⟩
                exact Rg.run_ok (v := .pointer (some (ad.add (k * 2)))) (by simp [execOp, Rg.ev, go_sem, q19]) ⟨rfl, hR, Ext.rfl' _⟩
              refine ⟨Rg.at_run [20] rfl ?_, ?_⟩
              · intro ρ W hR ⟨q20, _⟩
                replace q20 : ρ 20 = .pointer (some (ad.add (k * 2))) := q20
                refine ⟨rfl, ?_⟩
                have c_ : W.cell? (ad.add (k * 2)) = some (.int .u64 e.term) := (hR.cell (p := ad.add (k * 2)) hab).trans p0
                exact Rg.run_ok (v := .int .u64 e.term) (by simp [execOp, Rg.ev, go_sem, q20, c_]) ⟨rfl, hR, Ext.rfl' _⟩
              refine ⟨Rg.at_run [1] rfl ?_, ?_⟩
              · intro ρ W hR ⟨q1, _⟩
                replace q1 : ρ 1 = .slice (some ad2) m.length d := q1
                refine ⟨rfl, ?_⟩
                exact Rg.run_ok (v := .slice (some ad2) m.length d) (by simp [execOp, Rg.ev, go_sem, q1]) ⟨rfl, hR, Ext.rfl' _⟩
              refine ⟨Rg.at_run [5] rfl ?_, ?_⟩
              · intro ρ W hR ⟨q5, _⟩
                replace q5 : ρ 5 = .int .i64 k := q5
                refine ⟨rfl, ?_⟩
                exact Rg.run_ok (v := .int .i64 k) (by simp [execOp, Rg.ev, go_sem, q5]) ⟨rfl, hR, Ext.rfl' _⟩
              refine ⟨Rg.at_run [22, 23] rfl ?_, ?_⟩
              · intro ρ W hR ⟨q22, q23, _⟩
                replace q22 : ρ 22 = .slice (some ad2) m.length d := q22
                replace q23 : ρ 23 = .int .i64 k := q23
                refine ⟨rfl, ?_⟩
                exact Rg.run_ok (v := .pointer (some (ad2.add (k * 2)))) (by simp [execOp, Rg.ev, go_sem, q22, q23, hb1, hb3']) ⟨rfl, hR, Ext.rfl' _⟩
              refine ⟨Rg.at_run [24] rfl ?_, ?_⟩
              · intro ρ W hR ⟨q24, _⟩
                replace q24 : ρ 24 = .pointer (some (ad2.add (k * 2))) := q24
                refine ⟨rfl, ?_⟩
                exact Rg.run_ok (v := .pointer (some (ad2.add (k * 2)))) (by simp [execOp, Rg.ev, go_sem, q24]) ⟨rfl, hR, Ext.rfl' _⟩
              refine ⟨Rg.at_run [25] rfl ?_, ?_⟩
              · intro ρ W hR ⟨q25, _⟩
                replace q25 : ρ 25 = .pointer (some (ad2.add (k * 2))) := q25
                refine ⟨rfl, ?_⟩
                have c_ : W.cell? (ad2.add (k * 2)) = some (.int .u64 e2.term) := (hR.cell (p := ad2.add (k * 2)) hab2).trans q0_
                exact Rg.run_ok (v := .int .u64 e2.term) (by simp [execOp, Rg.ev, go_sem, q25, c_]) ⟨rfl, hR, Ext.rfl' _⟩
              refine ⟨Rg.at_run [21, 26] rfl ?_, ?_⟩
              · intro ρ W hR ⟨q21, q26, _⟩
                replace q21 : ρ 21 = .int .u64 e.term := q21
                replace q26 : ρ 26 = .int .u64 e2.term := q26
                refine ⟨rfl, ?_⟩
                have g1_ := g1
                simp only [beq_iff_eq, beq_eq_false_iff_ne, ne_eq] at g1_
                exact Rg.run_ok (v := .bool false) (by simp [execOp, Rg.ev, go_sem, q21, q26, g1_]) ⟨rfl, hR, Ext.rfl' _⟩
              refine ⟨Rg.at_run [27] rfl ?_, ?_⟩
              · intro ρ W hR ⟨q27, _⟩
                replace q27 : ρ 27 = .bool false := q27
                refine ⟨rfl, ?_⟩
                exact Rg.run_ok (v := .bool false) (by simp [execOp, Rg.ev, go_sem, q27]) ⟨rfl, hR, Ext.rfl' _⟩
              refine ⟨Rg.at_run [0, 28] rfl ?_, ?_⟩
              · intro ρ W hR ⟨q0, q28, _⟩
                replace q0 : ρ 0 = .slice (some ad) l.length c := q0
                replace q28 : ρ 28 = .bool false := q28
                refine ⟨by simp [Rg.wants, q28], ?_⟩
                exact Rg.run_ok (v := .slice (some ad) l.length c) (by simp [execOp, Rg.ev, go_sem, q0]) ⟨rfl, hR, Ext.rfl' _⟩
              refine ⟨Rg.at_run [5, 28] rfl ?_, ?_⟩
              · intro ρ W hR ⟨q5, q28, _⟩
                replace q5 : ρ 5 = .int .i64 k := q5
                replace q28 : ρ 28 = .bool false := q28
                refine ⟨by simp [Rg.wants, q28], ?_⟩
                exact Rg.run_ok (v := .int .i64 k) (by simp [execOp, Rg.ev, go_sem, q5]) ⟨rfl, hR, Ext.rfl' _⟩
              refine ⟨Rg.at_run [29, 30, 28] rfl ?_, ?_⟩
              · intro ρ W hR ⟨q29, q30, q28, _⟩
                replace q29 : ρ 29 = .slice (some ad) l.length c := q29
                replace q30 : ρ 30 = .int .i64 k := q30
                replace q28 : ρ 28 = .bool false := q28
                refine ⟨by simp [Rg.wants, q28], ?_⟩
                exact Rg.run_ok (v := .pointer (some (ad.add (k * 2)))) (by simp [execOp, Rg.ev, go_sem, q29, q30, hb1, hb2']) ⟨rfl, hR, Ext.rfl' _⟩
              refine ⟨Rg.at_run [31, 28] rfl ?_, ?_⟩
              · intro ρ W hR ⟨q31, q28, _⟩
                replace q31 : ρ 31 = .pointer (some (ad.add (k * 2))) := q31
                replace q28 : ρ 28 = .bool false := q28
                refine ⟨by simp [Rg.wants, q28], ?_⟩
                exact Rg.run_ok (v := .pointer (some ⟨(ad.add (k * 2)).block, (ad.add (k * 2)).off + 1, none⟩)) (by simp [execOp, Rg.ev, go_sem, q31]) ⟨rfl, hR, Ext.rfl' _⟩
              refine ⟨Rg.at_run [32, 28] rfl ?_, ?_⟩
              · intro ρ W hR ⟨q32, q28, _⟩
                replace q32 : ρ 32 = .pointer (some ⟨(ad.add (k * 2)).block, (ad.add (k * 2)).off + 1, none⟩) := q32
                replace q28 : ρ 28 = .bool false := q28
                refine ⟨by simp [Rg.wants, q28], ?_⟩
                have c_ : W.cell? (⟨(ad.add (k * 2)).block, (ad.add (k * 2)).off + 1, none⟩) = some (.slice A1 e.data.length c1) := (hR.cell (p := ⟨(ad.add (k * 2)).block, (ad.add (k * 2)).off + 1, none⟩) hab).trans p1
                exact Rg.run_ok (v := .slice A1 e.data.length c1) (by simp [execOp, Rg.ev, go_sem, q32, c_]) ⟨rfl, hR, Ext.rfl' _⟩
              refine ⟨Rg.at_run [33, 28] rfl ?_, ?_⟩
              · intro ρ W hR ⟨q33, q28, _⟩
                replace q33 : ρ 33 = .slice A1 e.data.length c1 := q33
                replace q28 : ρ 28 = .bool false := q28
                refine ⟨by simp [Rg.wants, q28], ?_⟩
                have hs := run_str (P := Try.prog) (r1'.ext hR) Try.underlying24 Try.underlying5 Try.underlying9
                exact Rg.run_ok (v := str e.data) (by simp only [execOp, Rg.ev, Sem.run_bind, Sem.run_pure, Result.andThen_ok, q33, hs]) ⟨rfl, hR, Ext.rfl' _⟩
              refine ⟨Rg.at_run [1, 28] rfl ?_, ?_⟩
              · intro ρ W hR ⟨q1, q28, _⟩
                replace q1 : ρ 1 = .slice (some ad2) m.length d := q1
                replace q28 : ρ 28 = .bool false := q28
                refine ⟨by simp [Rg.wants, q28], ?_⟩
                exact Rg.run_ok (v := .slice (some ad2) m.length d) (by simp [execOp, Rg.ev, go_sem, q1]) ⟨rfl, hR, Ext.rfl' _⟩
              refine ⟨Rg.at_run [5, 28] rfl ?_, ?_⟩
              · intro ρ W hR ⟨q5, q28, _⟩
                replace q5 : ρ 5 = .int .i64 k := q5
                replace q28 : ρ 28 = .bool false := q28
                refine ⟨by simp [Rg.wants, q28], ?_⟩
                exact Rg.run_ok (v := .int .i64 k) (by simp [execOp, Rg.ev, go_sem, q5]) ⟨rfl, hR, Ext.rfl' _⟩
              refine ⟨Rg.at_run [35, 36, 28] rfl ?_, ?_⟩
              · intro ρ W hR ⟨q35, q36, q28, _⟩
                replace q35 : ρ 35 = .slice (some ad2) m.length d := q35
                replace q36 : ρ 36 = .int .i64 k := q36
                replace q28 : ρ 28 = .bool false := q28
                refine ⟨by simp [Rg.wants, q28], ?_⟩
                exact Rg.run_ok (v := .pointer (some (ad2.add (k * 2)))) (by simp [execOp, Rg.ev, go_sem, q35, q36, hb1, hb3']) ⟨rfl, hR, Ext.rfl' _⟩
              refine ⟨Rg.at_run [37, 28] rfl ?_, ?_⟩
              · intro ρ W hR ⟨q37, q28, _⟩
                replace q37 : ρ 37 = .pointer (some (ad2.add (k * 2))) := q37
                replace q28 : ρ 28 = .bool false := q28
                refine ⟨by simp [Rg.wants, q28], ?_⟩
                exact Rg.run_ok (v := .pointer (some ⟨(ad2.add (k * 2)).block, (ad2.add (k * 2)).off + 1, none⟩)) (by simp [execOp, Rg.ev, go_sem, q37]) ⟨rfl, hR, Ext.rfl' _⟩
              refine ⟨Rg.at_run [38, 28] rfl ?_, ?_⟩
              · intro ρ W hR ⟨q38, q28, _⟩
                replace q38 : ρ 38 = .pointer (some ⟨(ad2.add (k * 2)).block, (ad2.add (k * 2)).off + 1, none⟩) := q38
                replace q28 : ρ 28 = .bool false := q28
                refine ⟨by simp [Rg.wants, q28], ?_⟩
                have c_ : W.cell? (⟨(ad2.add (k * 2)).block, (ad2.add (k * 2)).off + 1, none⟩) = some (.slice A2 e2.data.length c2) := (hR.cell (p := ⟨(ad2.add (k * 2)).block, (ad2.add (k * 2)).off + 1, none⟩) hab2).trans q1_
                exact Rg.run_ok (v := .slice A2 e2.data.length c2) (by simp [execOp, Rg.ev, go_sem, q38, c_]) ⟨rfl, hR, Ext.rfl' _⟩
              refine ⟨Rg.at_run [39, 28] rfl ?_, ?_⟩
              · intro ρ W hR ⟨q39, q28, _⟩
                replace q39 : ρ 39 = .slice A2 e2.data.length c2 := q39
                replace q28 : ρ 28 = .bool false := q28
                refine ⟨by simp [Rg.wants, q28], ?_⟩
                have hs := run_str (P := Try.prog) (r2'.ext hR) Try.underlying24 Try.underlying5 Try.underlying9
                exact Rg.run_ok (v := str e2.data) (by simp only [execOp, Rg.ev, Sem.run_bind, Sem.run_pure, Result.andThen_ok, q39, hs]) ⟨rfl, hR, Ext.rfl' _⟩
              refine ⟨Rg.at_run [34, 40, 28] rfl ?_, ?_⟩
              · intro ρ W hR ⟨q34, q40, q28, _⟩
                replace q34 : ρ 34 = str e.data := q34
                replace q40 : ρ 40 = str e2.data := q40
                replace q28 : ρ 28 = .bool false := q28
                refine ⟨by simp [Rg.wants, q28], ?_⟩
                have g2_ := g2
                simp only [beq_iff_eq, beq_eq_false_iff_ne, ne_eq] at g2_
                exact Rg.run_ok (v := .bool false) (by simp [execOp, Rg.ev, go_sem, q34, q40, g2_]) ⟨rfl, hR, Ext.rfl' _⟩
              refine ⟨Rg.at_run [28, 41] rfl ?_, ?_⟩
              · intro ρ W hR ⟨q28, q41, _⟩
                replace q28 : ρ 28 = .bool false := q28
                replace q41 : ρ 41 = .bool false := q41
                refine ⟨rfl, ?_⟩
                exact Rg.run_ok (v := .bool false) (by simp [execOp, Rg.ev, go_sem, q28, q41]) ⟨rfl, hR, Ext.rfl' _⟩
              trivial
            case en =>
              intro tm W hR hsz hk
              rw [Rg.fin_eq (ds := [17, 18, 19, 20, 21, 22, 23, 24, 25, 26, 27, 28, 29, 30, 31, 32, 33, 34, 35, 36, 37, 38, 39, 40, 41, 42]) rfl rfl rfl hsz hk]
              have k17 : tm.getD 17 undef = .slice (some ad) l.length c := hk 17
              have k18 : tm.getD 18 undef = .int .i64 k := hk 18
              have k19 : tm.getD 19 undef = .pointer (some (ad.add (k * 2))) := hk 19
              have k20 : tm.getD 20 undef = .pointer (some (ad.add (k * 2))) := hk 20
              have k21 : tm.getD 21 undef = .int .u64 e.term := hk 21
              have k22 : tm.getD 22 undef = .slice (some ad2) m.length d := hk 22
              have k23 : tm.getD 23 undef = .int .i64 k := hk 23
              have k24 : tm.getD 24 undef = .pointer (some (ad2.add (k * 2))) := hk 24
              have k25 : tm.getD 25 undef = .pointer (some (ad2.add (k * 2))) := hk 25
              have k26 : tm.getD 26 undef = .int .u64 e2.term := hk 26
              have k27 : tm.getD 27 undef = .bool false := hk 27
              have k28 : tm.getD 28 undef = .bool false := hk 28
              have k29 : tm.getD 29 undef = .slice (some ad) l.length c := hk 29
              have k30 : tm.getD 30 undef = .int .i64 k := hk 30
              have k31 : tm.getD 31 undef = .pointer (some (ad.add (k * 2))) := hk 31
              have k32 : tm.getD 32 undef = .pointer (some ⟨(ad.add (k * 2)).block, (ad.add (k * 2)).off + 1, none⟩) := hk 32
              have k33 : tm.getD 33 undef = .slice A1 e.data.length c1 := hk 33
              have k34 : tm.getD 34 undef = str e.data := hk 34
              have k35 : tm.getD 35 undef = .slice (some ad2) m.length d := hk 35
              have k36 : tm.getD 36 undef = .int .i64 k := hk 36
              have k37 : tm.getD 37 undef = .pointer (some (ad2.add (k * 2))) := hk 37
              have k38 : tm.getD 38 undef = .pointer (some ⟨(ad2.add (k * 2)).block, (ad2.add (k * 2)).off + 1, none⟩) := hk 38
              have k39 : tm.getD 39 undef = .slice A2 e2.data.length c2 := hk 39
              have k40 : tm.getD 40 undef = str e2.data := hk 40
              have k41 : tm.getD 41 undef = .bool false := hk 41
              have k42 : tm.getD 42 undef = .bool false := hk 42
              clear hk hsz
              simp only [Rg.putAll, List.setIfInBounds_toArray, List.set_cons_zero, List.set_cons_succ, k17, k18, k19, k20, k21, k22, k23, k24, k25, k26, k27, k28, k29, k30, k31, k32, k33, k34, k35, k36, k37, k38, k39, k40, k41, k42]
              clear k17
              clear k18
              clear k19
              clear k20
              clear k21
              clear k22
              clear k23
              clear k24
              clear k25
              clear k26
              clear k27
              clear k28
              clear k29
              clear k30
              clear k31
              clear k32
              clear k33
              clear k34
              clear k35
              clear k36
              clear k37
              clear k38
              clear k39
              clear k40
              clear k41
              clear k42
              refine Rg.nil_list ?_
              go_wp2
              go_roundw
              case rel => exact ⟨k + 1, by have := HLT.out; omega, by go_num, hide (by rw [take_snocE he.out, take_snocE he2.out, hsm.out, HE.out]), hxr.trans' hR⟩
              case measure => have := HLT.out; simp [intOf]; omega
          · have HE : Hid (¬ e = e2) := hide (fun h => by simp [h] at g2)
            go_upto_region 6 with fail
            refine Rg.regionT Try.checked.mixed 43 26 (by kernel_rfl) [
              (fun x_ _ => x_ = .slice (some ad) l.length c),
              (fun x_ _ => x_ = .int .i64 k),
              (fun x_ _ => x_ = .pointer (some (ad.add (k * 2)))),
              (fun x_ _ => x_ = .pointer (some (ad.add (k * 2)))),
              (fun x_ _ => x_ = .int .u64 e.term),
              (fun x_ _ => x_ = .slice (some ad2) m.length d),
              (fun x_ _ => x_ = .int .i64 k),
              (fun x_ _ => x_ = .pointer (some (ad2.add (k * 2)))),
              (fun x_ _ => x_ = .pointer (some (ad2.add (k * 2)))),
              (fun x_ _ => x_ = .int .u64 e2.term),
              (fun x_ _ => x_ = .bool false),
              (fun x_ _ => x_ = .bool false),
              (fun x_ _ => x_ = .slice (some ad) l.length c),
              (fun x_ _ => x_ = .int .i64 k),
              (fun x_ _ => x_ = .pointer (some (ad.add (k * 2)))),
              (fun x_ _ => x_ = .pointer (some ⟨(ad.add (k * 2)).block, (ad.add (k * 2)).off + 1, none⟩)),
              (fun x_ _ => x_ = .slice A1 e.data.length c1),
              (fun x_ _ => x_ = str e.data),
              (fun x_ _ => x_ = .slice (some ad2) m.length d),
              (fun x_ _ => x_ = .int .i64 k),
              (fun x_ _ => x_ = .pointer (some (ad2.add (k * 2)))),
              (fun x_ _ => x_ = .pointer (some ⟨(ad2.add (k * 2)).block, (ad2.add (k * 2)).off + 1, none⟩)),
              (fun x_ _ => x_ = .slice A2 e2.data.length c2),
              (fun x_ _ => x_ = str e2.data),
              (fun x_ _ => x_ = .bool true),
              (fun x_ _ => x_ = .bool true)] (fun W => Ext wr W) Ext rfl rfl rfl
              ?st ((Ext.rfl' wr).drew') ?ob ?en
            case st => exact ⟨fun _ _ _ h _ => h, fun _ _ _ h _ => h, fun _ _ _ h _ => h, fun _ _ _ h _ => h, fun _ _ _ h _ => h, fun _ _ _ h _ => h, fun _ _ _ h _ => h, fun _ _ _ h _ => h, fun _ _ _ h _ => h, fun _ _ _ h _ => h, fun _ _ _ h _ => h, fun _ _ _ h _ => h, fun _ _ _ h _ => h, fun _ _ _ h _ => h, fun _ _ _ h _ => h, fun _ _ _ h _ => h, fun _ _ _ h _ => h, fun _ _ _ h _ => h, fun _ _ _ h _ => h, fun _ _ _ h _ => h, fun _ _ _ h _ => h, fun _ _ _ h _ => h, fun _ _ _ h _ => h, fun _ _ _ h _ => h, fun _ _ _ h _ => h, fun _ _ _ h _ => h, trivial⟩
            case ob =>
              refine ⟨Rg.at_run [0] rfl ?_, ?_⟩
              · intro ρ W hR ⟨q0, _⟩
                replace q0 : ρ 0 = .slice (some ad) l.length c := q0
                refine ⟨rfl, ?_⟩
                exact Rg.run_ok (v := .slice (some ad) l.length c) (by simp [execOp, Rg.ev, go_sem, q0]) ⟨rfl, hR, Ext.rfl' _⟩
              refine ⟨Rg.at_run [5] rfl ?_, ?_⟩
              · intro ρ W hR ⟨q5, _⟩
                replace q5 : ρ 5 = .int .i64 k := q5
                refine ⟨rfl, ?_⟩
                exact Rg.run_ok (v := .int .i64 k) (by simp [execOp, Rg.ev, go_sem, q5]) ⟨rfl, hR, Ext.rfl' _⟩
              refine ⟨Rg.at_run [17, 18] rfl ?_, ?_⟩
              · intro ρ W hR ⟨q17, q18, _⟩
                replace q17 : ρ 17 = .slice (some ad) l.length c := q17
                replace q18 : ρ 18 = .int .i64 k := q18
                refine ⟨rfl, ?_⟩
                exact Rg.run_ok (v := .pointer (some (ad.add (k * 2)))) (by simp [execOp, Rg.ev, go_sem, q17, q18, hb1, hb2']) ⟨rfl, hR, Ext.rfl' _⟩
              refine ⟨Rg.at_run [19] rfl ?_, ?_⟩
              · intro ρ W hR ⟨q19, _⟩
                replace q19 : ρ 19 = .pointer (some (ad.add (k * 2))) := q19
                refine ⟨rfl, ?_⟩
                exact Rg.run_ok (v := .pointer (some (ad.add (k * 2)))) (by simp [execOp, Rg.ev, go_sem, q19]) ⟨rfl, hR, Ext.rfl' _⟩
              refine ⟨Rg.at_run [20] rfl ?_, ?_⟩
              · intro ρ W hR ⟨q20, _⟩
                replace q20 : ρ 20 = .pointer (some (ad.add (k * 2))) := q20
                refine ⟨rfl, ?_⟩
                have c_ : W.cell? (ad.add (k * 2)) = some (.int .u64 e.term) := (hR.cell (p := ad.add (k * 2)) hab).trans p0
                exact Rg.run_ok (v := .int .u64 e.term) (by simp [execOp, Rg.ev, go_sem, q20, c_]) ⟨rfl, hR, Ext.rfl' _⟩
              refine ⟨Rg.at_run [1] rfl ?_, ?_⟩
              · intro ρ W hR ⟨q1, _⟩
                replace q1 : ρ 1 = .slice (some ad2) m.length d := q1
                refine ⟨rfl, ?_⟩
                exact Rg.run_ok (v := .slice (some ad2) m.length d) (by simp [execOp, Rg.ev, go_sem, q1]) ⟨rfl, hR, Ext.rfl' _⟩
              refine ⟨Rg.at_run [5] rfl ?_, ?_⟩
              · intro ρ W hR ⟨q5, _⟩
                replace q5 : ρ 5 = .int .i64 k := q5
                refine ⟨rfl, ?_⟩
                exact Rg.run_ok (v := .int .i64 k) (by simp [execOp, Rg.ev, go_sem, q5]) ⟨rfl, hR, Ext.rfl' _⟩
              refine ⟨Rg.at_run [22, 23] rfl ?_, ?_⟩
              · intro ρ W hR ⟨q22, q23, _⟩
                replace q22 : ρ 22 = .slice (some ad2) m.length d := q22
                replace q23 : ρ 23 = .int .i64 k := q23
                refine ⟨rfl, ?_⟩
                exact Rg.run_ok (v := .pointer (some (ad2.add (k * 2)))) (by simp [execOp, Rg.ev, go_sem, q22, q23, hb1, hb3']) ⟨rfl, hR, Ext.rfl' _⟩
              refine ⟨Rg.at_run [24] rfl ?_, ?_⟩
              · intro ρ W hR ⟨q24, _⟩
                replace q24 : ρ 24 = .pointer (some (ad2.add (k * 2))) := q24
                refine ⟨rfl, ?_⟩
                exact Rg.run_ok (v := .pointer (some (ad2.add (k * 2)))) (by simp [execOp, Rg.ev, go_sem, q24]) ⟨rfl, hR, Ext.rfl' _⟩
              refine ⟨Rg.at_run [25] rfl ?_, ?_⟩
              · intro ρ W hR ⟨q25, _⟩
                replace q25 : ρ 25 = .pointer (some (ad2.add (k * 2))) := q25
                refine ⟨rfl, ?_⟩
                have c_ : W.cell? (ad2.add (k * 2)) = some (.int .u64 e2.term) := (hR.cell (p := ad2.add (k * 2)) hab2).trans q0_
                exact Rg.run_ok (v := .int .u64 e2.term) (by simp [execOp, Rg.ev, go_sem, q25, c_]) ⟨rfl, hR, Ext.rfl' _⟩
              refine ⟨Rg.at_run [21, 26] rfl ?_, ?_⟩
              · intro ρ W hR ⟨q21, q26, _⟩
                replace q21 : ρ 21 = .int .u64 e.term := q21
                replace q26 : ρ 26 = .int .u64 e2.term := q26
                refine ⟨rfl, ?_⟩
                have g1_ := g1
                simp only [beq_iff_eq, beq_eq_false_iff_ne, ne_eq] at g1_
                exact Rg.run_ok (v := .bool false) (by simp [execOp, Rg.ev, go_sem, q21, q26, g1_]) ⟨rfl, hR, Ext.rfl' _⟩
              refine ⟨Rg.at_run [27] rfl ?_, ?_⟩
              · intro ρ W hR ⟨q27, _⟩
                replace q27 : ρ 27 = .bool false := q27
                refine ⟨rfl, ?_⟩
                exact Rg.run_ok (v := .bool false) (by simp [execOp, Rg.ev, go_sem, q27]) ⟨rfl, hR, Ext.rfl' _⟩
              refine ⟨Rg.at_run [0, 28] rfl ?_, ?_⟩
              · intro ρ W hR ⟨q0, q28, _⟩
                replace q0 : ρ 0 = .slice (some ad) l.length c := q0
                replace q28 : ρ 28 = .bool false := q28
                refine ⟨by simp [Rg.wants, q28], ?_⟩
                exact Rg.run_ok (v := .slice (some ad) l.length c) (by simp [execOp, Rg.ev, go_sem, q0]) ⟨rfl, hR, Ext.rfl' _⟩
              refine ⟨Rg.at_run [5, 28] rfl ?_, ?_⟩
              · intro ρ W hR ⟨q5, q28, _⟩
                replace q5 : ρ 5 = .int .i64 k := q5
                replace q28 : ρ 28 = .bool false := q28
                refine ⟨by simp [Rg.wants, q28], ?_⟩
                exact Rg.run_ok (v := .int .i64 k) (by simp [execOp, Rg.ev, go_sem, q5]) ⟨rfl, hR, Ext.rfl' _⟩
              refine ⟨Rg.at_run [29, 30, 28] rfl ?_, ?_⟩
              · intro ρ W hR ⟨q29, q30, q28, _⟩
                replace q29 : ρ 29 = .slice (some ad) l.length c := q29
                replace q30 : ρ 30 = .int .i64 k := q30
                replace q28 : ρ 28 = .bool false := q28
                refine ⟨by simp [Rg.wants, q28], ?_⟩
                exact Rg.run_ok (v := .pointer (some (ad.add (k * 2)))) (by simp [execOp, Rg.ev, go_sem, q29, q30, hb1, hb2']) ⟨rfl, hR, Ext.rfl' _⟩
              refine ⟨Rg.at_run [31, 28] rfl ?_, ?_⟩
              · intro ρ W hR ⟨q31, q28, _⟩
                replace q31 : ρ 31 = .pointer (some (ad.add (k * 2))) := q31
                replace q28 : ρ 28 = .bool false := q28
                refine ⟨by simp [Rg.wants, q28], ?_⟩
                exact Rg.run_ok (v := .pointer (some ⟨(ad.add (k * 2)).block, (ad.add (k * 2)).off + 1, none⟩)) (by simp [execOp, Rg.ev, go_sem, q31]) ⟨rfl, hR, Ext.rfl' _⟩
              refine ⟨Rg.at_run [32, 28] rfl ?_, ?_⟩
              · intro ρ W hR ⟨q32, q28, _⟩
                replace q32 : ρ 32 = .pointer (some ⟨(ad.add (k * 2)).block, (ad.add (k * 2)).off + 1, none⟩) := q32
                replace q28 : ρ 28 = .bool false := q28
                refine ⟨by simp [Rg.wants, q28], ?_⟩
                have c_ : W.cell? (⟨(ad.add (k * 2)).block, (ad.add (k * 2)).off + 1, none⟩) = some (.slice A1 e.data.length c1) := (hR.cell (p := ⟨(ad.add (k * 2)).block, (ad.add (k * 2)).off + 1, none⟩) hab).trans p1
                exact Rg.run_ok (v := .slice A1 e.data.length c1) (by simp [execOp, Rg.ev, go_sem, q32, c_]) ⟨rfl, hR, Ext.rfl' _⟩
              refine ⟨Rg.at_run [33, 28] rfl ?_, ?_⟩
              · intro ρ W hR ⟨q33, q28, _⟩
                replace q33 : ρ 33 = .slice A1 e.data.length c1 := q33
                replace q28 : ρ 28 = .bool false := q28
                refine ⟨by simp [Rg.wants, q28], ?_⟩
                have hs := run_str (P := Try.prog) (r1'.ext hR) Try.underlying24 Try.underlying5 Try.underlying9
                exact Rg.run_ok (v := str e.data) (by simp only [execOp, Rg.ev, Sem.run_bind, Sem.run_pure, Result.andThen_ok, q33, hs]) ⟨rfl, hR, Ext.rfl' _⟩
              refine ⟨Rg.at_run [1, 28] rfl ?_, ?_⟩
              · intro ρ W hR ⟨q1, q28, _⟩
                replace q1 : ρ 1 = .slice (some ad2) m.length d := q1
                replace q28 : ρ 28 = .bool false := q28
                refine ⟨by simp [Rg.wants, q28], ?_⟩
                exact Rg.run_ok (v := .slice (some ad2) m.length d) (by simp [execOp, Rg.ev, go_sem, q1]) ⟨rfl, hR, Ext.rfl' _⟩
              refine ⟨Rg.at_run [5, 28] rfl ?_, ?_⟩
              · intro ρ W hR ⟨q5, q28, _⟩
                replace q5 : ρ 5 = .int .i64 k := q5
                replace q28 : ρ 28 = .bool false := q28
                refine ⟨by simp [Rg.wants, q28], ?_⟩
                exact Rg.run_ok (v := .int .i64 k) (by simp [execOp, Rg.ev, go_sem, q5]) ⟨rfl, hR, Ext.rfl' _⟩
              refine ⟨Rg.at_run [35, 36, 28] rfl ?_, ?_⟩
              · intro ρ W hR ⟨q35, q36, q28, _⟩
                replace q35 : ρ 35 = .slice (some ad2) m.length d := q35
                replace q36 : ρ 36 = .int .i64 k := q36
                replace q28 : ρ 28 = .bool false := q28
                refine ⟨by simp [Rg.wants, q28], ?_⟩
                exact Rg.run_ok (v := .pointer (some (ad2.add (k * 2)))) (by simp [execOp, Rg.ev, go_sem, q35, q36, hb1, hb3']) ⟨rfl, hR, Ext.rfl' _⟩
              refine ⟨Rg.at_run [37, 28] rfl ?_, ?_⟩
              · intro ρ W hR ⟨q37, q28, _⟩
                replace q37 : ρ 37 = .pointer (some (ad2.add (k * 2))) := q37
                replace q28 : ρ 28 = .bool false := q28
                refine ⟨by simp [Rg.wants, q28], ?_⟩
                exact Rg.run_ok (v := .pointer (some ⟨(ad2.add (k * 2)).block, (ad2.add (k * 2)).off + 1, none⟩)) (by simp [execOp, Rg.ev, go_sem, q37]) ⟨rfl, hR, Ext.rfl' _⟩
              refine ⟨Rg.at_run [38, 28] rfl ?_, ?_⟩
              · intro ρ W hR ⟨q38, q28, _⟩
                replace q38 : ρ 38 = .pointer (some ⟨(ad2.add (k * 2)).block, (ad2.add (k * 2)).off + 1, none⟩) := q38
                replace q28 : ρ 28 = .bool false := q28
                refine ⟨by simp [Rg.wants, q28], ?_⟩
                have c_ : W.cell? (⟨(ad2.add (k * 2)).block, (ad2.add (k * 2)).off + 1, none⟩) = some (.slice A2 e2.data.length c2) := (hR.cell (p := ⟨(ad2.add (k * 2)).block, (ad2.add (k * 2)).off + 1, none⟩) hab2).trans q1_
                exact Rg.run_ok (v := .slice A2 e2.data.length c2) (by simp [execOp, Rg.ev, go_sem, q38, c_]) ⟨rfl, hR, Ext.rfl' _⟩
              refine ⟨Rg.at_run [39, 28] rfl ?_, ?_⟩
              · intro ρ W hR ⟨q39, q28, _⟩
                replace q39 : ρ 39 = .slice A2 e2.data.length c2 := q39
                replace q28 : ρ 28 = .bool false := q28
                refine ⟨by simp [Rg.wants, q28], ?_⟩
                have hs := run_str (P := Try.prog) (r2'.ext hR) Try.underlying24 Try.underlying5 Try.underlying9
                exact Rg.run_ok (v := str e2.data) (by simp only [execOp, Rg.ev, Sem.run_bind, Sem.run_pure, Result.andThen_ok, q39, hs]) ⟨rfl, hR, Ext.rfl' _⟩
              refine ⟨Rg.at_run [34, 40, 28] rfl ?_, ?_⟩
              · intro ρ W hR ⟨q34, q40, q28, _⟩
                replace q34 : ρ 34 = str e.data := q34
                replace q40 : ρ 40 = str e2.data := q40
                replace q28 : ρ 28 = .bool false := q28
                refine ⟨by simp [Rg.wants, q28], ?_⟩
                have g2_ := g2
                simp only [beq_iff_eq, beq_eq_false_iff_ne, ne_eq] at g2_
                exact Rg.run_ok (v := .bool true) (by simp [execOp, Rg.ev, go_sem, q34, q40, g2_]) ⟨rfl, hR, Ext.rfl' _⟩
              refine ⟨Rg.at_run [28, 41] rfl ?_, ?_⟩
              · intro ρ W hR ⟨q28, q41, _⟩
                replace q28 : ρ 28 = .bool false := q28
                replace q41 : ρ 41 = .bool true := q41
                refine ⟨rfl, ?_⟩
                exact Rg.run_ok (v := .bool true) (by simp [execOp, Rg.ev, go_sem, q28, q41]) ⟨rfl, hR, Ext.rfl' _⟩
              trivial
            case en =>
              intro tm W hR hsz hk
              rw [Rg.fin_eq (ds := [17, 18, 19, 20, 21, 22, 23, 24, 25, 26, 27, 28, 29, 30, 31, 32, 33, 34, 35, 36, 37, 38, 39, 40, 41, 42]) rfl rfl rfl hsz hk]
              have k17 : tm.getD 17 undef = .slice (some ad) l.length c := hk 17
              have k18 : tm.getD 18 undef = .int .i64 k := hk 18
              have k19 : tm.getD 19 undef = .pointer (some (ad.add (k * 2))) := hk 19
              have k20 : tm.getD 20 undef = .pointer (some (ad.add (k * 2))) := hk 20
              have k21 : tm.getD 21 undef = .int .u64 e.term := hk 21
              have k22 : tm.getD 22 undef = .slice (some ad2) m.length d := hk 22
              have k23 : tm.getD 23 undef = .int .i64 k := hk 23
              have k24 : tm.getD 24 undef = .pointer (some (ad2.add (k * 2))) := hk 24
              have k25 : tm.getD 25 undef = .pointer (some (ad2.add (k * 2))) := hk 25
              have k26 : tm.getD 26 undef = .int .u64 e2.term := hk 26
              have k27 : tm.getD 27 undef = .bool false := hk 27
              have k28 : tm.getD 28 undef = .bool false := hk 28
              have k29 : tm.getD 29 undef = .slice (some ad) l.length c := hk 29
              have k30 : tm.getD 30 undef = .int .i64 k := hk 30
              have k31 : tm.getD 31 undef = .pointer (some (ad.add (k * 2))) := hk 31
              have k32 : tm.getD 32 undef = .pointer (some ⟨(ad.add (k * 2)).block, (ad.add (k * 2)).off + 1, none⟩) := hk 32
              have k33 : tm.getD 33 undef = .slice A1 e.data.length c1 := hk 33
              have k34 : tm.getD 34 undef = str e.data := hk 34
              have k35 : tm.getD 35 undef = .slice (some ad2) m.length d := hk 35
              have k36 : tm.getD 36 undef = .int .i64 k := hk 36
              have k37 : tm.getD 37 undef = .pointer (some (ad2.add (k * 2))) := hk 37
              have k38 : tm.getD 38 undef = .pointer (some ⟨(ad2.add (k * 2)).block, (ad2.add (k * 2)).off + 1, none⟩) := hk 38
              have k39 : tm.getD 39 undef = .slice A2 e2.data.length c2 := hk 39
              have k40 : tm.getD 40 undef = str e2.data := hk 40
              have k41 : tm.getD 41 undef = .bool true := hk 41
              have k42 : tm.getD 42 undef = .bool true := hk 42
              clear hk hsz
              simp only [Rg.putAll, List.setIfInBounds_toArray, List.set_cons_zero, List.set_cons_succ, k17, k18, k19, k20, k21, k22, k23, k24, k25, k26, k27, k28, k29, k30, k31, k32, k33, k34, k35, k36, k37, k38, k39, k40, k41, k42]
              clear k17
              clear k18
              clear k19
              clear k20
              clear k21
              clear k22
              clear k23
              clear k24
              clear k25
              clear k26
              clear k27
              clear k28
              clear k29
              clear k30
              clear k31
              clear k32
              clear k33
              clear k34
              clear k35
              clear k36
              clear k37
              clear k38
              clear k39
              clear k40
              clear k41
              clear k42
              refine Rg.nil_list ?_
              go_wp2
              go_ret
              exact RetIs.no (hxr.trans' hR) (hne.out HE.out)
        · have HE : Hid (¬ e = e2) := hide (fun h => by simp [h] at g1)
          go_upto_region 6 with fail
          refine Rg.regionT Try.checked.mixed 43 26 (by kernel_rfl) [
            (fun x_ _ => x_ = .slice (some ad) l.length c),
            (fun x_ _ => x_ = .int .i64 k),
            (fun x_ _ => x_ = .pointer (some (ad.add (k * 2)))),
            (fun x_ _ => x_ = .pointer (some (ad.add (k * 2)))),
            (fun x_ _ => x_ = .int .u64 e.term),
            (fun x_ _ => x_ = .slice (some ad2) m.length d),
            (fun x_ _ => x_ = .int .i64 k),
            (fun x_ _ => x_ = .pointer (some (ad2.add (k * 2)))),
            (fun x_ _ => x_ = .pointer (some (ad2.add (k * 2)))),
            (fun x_ _ => x_ = .int .u64 e2.term),
            (fun x_ _ => x_ = .bool true),
            (fun x_ _ => x_ = .bool true),
            (fun x_ _ => x_ = undef),
            (fun x_ _ => x_ = undef),
            (fun x_ _ => x_ = undef),
            (fun x_ _ => x_ = undef),
            (fun x_ _ => x_ = undef),
            (fun x_ _ => x_ = undef),
            (fun x_ _ => x_ = undef),
            (fun x_ _ => x_ = undef),
            (fun x_ _ => x_ = undef),
            (fun x_ _ => x_ = undef),
            (fun x_ _ => x_ = undef),
            (fun x_ _ => x_ = undef),
            (fun x_ _ => x_ = undef),
            (fun x_ _ => x_ = .bool true)] (fun W => Ext wr W) Ext rfl rfl rfl
            ?st ((Ext.rfl' wr).drew') ?ob ?en
          case st => exact ⟨fun _ _ _ h _ => h, fun _ _ _ h _ => h, fun _ _ _ h _ => h, fun _ _ _ h _ => h, fun _ _ _ h _ => h, fun _ _ _ h _ => h, fun _ _ _ h _ => h, fun _ _ _ h _ => h, fun _ _ _ h _ => h, fun _ _ _ h _ => h, fun _ _ _ h _ => h, fun _ _ _ h _ => h, fun _ _ _ h _ => h, fun _ _ _ h _ => h, fun _ _ _ h _ => h, fun _ _ _ h _ => h, fun _ _ _ h _ => h, fun _ _ _ h _ => h, fun _ _ _ h _ => h, fun _ _ _ h _ => h, fun _ _ _ h _ => h, fun _ _ _ h _ => h, fun _ _ _ h _ => h, fun _ _ _ h _ => h, fun _ _ _ h _ => h, fun _ _ _ h _ => h, trivial⟩
          case ob =>
            refine ⟨Rg.at_run [0] rfl ?_, ?_⟩
            · intro ρ W hR ⟨q0, _⟩
              replace q0 : ρ 0 = .slice (some ad) l.length c := q0
              refine ⟨rfl, ?_⟩
              exact Rg.run_ok (v := .slice (some ad) l.length c) (by simp [execOp, Rg.ev, go_sem, q0]) ⟨rfl, hR, Ext.rfl' _⟩
            refine ⟨Rg.at_run [5] rfl ?_, ?_⟩
            · intro ρ W hR ⟨q5, _⟩
              replace q5 : ρ 5 = .int .i64 k := q5
              refine ⟨rfl, ?_⟩
              exact Rg.run_ok (v := .int .i64 k) (by simp [execOp, Rg.ev, go_sem, q5]) ⟨rfl, hR, Ext.rfl' _⟩
            refine ⟨Rg.at_run [17, 18] rfl ?_, ?_⟩
            · intro ρ W hR ⟨q17, q18, _⟩
              replace q17 : ρ 17 = .slice (some ad) l.length c := q17
              replace q18 : ρ 18 = .int .i64 k := q18
              refine ⟨rfl, ?_⟩
              exact Rg.run_ok (v := .pointer (some (ad.add (k * 2)))) (by simp [execOp, Rg.ev, go_sem, q17, q18, hb1, hb2']) ⟨rfl, hR, Ext.rfl' _⟩
            refine ⟨Rg.at_run [19] rfl ?_, ?_⟩
            · intro ρ W hR ⟨q19, _⟩
              replace q19 : ρ 19 = .pointer (some (ad.add (k * 2))) := q19
              refine ⟨rfl, ?_⟩
              exact Rg.run_ok (v := .pointer (some (ad.add (k * 2)))) (by simp [execOp, Rg.ev, go_sem, q19]) ⟨rfl, hR, Ext.rfl' _⟩
            refine ⟨Rg.at_run [20] rfl ?_, ?_⟩
            · intro ρ W hR ⟨q20, _⟩
              replace q20 : ρ 20 = .pointer (some (ad.add (k * 2))) := q20
              refine ⟨rfl, ?_⟩
              have c_ : W.cell? (ad.add (k * 2)) = some (.int .u64 e.term) := (hR.cell (p := ad.add (k * 2)) hab).trans p0
              exact Rg.run_ok (v := .int .u64 e.term) (by simp [execOp, Rg.ev, go_sem, q20, c_]) ⟨rfl, hR, Ext.rfl' _⟩
            refine ⟨Rg.at_run [1] rfl ?_, ?_⟩
            · intro ρ W hR ⟨q1, _⟩
              replace q1 : ρ 1 = .slice (some ad2) m.length d := q1
              refine ⟨rfl, ?_⟩
              exact Rg.run_ok (v := .slice (some ad2) m.length d) (by simp [execOp, Rg.ev, go_sem, q1]) ⟨rfl, hR, Ext.rfl' _⟩
            refine ⟨Rg.at_run [5] rfl ?_, ?_⟩
            · intro ρ W hR ⟨q5, _⟩
              replace q5 : ρ 5 = .int .i64 k := q5
              refine ⟨rfl, ?_⟩
              exact Rg.run_ok (v := .int .i64 k) (by simp [execOp, Rg.ev, go_sem, q5]) ⟨rfl, hR, Ext.rfl' _⟩
            refine ⟨Rg.at_run [22, 23] rfl ?_, ?_⟩
            · intro ρ W hR ⟨q22, q23, _⟩
              replace q22 : ρ 22 = .slice (some ad2) m.length d := q22
              replace q23 : ρ 23 = .int .i64 k := q23
              refine ⟨rfl, ?_⟩
              exact Rg.run_ok (v := .pointer (some (ad2.add (k * 2)))) (by simp [execOp, Rg.ev, go_sem, q22, q23, hb1, hb3']) ⟨rfl, hR, Ext.rfl' _⟩
            refine ⟨Rg.at_run [24] rfl ?_, ?_⟩
            · intro ρ W hR ⟨q24, _⟩
              replace q24 : ρ 24 = .pointer (some (ad2.add (k * 2))) := q24
              refine ⟨rfl, ?_⟩
              exact Rg.run_ok (v := .pointer (some (ad2.add (k * 2)))) (by simp [execOp, Rg.ev, go_sem, q24]) ⟨rfl, hR, Ext.rfl' _⟩
            refine ⟨Rg.at_run [25] rfl ?_, ?_⟩
            · intro ρ W hR ⟨q25, _⟩
              replace q25 : ρ 25 = .pointer (some (ad2.add (k * 2))) := q25
              refine ⟨rfl, ?_⟩
              have c_ : W.cell? (ad2.add (k * 2)) = some (.int .u64 e2.term) := (hR.cell (p := ad2.add (k * 2)) hab2).trans q0_
              exact Rg.run_ok (v := .int .u64 e2.term) (by simp [execOp, Rg.ev, go_sem, q25, c_]) ⟨rfl, hR, Ext.rfl' _⟩
            refine ⟨Rg.at_run [21, 26] rfl ?_, ?_⟩
            · intro ρ W hR ⟨q21, q26, _⟩
              replace q21 : ρ 21 = .int .u64 e.term := q21
              replace q26 : ρ 26 = .int .u64 e2.term := q26
              refine ⟨rfl, ?_⟩
              have g1_ := g1
              simp only [beq_iff_eq, beq_eq_false_iff_ne, ne_eq] at g1_
              exact Rg.run_ok (v := .bool true) (by simp [execOp, Rg.ev, go_sem, q21, q26, g1_]) ⟨rfl, hR, Ext.rfl' _⟩
            refine ⟨Rg.at_run [27] rfl ?_, ?_⟩
            · intro ρ W hR ⟨q27, _⟩
              replace q27 : ρ 27 = .bool true := q27
              refine ⟨rfl, ?_⟩
              exact Rg.run_ok (v := .bool true) (by simp [execOp, Rg.ev, go_sem, q27]) ⟨rfl, hR, Ext.rfl' _⟩
            refine ⟨Rg.at_skip [0, 28] rfl (by intro ρ W hR ⟨q0, q28, _⟩; replace q0 : ρ 0 = .slice (some ad) l.length c := q0; replace q28 : ρ 28 = .bool true := q28; exact ⟨by simp [Rg.wants, q28], rfl, Ext.rfl' _⟩), ?_⟩
            refine ⟨Rg.at_skip [5, 28] rfl (by intro ρ W hR ⟨q5, q28, _⟩; replace q5 : ρ 5 = .int .i64 k := q5; replace q28 : ρ 28 = .bool true := q28; exact ⟨by simp [Rg.wants, q28], rfl, Ext.rfl' _⟩), ?_⟩
            refine ⟨Rg.at_skip [29, 30, 28] rfl (by intro ρ W hR ⟨q29, q30, q28, _⟩; replace q29 : ρ 29 = undef := q29; replace q30 : ρ 30 = undef := q30; replace q28 : ρ 28 = .bool true := q28; exact ⟨by simp [Rg.wants, q28], rfl, Ext.rfl' _⟩), ?_⟩
            refine ⟨Rg.at_skip [31, 28] rfl (by intro ρ W hR ⟨q31, q28, _⟩; replace q31 : ρ 31 = undef := q31; replace q28 : ρ 28 = .bool true := q28; exact ⟨by simp [Rg.wants, q28], rfl, Ext.rfl' _⟩), ?_⟩
            refine ⟨Rg.at_skip [32, 28] rfl (by intro ρ W hR ⟨q32, q28, _⟩; replace q32 : ρ 32 = undef := q32; replace q28 : ρ 28 = .bool true := q28; exact ⟨by simp [Rg.wants, q28], rfl, Ext.rfl' _⟩), ?_⟩
            refine ⟨Rg.at_skip [33, 28] rfl (by intro ρ W hR ⟨q33, q28, _⟩; replace q33 : ρ 33 = undef := q33; replace q28 : ρ 28 = .bool true := q28; exact ⟨by simp [Rg.wants, q28], rfl, Ext.rfl' _⟩), ?_⟩
            refine ⟨Rg.at_skip [1, 28] rfl (by intro ρ W hR ⟨q1, q28, _⟩; replace q1 : ρ 1 = .slice (some ad2) m.length d := q1; replace q28 : ρ 28 = .bool true := q28; exact ⟨by simp [Rg.wants, q28], rfl, Ext.rfl' _⟩), ?_⟩
            refine ⟨Rg.at_skip [5, 28] rfl (by intro ρ W hR ⟨q5, q28, _⟩; replace q5 : ρ 5 = .int .i64 k := q5; replace q28 : ρ 28 = .bool true := q28; exact ⟨by simp [Rg.wants, q28], rfl, Ext.rfl' _⟩), ?_⟩
            refine ⟨Rg.at_skip [35, 36, 28] rfl (by intro ρ W hR ⟨q35, q36, q28, _⟩; replace q35 : ρ 35 = undef := q35; replace q36 : ρ 36 = undef := q36; replace q28 : ρ 28 = .bool true := q28; exact ⟨by simp [Rg.wants, q28], rfl, Ext.rfl' _⟩), ?_⟩
            refine ⟨Rg.at_skip [37, 28] rfl (by intro ρ W hR ⟨q37, q28, _⟩; replace q37 : ρ 37 = undef := q37; replace q28 : ρ 28 = .bool true := q28; exact ⟨by simp [Rg.wants, q28], rfl, Ext.rfl' _⟩), ?_⟩
            refine ⟨Rg.at_skip [38, 28] rfl (by intro ρ W hR ⟨q38, q28, _⟩; replace q38 : ρ 38 = undef := q38; replace q28 : ρ 28 = .bool true := q28; exact ⟨by simp [Rg.wants, q28], rfl, Ext.rfl' _⟩), ?_⟩
            refine ⟨Rg.at_skip [39, 28] rfl (by intro ρ W hR ⟨q39, q28, _⟩; replace q39 : ρ 39 = undef := q39; replace q28 : ρ 28 = .bool true := q28; exact ⟨by simp [Rg.wants, q28], rfl, Ext.rfl' _⟩), ?_⟩
            refine ⟨Rg.at_skip [34, 40, 28] rfl (by intro ρ W hR ⟨q34, q40, q28, _⟩; replace q34 : ρ 34 = undef := q34; replace q40 : ρ 40 = undef := q40; replace q28 : ρ 28 = .bool true := q28; exact ⟨by simp [Rg.wants, q28], rfl, Ext.rfl' _⟩), ?_⟩
            refine ⟨Rg.at_run [28, 41] rfl ?_, ?_⟩
            · intro ρ W hR ⟨q28, q41, _⟩
              replace q28 : ρ 28 = .bool true := q28
              replace q41 : ρ 41 = undef := q41
              refine ⟨rfl, ?_⟩
              exact Rg.run_ok (v := .bool true) (by simp [execOp, Rg.ev, go_sem, q28, q41]) ⟨rfl, hR, Ext.rfl' _⟩
            trivial
          case en =>
            intro tm W hR hsz hk
            rw [Rg.fin_eq (ds := [17, 18, 19, 20, 21, 22, 23, 24, 25, 26, 27, 28, 29, 30, 31, 32, 33, 34, 35, 36, 37, 38, 39, 40, 41, 42]) rfl rfl rfl hsz hk]
            have k17 : tm.getD 17 undef = .slice (some ad) l.length c := hk 17
            have k18 : tm.getD 18 undef = .int .i64 k := hk 18
            have k19 : tm.getD 19 undef = .pointer (some (ad.add (k * 2))) := hk 19
            have k20 : tm.getD 20 undef = .pointer (some (ad.add (k * 2))) := hk 20
            have k21 : tm.getD 21 undef = .int .u64 e.term := hk 21
            have k22 : tm.getD 22 undef = .slice (some ad2) m.length d := hk 22
            have k23 : tm.getD 23 undef = .int .i64 k := hk 23
            have k24 : tm.getD 24 undef = .pointer (some (ad2.add (k * 2))) := hk 24
            have k25 : tm.getD 25 undef = .pointer (some (ad2.add (k * 2))) := hk 25
            have k26 : tm.getD 26 undef = .int .u64 e2.term := hk 26
            have k27 : tm.getD 27 undef = .bool true := hk 27
            have k28 : tm.getD 28 undef = .bool true := hk 28
            have k29 : tm.getD 29 undef = undef := hk 29
            have k30 : tm.getD 30 undef = undef := hk 30
            have k31 : tm.getD 31 undef = undef := hk 31
            have k32 : tm.getD 32 undef = undef := hk 32
            have k33 : tm.getD 33 undef = undef := hk 33
            have k34 : tm.getD 34 undef = undef := hk 34
            have k35 : tm.getD 35 undef = undef := hk 35
            have k36 : tm.getD 36 undef = undef := hk 36
            have k37 : tm.getD 37 undef = undef := hk 37
            have k38 : tm.getD 38 undef = undef := hk 38
            have k39 : tm.getD 39 undef = undef := hk 39
            have k40 : tm.getD 40 undef = undef := hk 40
            have k41 : tm.getD 41 undef = undef := hk 41
            have k42 : tm.getD 42 undef = .bool true := hk 42
            clear hk hsz
            simp only [Rg.putAll, List.setIfInBounds_toArray, List.set_cons_zero, List.set_cons_succ, k17, k18, k19, k20, k21, k22, k23, k24, k25, k26, k27, k28, k29, k30, k31, k32, k33, k34, k35, k36, k37, k38, k39, k40, k41, k42]
            clear k17
            clear k18
            clear k19
            clear k20
            clear k21
            clear k22
            clear k23
            clear k24
            clear k25
            clear k26
            clear k27
            clear k28
            clear k29
            clear k30
            clear k31
            clear k32
            clear k33
            clear k34
            clear k35
            clear k36
            clear k37
            clear k38
            clear k39
            clear k40
            clear k41
            clear k42
            refine Rg.nil_list ?_
            go_wp2
            go_ret
            exact RetIs.no (hxr.trans' hR) (hne.out HE.out)
      · go_wp2
        go_ret
        exact RetIs.yes hxr (by have := hsm.out; rwa [List.take_of_length_le (by omega), List.take_of_length_le (by rw [← HL.out]; omega)] at this)
  · have HL : Hid (¬ l = m) := hide (fun h => hlen (by rw [h]))
    have fl : ((l.length : Int) == (m.length : Int)) = false := by simp; omega
    have fl2 : (l.length == m.length) = false := by simp [hlen]
    clear hlen
    go_enter Try.func45, Try.ntmps45
    go_wp2
    go_ret
    exact RetIs.no (Ext.rfl' _) HL.out
end Go.Proofs.Ytlblgopfdadalaa
