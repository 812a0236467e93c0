/- A part of the proof of 'StateBytes'. -/
import Derived.Test.YtamimdlaclglkaaGreatB19
import Derived.Test.YtamimdlaclglkaaGreatB13
import Derived.Test.YtamimdlaclglkaaGreatB16
namespace Go.Proofs.YtamimdlaclglkaaGreat
set_option linter.unusedVariables false
set_option linter.unusedSimpArgs false
set_option linter.unnecessarySimpa false
set_option maxRecDepth 100000
open Go.RowKit
/-- the maker's variable behind a command -/
def MkTo (X : Avoid) (w w' : World) (g : Nat) (t : St) (c : Cm) (vt vs : Value) : Prop := ∃ vl, Blk w' g 107 (mkcells t c vt vl vs).toArray ∧ Enc.Sl lnE w' X vl t.links ∧ Chg [g] w w'
def RetMk (X : Avoid) (w w' : World) (g : Nat) (c : Cm) (vt vs : Value) (e : Ending) (r : St × An) : Prop := ∃ (t : St) (a : An), Hid ((t, a) = r) ∧ e = .returned (.agg (acells a).toArray) ∧ MkTo X w w' g t c vt vs
theorem Blk.two_ {w : World} {g : Nat} {T : TypeId} {x0 x1 : Value} (h : Blk w g T #[x0, x1]) (a b : Value) : Blk ((w.setCell ⟨g, 0, none⟩ a).setCell ⟨g, 1, none⟩ b) g T #[a, b] := (h.set_ 0 a).set_ 1 b
theorem Chg.two_ {S : List Nat} {w0 w : World} {g : Nat} (h : Chg S w0 w) (hg : g ∈ S) (a b : Value) : Chg S w0 ((w.setCell ⟨g, 0, none⟩ a).setCell ⟨g, 1, none⟩ b) := (h.set hg _).set hg _
theorem ln_any {w w' : World} {Y : Avoid} {cs : List Value} {a : Ln} (h : lnE.rep w Y cs a) : lnE.rep w' Y cs a := ln_rep.2 (ln_rep.1 h)
/-- a slice of links lies as it lay, where a block of another kind was written -/
theorem Own.lnT {T' : TypeId} {w0 w w' : World} {X : Avoid} {g : Nat} {v : Value} {l : List Ln} {cur : Array Value} (h : Own 53 lnE w0 w X v l) (hB : Blk w g T' cur) (hne : 53 ≠ T') (hc : Chg [g] w w') : Own 53 lnE w0 w' X v l := h.chgT hB hne hc ln_any
set_option maxHeartbeats 3200000 in
theorem lkput_b (X : Avoid) (g : Nat) (s : St) (c : Cm) (vt vl vs : Value) (n : Bytes) (made : Bool) (w : World) (hX : ∀ k, X k → k < w.heap.size) (hXg : ¬ X g) (h : Blk w g 107 (mkcells s c vt vl vs).toArray)
    (hvt : Enc.Sl lnE w X vt s.links) (hl : s.links.length ≤ 10000) (hr : RiseL s.links) (hf : lfind s.links n = none) (hxw : n.length ≤ maxLen ∧ c.url.length ≤ maxLen ∧ U64 c.till) :
    Calls Tryz.prog 116 #[.pointer (some ⟨g, 0, none⟩), str n, .bool made] w fun e w' =>
      RetMk X w w' g c vt vs e (⟨s.now, s.count, lkput s.links ⟨n, c.url, c.till, made⟩, s.sess⟩, ⟨0, n⟩) := by
  obtain ⟨At, ct, rfl, -, -⟩ := hvt.form
  have hgw := h.lt
  obtain ⟨ga, hga⟩ : ∃ ga, w.heap.size = ga := ⟨_, rfl⟩
  have hxa : Ext w (w.alloc (.cells (acells ⟨0, []⟩).toArray 33)) := (Ext.rfl' w).alloc' _
  have hA := Blk.new w 33 (acells ⟨0, []⟩).toArray
  rw [hga] at hA
  replace h := h.ext hxa
  replace hvt := hvt.ext hxa
  have hX1 : ∀ k, X k → k < (w.alloc (.cells (acells ⟨0, []⟩).toArray 33)).heap.size := fun k hk => Nat.lt_of_lt_of_le (hX k hk) hxa.size
  go_enter Tryz.func116, Tryz.ntmps116
  go_upto_region 1 with fail
  generalize hw1 : w.alloc (.cells (acells ⟨0, []⟩).toArray 33) = w1 at *
  clear hw1
  refine Rg.regionT Tryz.checked.mixed 31 22 (by kernel_rfl) [
    (fun x_ _ => x_ = .pointer (some ⟨g, 0, none⟩)),
    (fun x_ _ => x_ = .pointer (some ⟨g, 0, none⟩)),
    (fun x_ _ => x_ = .pointer (some ⟨g, 0, none⟩)),
    (fun x_ _ => x_ = .pointer (some ⟨g, 0, none⟩)),
    (fun x_ _ => x_ = .slice At s.links.length ct),
    (fun x_ _ => x_ = str n),
    (fun x_ _ => x_ = .pointer (some ⟨g, 0, none⟩)),
    (fun x_ _ => x_ = .pointer (some ⟨g, 0, none⟩)),
    (fun x_ _ => x_ = .pointer (some ⟨g, 5, none⟩)),
    (fun x_ _ => x_ = .pointer (some ⟨g, 9, none⟩)),
    (fun x_ _ => x_ = str c.url),
    (fun x_ _ => x_ = .pointer (some ⟨g, 0, none⟩)),
    (fun x_ _ => x_ = .pointer (some ⟨g, 0, none⟩)),
    (fun x_ _ => x_ = .pointer (some ⟨g, 5, none⟩)),
    (fun x_ _ => x_ = .pointer (some ⟨g, 10, none⟩)),
    (fun x_ _ => x_ = .int .u64 c.till),
    (fun x_ _ => x_ = .bool made),
    (fun x_ _ => x_ = .agg #[str n, str c.url, .int .u64 c.till, .bool made]),
    (fun v W => Own 53 lnE w1 W X v (lkput s.links ⟨n, c.url, c.till, made⟩)),
    (fun x_ _ => x_ = .pointer (some ⟨g, 0, none⟩)),
    (fun x_ _ => x_ = .pointer (some ⟨g, 1, none⟩)),
    (fun x_ _ => x_ = .pointer (some ⟨g, 3, none⟩))] (fun W => Ext w1 W) Ext rfl rfl rfl
    ?st ((Ext.rfl' w1).drew') ?ob ?en
  case st => exact ⟨fun _ _ _ h _ => h, fun _ _ _ h _ => h, fun _ _ _ h _ => h, fun _ _ _ h _ => h, fun _ _ _ h _ => h, fun _ _ _ h _ => h, fun _ _ _ h _ => h, fun _ _ _ h _ => h, fun _ _ _ h _ => h, fun _ _ _ h _ => h, fun _ _ _ h _ => h, fun _ _ _ h _ => h, fun _ _ _ h _ => h, fun _ _ _ h _ => h, fun _ _ _ h _ => h, fun _ _ _ h _ => h, fun _ _ _ h _ => h, fun _ _ _ h _ => h, fun _ _ _ h hx => h.ext hx, fun _ _ _ h _ => h, fun _ _ _ h _ => h, fun _ _ _ h _ => h, trivial⟩
  case ob =>
    refine ⟨Rg.at_run [0] rfl ?_, ?_⟩
    · intro ρ W hR ⟨q0, _⟩
      replace q0 : ρ 0 = .pointer (some ⟨g, 0, none⟩) := q0
      refine ⟨rfl, ?_⟩
      exact Rg.run_ok (v := .pointer (some ⟨g, 0, none⟩)) (by simp [execOp, Rg.ev, go_sem, q0]) ⟨rfl, hR, Ext.rfl' _⟩
    refine ⟨Rg.at_run [0] rfl ?_, ?_⟩
    · intro ρ W hR ⟨q0, _⟩
      replace q0 : ρ 0 = .pointer (some ⟨g, 0, none⟩) := q0
      refine ⟨rfl, ?_⟩
      exact Rg.run_ok (v := .pointer (some ⟨g, 0, none⟩)) (by simp [execOp, Rg.ev, go_sem, q0]) ⟨rfl, hR, Ext.rfl' _⟩
    refine ⟨Rg.at_run [8] rfl ?_, ?_⟩
    · intro ρ W hR ⟨q8, _⟩
      replace q8 : ρ 8 = .pointer (some ⟨g, 0, none⟩) := q8
      refine ⟨rfl, ?_⟩
      exact Rg.run_ok (v := .pointer (some ⟨g, 0, none⟩)) (by simp [execOp, Rg.ev, go_sem, q8]) ⟨rfl, hR, Ext.rfl' _⟩
    refine ⟨Rg.at_run [9] rfl ?_, ?_⟩
    · intro ρ W hR ⟨q9, _⟩
      replace q9 : ρ 9 = .pointer (some ⟨g, 0, none⟩) := q9
      refine ⟨rfl, ?_⟩
      exact Rg.run_ok (v := .pointer (some ⟨g, 0, none⟩)) (by simp [execOp, Rg.ev, go_sem, q9]) ⟨rfl, hR, Ext.rfl' _⟩
    refine ⟨Rg.at_run [10] rfl ?_, ?_⟩
    · intro ρ W hR ⟨q10, _⟩
      replace q10 : ρ 10 = .pointer (some ⟨g, 0, none⟩) := q10
      refine ⟨rfl, ?_⟩
      have c0_ : W.cell? ⟨g, 0, none⟩ = some (.slice At s.links.length ct) := ((h.ext hR).cell 0).trans rfl
      exact Rg.run_ok (v := .slice At s.links.length ct) (by simp [execOp, Rg.ev, go_sem, q10, c0_]) ⟨rfl, hR, Ext.rfl' _⟩
    refine ⟨Rg.at_run [1] rfl ?_, ?_⟩
    · intro ρ W hR ⟨q1, _⟩
      replace q1 : ρ 1 = str n := q1
      refine ⟨rfl, ?_⟩
      exact Rg.run_ok (v := str n) (by simp [execOp, Rg.ev, go_sem, q1]) ⟨rfl, hR, Ext.rfl' _⟩
    refine ⟨Rg.at_run [0] rfl ?_, ?_⟩
    · intro ρ W hR ⟨q0, _⟩
      replace q0 : ρ 0 = .pointer (some ⟨g, 0, none⟩) := q0
      refine ⟨rfl, ?_⟩
      exact Rg.run_ok (v := .pointer (some ⟨g, 0, none⟩)) (by simp [execOp, Rg.ev, go_sem, q0]) ⟨rfl, hR, Ext.rfl' _⟩
    refine ⟨Rg.at_run [13] rfl ?_, ?_⟩
    · intro ρ W hR ⟨q13, _⟩
      replace q13 : ρ 13 = .pointer (some ⟨g, 0, none⟩) := q13
      refine ⟨rfl, ?_⟩
      exact Rg.run_ok (v := .pointer (some ⟨g, 0, none⟩)) (by simp [execOp, Rg.ev, go_sem, q13]) ⟨rfl, hR, Ext.rfl' _⟩
    refine ⟨Rg.at_run [14] rfl ?_, ?_⟩
    · intro ρ W hR ⟨q14, _⟩
      replace q14 : ρ 14 = .pointer (some ⟨g, 0, none⟩) := q14
      refine ⟨rfl, ?_⟩
      exact Rg.run_ok (v := .pointer (some ⟨g, 5, none⟩)) (by simp [execOp, Rg.ev, go_sem, q14]) ⟨rfl, hR, Ext.rfl' _⟩
    refine ⟨Rg.at_run [15] rfl ?_, ?_⟩
    · intro ρ W hR ⟨q15, _⟩
      replace q15 : ρ 15 = .pointer (some ⟨g, 5, none⟩) := q15
      refine ⟨rfl, ?_⟩
      exact Rg.run_ok (v := .pointer (some ⟨g, 9, none⟩)) (by simp [execOp, Rg.ev, go_sem, q15]) ⟨rfl, hR, Ext.rfl' _⟩
    refine ⟨Rg.at_run [16] rfl ?_, ?_⟩
    · intro ρ W hR ⟨q16, _⟩
      replace q16 : ρ 16 = .pointer (some ⟨g, 9, none⟩) := q16
      refine ⟨rfl, ?_⟩
      have c9_ : W.cell? ⟨g, 9, none⟩ = some (str c.url) := ((h.ext hR).cell 9).trans rfl
      exact Rg.run_ok (v := str c.url) (by simp [execOp, Rg.ev, go_sem, q16, c9_]) ⟨rfl, hR, Ext.rfl' _⟩
    refine ⟨Rg.at_run [0] rfl ?_, ?_⟩
    · intro ρ W hR ⟨q0, _⟩
      replace q0 : ρ 0 = .pointer (some ⟨g, 0, none⟩) := q0
      refine ⟨rfl, ?_⟩
      exact Rg.run_ok (v := .pointer (some ⟨g, 0, none⟩)) (by simp [execOp, Rg.ev, go_sem, q0]) ⟨rfl, hR, Ext.rfl' _⟩
    refine ⟨Rg.at_run [18] rfl ?_, ?_⟩
    · intro ρ W hR ⟨q18, _⟩
      replace q18 : ρ 18 = .pointer (some ⟨g, 0, none⟩) := q18
      refine ⟨rfl, ?_⟩
      exact Rg.run_ok (v := .pointer (some ⟨g, 0, none⟩)) (by simp [execOp, Rg.ev, go_sem, q18]) ⟨rfl, hR, Ext.rfl' _⟩
    refine ⟨Rg.at_run [19] rfl ?_, ?_⟩
    · intro ρ W hR ⟨q19, _⟩
      replace q19 : ρ 19 = .pointer (some ⟨g, 0, none⟩) := q19
      refine ⟨rfl, ?_⟩
      exact Rg.run_ok (v := .pointer (some ⟨g, 5, none⟩)) (by simp [execOp, Rg.ev, go_sem, q19]) ⟨rfl, hR, Ext.rfl' _⟩
    refine ⟨Rg.at_run [20] rfl ?_, ?_⟩
    · intro ρ W hR ⟨q20, _⟩
      replace q20 : ρ 20 = .pointer (some ⟨g, 5, none⟩) := q20
      refine ⟨rfl, ?_⟩
      exact Rg.run_ok (v := .pointer (some ⟨g, 10, none⟩)) (by simp [execOp, Rg.ev, go_sem, q20]) ⟨rfl, hR, Ext.rfl' _⟩
    refine ⟨Rg.at_run [21] rfl ?_, ?_⟩
    · intro ρ W hR ⟨q21, _⟩
      replace q21 : ρ 21 = .pointer (some ⟨g, 10, none⟩) := q21
      refine ⟨rfl, ?_⟩
      have c10_ : W.cell? ⟨g, 10, none⟩ = some (.int .u64 c.till) := ((h.ext hR).cell 10).trans rfl
      exact Rg.run_ok (v := .int .u64 c.till) (by simp [execOp, Rg.ev, go_sem, q21, c10_]) ⟨rfl, hR, Ext.rfl' _⟩
    refine ⟨Rg.at_run [2] rfl ?_, ?_⟩
    · intro ρ W hR ⟨q2, _⟩
      replace q2 : ρ 2 = .bool made := q2
      refine ⟨rfl, ?_⟩
      exact Rg.run_ok (v := .bool made) (by simp [execOp, Rg.ev, go_sem, q2]) ⟨rfl, hR, Ext.rfl' _⟩
    refine ⟨Rg.at_run [12, 17, 22, 23] rfl ?_, ?_⟩
    · intro ρ W hR ⟨q12, q17, q22, q23, _⟩
      replace q12 : ρ 12 = str n := q12
      replace q17 : ρ 17 = str c.url := q17
      replace q22 : ρ 22 = .int .u64 c.till := q22
      replace q23 : ρ 23 = .bool made := q23
      refine ⟨rfl, ?_⟩
      exact Rg.run_ok (v := .agg #[str n, str c.url, .int .u64 c.till, .bool made]) (by simp [execOp, Rg.ev, go_sem, q12, q17, q22, q23]) ⟨rfl, hR, Ext.rfl' _⟩
    refine ⟨Rg.at_run [11, 24] rfl ?_, ?_⟩
    · intro ρ W hR ⟨q11, q24, _⟩
      replace q11 : ρ 11 = .slice At s.links.length ct := q11
      replace q24 : ρ 24 = .agg #[str n, str c.url, .int .u64 c.till, .bool made] := q24
      refine ⟨rfl, ?_⟩
      refine Rg.enter_fn (args := #[.slice At s.links.length ct, .agg #[str n, str c.url, .int .u64 c.till, .bool made]]) rfl (by simp only [List.map_toArray, List.map_cons, List.map_nil, Rg.ev, q11, q24]) (by kernel_rfl) ?_
      refine (twith_b X W (fun k hk => Nat.lt_of_lt_of_le (hX1 k hk) hR.size) _ s.links ⟨n, c.url, c.till, made⟩ hl (hvt.ext hR) hr hf hxw).mono ?_
      rintro e_ w2 ⟨m, A6, c6, hm, rfl, hown, hxx⟩
      have hm' := hm.out
      rw [hm'] at hown ⊢
      exact ⟨_, rfl, hown.trans hR, hR.trans' hxx, hxx⟩
    refine ⟨Rg.at_run [7] rfl ?_, ?_⟩
    · intro ρ W hR ⟨q7, _⟩
      replace q7 : ρ 7 = .pointer (some ⟨g, 0, none⟩) := q7
      refine ⟨rfl, ?_⟩
      exact Rg.run_ok (v := .pointer (some ⟨g, 0, none⟩)) (by simp [execOp, Rg.ev, go_sem, q7]) ⟨rfl, hR, Ext.rfl' _⟩
    refine ⟨Rg.at_run [26] rfl ?_, ?_⟩
    · intro ρ W hR ⟨q26, _⟩
      replace q26 : ρ 26 = .pointer (some ⟨g, 0, none⟩) := q26
      refine ⟨rfl, ?_⟩
      exact Rg.run_ok (v := .pointer (some ⟨g, 1, none⟩)) (by simp [execOp, Rg.ev, go_sem, q26]) ⟨rfl, hR, Ext.rfl' _⟩
    refine ⟨Rg.at_run [27] rfl ?_, ?_⟩
    · intro ρ W hR ⟨q27, _⟩
      replace q27 : ρ 27 = .pointer (some ⟨g, 1, none⟩) := q27
      refine ⟨rfl, ?_⟩
      exact Rg.run_ok (v := .pointer (some ⟨g, 3, none⟩)) (by simp [execOp, Rg.ev, go_sem, q27]) ⟨rfl, hR, Ext.rfl' _⟩
    trivial
  case en =>
    intro tm W hR hsz hk
    rw [Rg.fin_eq (ds := [7, 8, 9, 10, 11, 12, 13, 14, 15, 16, 17, 18, 19, 20, 21, 22, 23, 24, 25, 26, 27, 28]) rfl rfl rfl hsz hk]
    have k7 : tm.getD 7 undef = .pointer (some ⟨g, 0, none⟩) := hk 7
    have k8 : tm.getD 8 undef = .pointer (some ⟨g, 0, none⟩) := hk 8
    have k9 : tm.getD 9 undef = .pointer (some ⟨g, 0, none⟩) := hk 9
    have k10 : tm.getD 10 undef = .pointer (some ⟨g, 0, none⟩) := hk 10
    have k11 : tm.getD 11 undef = .slice At s.links.length ct := hk 11
    have k12 : tm.getD 12 undef = str n := hk 12
    have k13 : tm.getD 13 undef = .pointer (some ⟨g, 0, none⟩) := hk 13
    have k14 : tm.getD 14 undef = .pointer (some ⟨g, 0, none⟩) := hk 14
    have k15 : tm.getD 15 undef = .pointer (some ⟨g, 5, none⟩) := hk 15
    have k16 : tm.getD 16 undef = .pointer (some ⟨g, 9, none⟩) := hk 16
    have k17 : tm.getD 17 undef = str c.url := hk 17
    have k18 : tm.getD 18 undef = .pointer (some ⟨g, 0, none⟩) := hk 18
    have k19 : tm.getD 19 undef = .pointer (some ⟨g, 0, none⟩) := hk 19
    have k20 : tm.getD 20 undef = .pointer (some ⟨g, 5, none⟩) := hk 20
    have k21 : tm.getD 21 undef = .pointer (some ⟨g, 10, none⟩) := hk 21
    have k22 : tm.getD 22 undef = .int .u64 c.till := hk 22
    have k23 : tm.getD 23 undef = .bool made := hk 23
    have k24 : tm.getD 24 undef = .agg #[str n, str c.url, .int .u64 c.till, .bool made] := hk 24
    have k25 : (fun v W => Own 53 lnE w1 W X v (lkput s.links ⟨n, c.url, c.till, made⟩)) (tm.getD 25 undef) W := hk 25
    have k26 : tm.getD 26 undef = .pointer (some ⟨g, 0, none⟩) := hk 26
    have k27 : tm.getD 27 undef = .pointer (some ⟨g, 1, none⟩) := hk 27
    have k28 : tm.getD 28 undef = .pointer (some ⟨g, 3, none⟩) := hk 28
    clear hk hsz
    simp only [Rg.putAll, List.setIfInBounds_toArray, List.set_cons_zero, List.set_cons_succ, k7, k8, k9, k10, k11, k12, k13, k14, k15, k16, k17, k18, k19, k20, k21, k22, k23, k24, k26, k27, k28]
    clear k7
    clear k8
    clear k9
    clear k10
    clear k11
    clear k12
    clear k13
    clear k14
    clear k15
    clear k16
    clear k17
    clear k18
    clear k19
    clear k20
    clear k21
    clear k22
    clear k23
    clear k24
    generalize tm.getD 25 undef = u25 at *
    clear k26
    clear k27
    clear k28
    obtain ⟨A5, c5, rfl, -, -⟩ := k25.form
    have h3 : W.cell? ⟨g, 3, none⟩ = some vl := ((h.ext hR).cell 3).trans rfl
    have f3 := (h.ext hR).frozen 3
    go_upto_region 2 with fail
    have hm := h.ext hR
    have hcg : Chg [g] W (W.setCell ⟨g, 3, none⟩ (.slice A5 (lkput s.links ⟨n, c.url, c.till, made⟩).length c5)) := (Chg.refl [g] W).set (by simp) _
    have hown := k25.lnT hm (by decide) hcg
    have hB := hm.set_ 3 (.slice A5 (lkput s.links ⟨n, c.url, c.till, made⟩).length c5)
    replace hB : Blk (W.setCell ⟨g, 3, none⟩ (.slice A5 (lkput s.links ⟨n, c.url, c.till, made⟩).length c5)) g 107 (mkcells ⟨s.now, s.count, lkput s.links ⟨n, c.url, c.till, made⟩, s.sess⟩ c (.slice At s.links.length ct) (.slice A5 (lkput s.links ⟨n, c.url, c.till, made⟩).length c5) vs).toArray := hB
    have hgg : ga ≠ g := by omega
    have hA3 := (hA.ext hR).chg hcg (by simpa using hgg)
    have hxx := hxa.trans' hR
    generalize W.setCell ⟨g, 3, none⟩ (.slice A5 (lkput s.links ⟨n, c.url, c.till, made⟩).length c5) = W3 at *
    clear h3 f3 hm k25
    go_wp2_with fail
    refine (lkans_b 0 n _).mono ?_
    rintro e W4 ⟨rfl, hx4⟩
    rw [if_pos rfl]
    replace hA3 := hA3.ext hx4
    have y0 := (hA3.cell 0).trans rfl
    have y1 := (hA3.cell 1).trans rfl
    have z0 := hA3.frozen 0
    have z1 := hA3.frozen 1
    go_wp2
    try simp only [Exit.inBlock, Exit.then]
    refine bodyPost_ret (results_cell_row rfl _ _ ga 33 (acells ⟨0, n⟩).toArray (0, 0) _ rfl (Blk.two_ hA3 (.int .i64 0) (str n)) Tryz.underlying33 rfl (by kernel_rfl)) rfl ?_
    have hcA : Chg [ga] W4 _ := (Chg.refl [ga] W4).two_ (g := ga) (by simp) (.int .i64 0) (str n)
    exact ⟨_, ⟨0, n⟩, hide rfl, rfl, _, (hB.ext hx4).chg hcA (by simpa using fun h => hgg h.symm), ((hown.ext hx4).lnT hA3 (by decide) hcA).sl, ((hxx.chg [g]).trans (hcg.trans (hx4.chg [g]))).then_new hcA (by simp; omega)⟩
end Go.Proofs.YtamimdlaclglkaaGreat
namespace Go.Proofs.YtamimdlaclglkaaGreat
set_option linter.unusedVariables false
set_option linter.unusedSimpArgs false
set_option linter.unnecessarySimpa false
set_option maxRecDepth 100000
open Go.RowKit
end Go.Proofs.YtamimdlaclglkaaGreat
namespace Go.Proofs.YtamimdlaclglkaaGreat
set_option linter.unusedVariables false
set_option linter.unusedSimpArgs false
set_option linter.unnecessarySimpa false
set_option maxRecDepth 100000
open Go.RowKit
theorem find_at {α : Type} {p : α → Bool} : ∀ {l : List α} {n : Nat} {x : α}, (∀ m a, m < n → l[m]? = some a → p a = false) → l[n]? = some x → p x = true → l.find? p = some x
  | [], n, x, _, h, _ => by simp at h
  | a :: l, 0, x, _, h, hp => by
    simp at h; subst h
    simp [hp]
  | a :: l, n + 1, x, h0, h, hp => by
    have h1 := h0 0 a (by omega) rfl
    rw [List.find?_cons, h1]
    exact find_at (n := n) (fun m b hm hb => h0 (m + 1) b (by omega) (by simpa using hb)) (by simpa using h) hp
set_option maxHeartbeats 6400000 in
theorem lkmakes_b (X : Avoid) (g : Nat) (s : St) (c : Cm) (vt vl vs : Value) (w : World) (hX : ∀ k, X k → k < w.heap.size) (hXg : ¬ X g) (h : Blk w g 107 (mkcells s c vt vl vs).toArray)
    (hvt : Enc.Sl lnE w (fun k => X k ∨ k = g) vt s.links) (hsl : Enc.Sl lnE w X vl s.links) (hl : s.links.length ≤ 10000) (hr : RiseL s.links) (hf : s.count < 238328 → lfind s.links (code3 s.count.toNat) = none) (hc : U64 s.count) (hct : U64 c.till) (hcu : c.url.length ≤ maxLen) :
    Calls Tryz.prog 91 #[.pointer (some ⟨g, 0, none⟩)] w fun e w' => RetMk X w w' g c vt vs e (lmakeW lkput s c) := by
  obtain ⟨At, ct, rfl, -, -⟩ := hvt.form
  have hgw := h.lt
  have hvX : Enc.Sl lnE w X (.slice At s.links.length ct) s.links := hvt.mono fun _ _ h => .inl h
  have hvN : Enc.Sl lnE w noneAt (.slice At s.links.length ct) s.links := hvt.mono fun _ _ h => h.elim
  obtain ⟨gc, hgc⟩ : ∃ gc, w.heap.size = gc := ⟨_, rfl⟩
  obtain ⟨ga, hga⟩ : ∃ ga, gc + 1 = ga := ⟨_, rfl⟩
  have hC := (Blk.new w 104 #[.pointer (some ⟨g, 0, none⟩)]).alloc (.cells (acells ⟨0, []⟩).toArray 33)
  have hA := Blk.new (w.alloc (.cells #[.pointer (some ⟨g, 0, none⟩)] 104)) 33 (acells ⟨0, []⟩).toArray
  have hx0 : Ext w ((w.alloc (.cells #[.pointer (some ⟨g, 0, none⟩)] 104)).alloc (.cells (acells ⟨0, []⟩).toArray 33)) := ((Ext.rfl' w).alloc' _).alloc' _
  rw [show (w.alloc (.cells #[.pointer (some ⟨g, 0, none⟩)] 104)).heap.size = w.heap.size + 1 by simp, hgc, hga] at hA
  rw [hgc] at hC
  have hgg : ga ≠ g := by omega
  have hgaw : w.heap.size ≤ ga := by omega
  have HM := hide (fun W (hx : Ext w W) => lkmay_b g s c (.slice At s.links.length ct) vl vs W (h.ext hx))
  obtain ⟨ek, hek⟩ : ∃ ek, lmay c s.now = ek := ⟨_, rfl⟩
  rw [hek] at HM
  have HEK := hide hek
  clear hek
  go_enter Tryz.func91, Tryz.ntmps91
  go_upto_region 1 with fail
  try rw [hgc]
  try rw [hga]
  generalize hw0 : ((w.alloc (.cells #[.pointer (some ⟨g, 0, none⟩)] 104)).alloc (.cells (acells ⟨0, []⟩).toArray 33)) = w0 at *
  clear hw0 hga
  have c0 : w0.cell? ⟨gc, 0, none⟩ = some (.pointer (some ⟨g, 0, none⟩)) := (hC.cell 0).trans rfl
  go_wp2_with fail
  refine (HM.out _ hx0).mono ?_
  rintro e w1 ⟨rfl, hx1⟩
  replace hC := hC.ext hx1
  replace hA := hA.ext hx1
  replace hx0 := hx0.trans' hx1
  clear hx1 c0
  by_cases hk : ek = 0
  case neg =>
    have hk' : (ek != 0) = true := by simpa using hk
    have HL : Hid (lmakeW lkput s c = (s, ⟨ek, []⟩)) := by unfold Hid lmakeW; rw [HEK.out, if_pos hk]
    go_wp2_with fail
    refine (lkans_b ek [] _).mono ?_
    rintro e W9 ⟨rfl, hx9⟩
    rw [if_neg hk]
    have hA9 := hA.ext hx9
    have y0 := (hA9.cell 0).trans rfl
    have y1 := (hA9.cell 1).trans rfl
    have z0 := hA9.frozen 0
    have z1 := hA9.frozen 1
    go_wp2
    try simp only [Exit.inBlock, Exit.then]
    refine bodyPost_ret (results_cell_row rfl _ _ ga 33 (acells ⟨ek, []⟩).toArray (0, 0) _ rfl (Blk.two_ hA9 (.int .i64 ek) (str [])) Tryz.underlying33 rfl (by kernel_rfl)) rfl ?_
    have hcA : Chg [ga] W9 _ := (Chg.refl [ga] W9).two_ (g := ga) (by simp) (.int .i64 ek) (str [])
    have hxe := (hx0.trans' hx9).then_ hcA (by simp; omega)
    exact ⟨s, _, hide HL.out.symm, rfl, vl, ((h.ext (hx0.trans' hx9)).chg hcA (by simpa using fun h => hgg h.symm)), hsl.ext hxe, hxe.chg [g]⟩
  subst hk
  have c0 : w1.cell? ⟨gc, 0, none⟩ = some (.pointer (some ⟨g, 0, none⟩)) := (hC.cell 0).trans rfl
  have m0 : w1.cell? ⟨g, 0, none⟩ = some (.slice At s.links.length ct) := ((h.ext hx0).cell 0).trans rfl
  go_wp2_with fail
  refine (idxLm_b (fun x => x.made && lown c x) (.pointer (some ⟨gc, 0, none⟩)) (.slice At s.links.length ct) s.links w1 (by omega) (hvN.ext hx0) (fun W x hW _ => makes1_b x gc g s c (.slice At s.links.length ct) vl vs W (h.ext (hx0.trans' hW)) (hC.ext hW).lt (((hC.ext hW).cell 0).trans rfl))).mono ?_
  rintro e w2 ⟨⟨r, rfl, hidx⟩, hx2⟩
  replace hC := hC.ext hx2
  replace hA := hA.ext hx2
  replace hx0 := hx0.trans' hx2
  clear hx2 c0 m0 HM
  have c0 : w2.cell? ⟨gc, 0, none⟩ = some (.pointer (some ⟨g, 0, none⟩)) := (hC.cell 0).trans rfl
  have m0 : w2.cell? ⟨g, 0, none⟩ = some (.slice At s.links.length ct) := ((h.ext hx0).cell 0).trans rfl
  have m2 : w2.cell? ⟨g, 2, none⟩ = some (.int .u64 s.count) := ((h.ext hx0).cell 2).trans rfl
  rcases hidx.out with ⟨rfl, hall⟩ | ⟨n, rfl, hn, hbef, hat⟩
  case inr =>
    obtain ⟨ad, x, rfl, hs, hbk, p0, p1, p2, p3, r1, r2, r3⟩ := ln_at (hvN.ext hx0) (k := n) hn
    have HL : Hid (lmakeW lkput s c = (s, ⟨0, x.name⟩)) := by
      unfold Hid lmakeW
      rw [HEK.out, if_neg (by simp), find_at hbef hs.out (hat x hs.out)]
    have hn0 : (0 : Int) ≤ n := by omega
    have hn1 : (n : Int) < s.links.length := by omega
    clear hbef hat
    go_wp2_with fail
    refine (lkans_b 0 x.name _).mono ?_
    rintro e W9 ⟨rfl, hx9⟩
    rw [if_pos rfl]
    have hA9 := hA.ext hx9
    have y0 := (hA9.cell 0).trans rfl
    have y1 := (hA9.cell 1).trans rfl
    have z0 := hA9.frozen 0
    have z1 := hA9.frozen 1
    go_wp2
    try simp only [Exit.inBlock, Exit.then]
    refine bodyPost_ret (results_cell_row rfl _ _ ga 33 (acells ⟨0, x.name⟩).toArray (0, 0) _ rfl (Blk.two_ hA9 (.int .i64 0) (str x.name)) Tryz.underlying33 rfl (by kernel_rfl)) rfl ?_
    have hcA : Chg [ga] W9 _ := (Chg.refl [ga] W9).two_ (g := ga) (by simp) (.int .i64 0) (str x.name)
    have hxe := (hx0.trans' hx9).then_ hcA (by simp; omega)
    exact ⟨s, _, hide HL.out.symm, rfl, vl, ((h.ext (hx0.trans' hx9)).chg hcA (by simpa using fun h => hgg h.symm)), hsl.ext hxe, hxe.chg [g]⟩
  have HN : Hid (s.links.find? (fun x => x.made && lown c x) = none) := hide (List.find?_eq_none.2 fun x hx => by have := hall x hx; simp only at this; rw [this]; simp)
  clear hidx hall
  go_wp2_with fail
  refine (code_b s.count w2 hc).mono ?_
  rintro e w3 ⟨m, k2, hmk, rfl, hx3⟩
  replace hC := hC.ext hx3
  replace hA := hA.ext hx3
  replace hx0 := hx0.trans' hx3
  clear hx3 c0 m0 m2
  have c0 : w3.cell? ⟨gc, 0, none⟩ = some (.pointer (some ⟨g, 0, none⟩)) := (hC.cell 0).trans rfl
  have m0 : w3.cell? ⟨g, 0, none⟩ = some (.slice At s.links.length ct) := ((h.ext hx0).cell 0).trans rfl
  have m2 : w3.cell? ⟨g, 2, none⟩ = some (.int .u64 s.count) := ((h.ext hx0).cell 2).trans rfl
  have f2 := (h.ext hx0).frozen 2
  by_cases hfull : 238328 ≤ s.count
  · have HL : Hid (lmakeW lkput s c = (s, ⟨12, []⟩)) := by
      unfold Hid lmakeW
      rw [HEK.out, if_neg (by simp), HN.out]
      simp only
      rw [if_pos (.inl hfull)]
    have h12 : (m, k2) = ([], 12) := hmk.out.trans (if_pos (by omega))
    obtain ⟨rfl, rfl⟩ := Prod.mk.inj h12
    clear h12 hmk
    go_wp2_with fail
    refine (lkans_b 12 [] _).mono ?_
    rintro e W9 ⟨rfl, hx9⟩
    rw [if_neg (by decide)]
    have hA9 := hA.ext hx9
    have y0 := (hA9.cell 0).trans rfl
    have y1 := (hA9.cell 1).trans rfl
    have z0 := hA9.frozen 0
    have z1 := hA9.frozen 1
    go_wp2
    try simp only [Exit.inBlock, Exit.then]
    refine bodyPost_ret (results_cell_row rfl _ _ ga 33 (acells ⟨12, []⟩).toArray (0, 0) _ rfl (Blk.two_ hA9 (.int .i64 12) (str [])) Tryz.underlying33 rfl (by kernel_rfl)) rfl ?_
    have hcA : Chg [ga] W9 _ := (Chg.refl [ga] W9).two_ (g := ga) (by simp) (.int .i64 12) (str [])
    have hxe := (hx0.trans' hx9).then_ hcA (by simp; omega)
    exact ⟨s, _, hide HL.out.symm, rfl, vl, ((h.ext (hx0.trans' hx9)).chg hcA (by simpa using fun h => hgg h.symm)), hsl.ext hxe, hxe.chg [g]⟩
  have h12 : (m, k2) = (code3 s.count.toNat, 0) := hmk.out.trans (ocode_lt _ (by have := hc.1; omega))
  obtain ⟨hm, rfl⟩ := Prod.mk.inj h12
  have HMN := hide hm
  clear h12 hmk hm
  by_cases h40 : (40 : Int) ≤ s.links.length
  · have HL : Hid (lmakeW lkput s c = (s, ⟨12, []⟩)) := by
      unfold Hid lmakeW
      rw [HEK.out, if_neg (by simp), HN.out]
      simp only
      rw [if_pos (.inr (by omega))]
    go_wp2_with fail
    refine (lkans_b 12 [] _).mono ?_
    rintro e W9 ⟨rfl, hx9⟩
    rw [if_neg (by decide)]
    have hA9 := hA.ext hx9
    have y0 := (hA9.cell 0).trans rfl
    have y1 := (hA9.cell 1).trans rfl
    have z0 := hA9.frozen 0
    have z1 := hA9.frozen 1
    go_wp2
    try simp only [Exit.inBlock, Exit.then]
    refine bodyPost_ret (results_cell_row rfl _ _ ga 33 (acells ⟨12, []⟩).toArray (0, 0) _ rfl (Blk.two_ hA9 (.int .i64 12) (str [])) Tryz.underlying33 rfl (by kernel_rfl)) rfl ?_
    have hcA : Chg [ga] W9 _ := (Chg.refl [ga] W9).two_ (g := ga) (by simp) (.int .i64 12) (str [])
    have hxe := (hx0.trans' hx9).then_ hcA (by simp; omega)
    exact ⟨s, _, hide HL.out.symm, rfl, vl, ((h.ext (hx0.trans' hx9)).chg hcA (by simpa using fun h => hgg h.symm)), hsl.ext hxe, hxe.chg [g]⟩
  have HL : Hid (lmakeW lkput s c = (⟨s.now, s.count + 1, lkput s.links ⟨m, c.url, c.till, true⟩, s.sess⟩, ⟨0, m⟩)) := by
    rw [HMN.out]
    exact lmakeW_new _ HEK.out HN.out (by omega)
  have hfr := hf (by omega)
  rw [← HMN.out] at hfr
  have hml : m.length ≤ maxLen := by rw [HMN.out]; show 3 ≤ maxLen; simp [maxLen]
  have hw1 : IntKind.u64.wrap (s.count + 1) = s.count + 1 := by rw [IntKind.wrap_u64]; have := hc.1; omega
  have hcg : Chg [g] w3 (w3.setCell ⟨g, 2, none⟩ (.int .u64 (s.count + 1))) := (Chg.refl [g] w3).set (by simp) _
  have hB4 := (h.ext hx0).set_ 2 (.int .u64 (s.count + 1))
  have hA4 := hA.chg hcg (by simpa using hgg)
  have hC4 := hC.chg hcg (by simp; omega)
  have hvp := ((hvt.mono (Y := fun k => (X k ∨ k = ga) ∨ k = g) (fun k hk h => h.elim (fun h => h.elim .inl fun h => by omega) .inr)).ext hx0).chg hcg (fun k hk _ => .inr (by simpa using hk))
  replace hvp := hvp.mono (Y := fun k => X k ∨ k = ga) (fun k _ h => .inl h)
  have hx4s := hcg.size
  go_upto_region 11 with fail
  generalize w3.setCell ⟨g, 2, none⟩ (.int .u64 (s.count + 1)) = w4 at *
  replace hB4 : Blk w4 g 107 (mkcells ⟨s.now, s.count + 1, s.links, s.sess⟩ c (.slice At s.links.length ct) vl vs).toArray := hB4
  have c04 : w4.cell? ⟨gc, 0, none⟩ = some (.pointer (some ⟨g, 0, none⟩)) := (hC4.cell 0).trans rfl
  clear m0 m2 f2 c0
  go_wp2_with fail
  refine (lkput_b (fun k => X k ∨ k = ga) g ⟨s.now, s.count + 1, s.links, s.sess⟩ c (.slice At s.links.length ct) vl vs m true _ (fun k hk => hk.elim (fun hk => by have := hX k hk; have := Nat.le_trans hx0.size hx4s; omega) (fun hk => by subst hk; exact hA4.lt)) (fun hk => hk.elim hXg fun h => hgg h.symm) hB4 hvp hl hr hfr ⟨hml, hcu, hct⟩).mono ?_
  rintro e w6 ⟨t, a, hta, rfl, vl6, hB6, hsl6, hc6⟩
  obtain ⟨rfl, rfl⟩ := Prod.mk.inj hta.out
  have hA6 := hA4.chg hc6 (by simpa using hgg)
  have y0 := (hA6.cell 0).trans rfl
  have y1 := (hA6.cell 1).trans rfl
  have z0 := hA6.frozen 0
  have z1 := hA6.frozen 1
  go_wp2
  try simp only [Exit.inBlock, Exit.then]
  refine bodyPost_ret (results_cell_row rfl _ _ ga 33 (acells ⟨0, m⟩).toArray (0, 0) _ rfl (Blk.two_ hA6 (.int .i64 0) (str (m))) Tryz.underlying33 rfl (by kernel_rfl)) rfl ?_
  have hcA : Chg [ga] w6 _ := (Chg.refl [ga] w6).two_ (g := ga) (by simp) (.int .i64 0) (str (m))
  exact ⟨_, _, hide HL.out.symm, rfl, vl6, hB6.chg hcA (by simpa using fun h => hgg h.symm), (hsl6.chg hcA (fun k hk _ => .inr (by simpa using hk))).mono (fun _ _ h => .inl h), (((hx0.chg [g]).trans hcg).trans hc6).then_new hcA (by simp; omega)⟩
end Go.Proofs.YtamimdlaclglkaaGreat
