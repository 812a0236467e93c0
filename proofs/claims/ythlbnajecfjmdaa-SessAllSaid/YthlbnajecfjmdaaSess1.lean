/- sess: what is known of a command. -/
import Derived.Test.YthlbnajecfjmdaaSess0
import Derived.Test.YthlbnajecfjmdaaRes
namespace Go.Proofs.Ythlbnajecfjmdaa
set_option linter.unusedVariables false
set_option linter.unusedSimpArgs false
set_option linter.unnecessarySimpa false
set_option maxRecDepth 100000
open Go.RowKit
/-- what a function returns whose result is a struct -/
def RetAgg {α : Type} (E : Enc α) (X : Avoid) (w w' : World) (e : Ending) (a : α) : Prop := ∃ cs : List Value, e = .returned (.agg cs.toArray) ∧ E.rep w' X cs a ∧ Ext w w'

set_option maxHeartbeats 800000 in
theorem stale_b (q h : Int) (w : World) (hq : U64 q) (hh : U64 h) : Calls Try.prog 26 #[.int .u64 q, .int .u64 h] w fun e w' => e = .returned (.bool (stale q h)) ∧ w = w' := by
  by_cases h1 : 4 ≤ h
  · by_cases h2 : q ≤ h - 4
    · have HS : Hid (stale q h = true) := by unfold Hid stale; simp [h1, h2]
      rw [HS.out]
      go_enter Try.func26, Try.ntmps26
      go_wp2
      go_ret
      exact ⟨rfl, rfl⟩
    · have HS : Hid (stale q h = false) := by unfold Hid stale; simp [h1]; omega
      rw [HS.out]
      go_enter Try.func26, Try.ntmps26
      go_wp2
      go_ret
      exact ⟨rfl, rfl⟩
  · have HS : Hid (stale q h = false) := by unfold Hid stale; simp [h1]
    rw [HS.out]
    go_enter Try.func26, Try.ntmps26
    go_wp2
    go_ret
    exact ⟨rfl, rfl⟩
theorem at_b (x : Value) (l : List Se) (c : Int) (w : World) (hl : l.length ≤ 100000) (hx : Enc.Sl seE w noneAt x l) (hc : I64 c) (hm : RiseS l) :
    Calls Try.prog 58 #[x, .int .i64 c] w fun e w' => RetAt (sat l c).1 (sat l c).2 w w' e := by
  have H := hide (searchSe_b x l c w hl hx hc (hm.mono c))
  obtain ⟨A, cap, rfl, -, -⟩ := hx.form
  go_enter Try.func58, Try.ntmps58
  go_wp2_with fail
  refine H.out.mono ?_
  rintro e w1 ⟨rfl, hx1⟩
  go_wp2
  go_ret2
  exact ⟨rfl, hx1⟩
theorem bad_b (k : Int) (w : World) : Calls Try.prog 24 #[.int .i64 k] w fun e w' => e = .returned (.tuple #[.agg #[.int .i64 k, str []], .bool true]) ∧ Ext w w' := by
  go_enter Try.func24, Try.ntmps24
  go_wp2
  refine bodyPost_ret (results_cell2 rfl _ _ w.heap.size 31 #[.int .i64 k, str []] (0, 0) _ rfl (Blk.new w _ _) Try.underlying31 rfl (by kernel_rfl)) rfl ?_
  exact ⟨rfl, (Ext.rfl' w).alloc' _⟩
set_option maxHeartbeats 800000 in
theorem find_b (X : Avoid) (x : Value) (l : List Se) (c : Int) (w : World) (hl : l.length ≤ 100000) (hx : Enc.Sl seE w X x l) (hc : I64 c) (hm : RiseS l) :
    Calls Try.prog 53 #[x, .int .i64 c] w fun e w' => RetAgg seE X w w' e (sown l c) := by
  have H := hide (fun W h => at_b x l c W hl h hc hm)
  obtain ⟨A, cap, rfl, -, -⟩ := hx.form
  have hB := Blk.new w 47 #[.int .i64 0, .int .u64 0, .slice none 0 0]
  have hx0 := (hx.mono (Y := fun k => X k ∨ k = w.heap.size) fun k hk h => h.elim id fun h => absurd h (by omega)).ext ((Ext.rfl' w).alloc' (.cells #[.int .i64 0, .int .u64 0, .slice none 0 0] 47))
  by_cases his : (sat l c).2 = true
  · have h1 : cntP (ltC c) l < l.length := by
      rcases Nat.lt_or_ge (cntP (ltC c) l) l.length with h | h
      · exact h
      · unfold sat at his; rw [List.getElem?_eq_none h] at his; cases his
    have HW : Hid (∀ s, l[cntP (ltC c) l]? = some s → sown l c = s) := by
      intro s hs
      unfold sown sat at *
      simp only [hs, Option.any_some, decide_eq_true_eq] at his ⊢
      rw [if_pos his]
    obtain ⟨i, hi⟩ : ∃ i, cntP (ltC c) l = i := ⟨_, rfl⟩
    have HI : Hid (sat l c = (i, true)) := by unfold Hid sat at *; rw [← his, hi]
    rw [hi] at h1 HW
    clear his hi
    go_enter Try.func53, Try.ntmps53
    go_wp2_with fail
    refine (H.out _ (slN hx0)).mono ?_
    rintro e w1 ⟨rfl, hx1⟩
    rw [HI.out]
    obtain ⟨ad, s, v, rfl, hs, hbk, p0, p1, p2, r1, r2, r3⟩ := se_at (hx0.ext hx1) (k := i) h1
    obtain ⟨Av, cv, rfl, -, -⟩ := r3.form
    have hB1 := hB.ext hx1
    have y0 := (hB1.cell 0).trans rfl
    have y1 := (hB1.cell 1).trans rfl
    have y2 := (hB1.cell 2).trans rfl
    have z0 := hB1.frozen 0
    have z1 := hB1.frozen 1
    have z2 := hB1.frozen 2
    go_wp2
    try simp only [Exit.inBlock, Exit.then]
    refine bodyPost_ret (results_cell_row rfl _ _ w.heap.size 47 #[.int .i64 s.client, .int .u64 s.high, .slice Av s.done.length cv] (0, 0) _ rfl (((hB1.set_ 0 _).set_ 1 _).set_ 2 _) Try.underlying47 rfl (by kernel_rfl)) rfl ?_
    rw [HW.out s hs.out]
    have hcg : Chg [w.heap.size] w1 (((w1.setCell ⟨w.heap.size, 0, none⟩ (.int .i64 s.client)).setCell ⟨w.heap.size, 1, none⟩ (.int .u64 s.high)).setCell ⟨w.heap.size, 2, none⟩ (.slice Av s.done.length cv)) := (((Chg.refl _ _).set (by simp) _).set (by simp) _).set (by simp) _
    refine ⟨secells s (.slice Av s.done.length cv), rfl, se_rep.2 ⟨_, rfl, r1, r2, ?_⟩, (((Ext.rfl' w).alloc' _).trans' hx1).then_ hcg (by simp)⟩
    exact (r3.chg hcg (fun k hk _ => .inr (by simpa using hk))).mono fun _ _ h => .inl h
  · have HW : Hid (sown l c = ⟨c, 0, []⟩) := by
      unfold Hid sown sat at *
      cases h : l[cntP (ltC c) l]? with
      | none => rfl
      | some s =>
        simp only [h, Option.any_some, decide_eq_true_eq] at his ⊢
        rw [if_neg his]
    obtain ⟨i, hi⟩ : ∃ i, cntP (ltC c) l = i := ⟨_, rfl⟩
    have HI : Hid (sat l c = (i, false)) := by unfold Hid sat at *; rw [hi] at his ⊢; exact Prod.ext rfl (Bool.eq_false_iff.2 his)
    clear his hi
    go_enter Try.func53, Try.ntmps53
    go_wp2_with fail
    refine (H.out _ (slN hx0)).mono ?_
    rintro e w1 ⟨rfl, hx1⟩
    rw [HI.out]
    have hB1 := hB.ext hx1
    have y0 := (hB1.cell 0).trans rfl
    have y1 := (hB1.cell 1).trans rfl
    have y2 := (hB1.cell 2).trans rfl
    have z0 := hB1.frozen 0
    have z1 := hB1.frozen 1
    have z2 := hB1.frozen 2
    go_wp2
    try simp only [Exit.inBlock, Exit.then]
    refine bodyPost_ret (results_cell_row rfl _ _ w.heap.size 47 #[.int .i64 c, .int .u64 0, .slice none 0 0] (0, 0) _ rfl (((hB1.set_ 0 _).set_ 1 _).set_ 2 _) Try.underlying47 rfl (by kernel_rfl)) rfl ?_
    rw [HW.out]
    have hcg : Chg [w.heap.size] w1 (((w1.setCell ⟨w.heap.size, 0, none⟩ (.int .i64 c)).setCell ⟨w.heap.size, 1, none⟩ (.int .u64 0)).setCell ⟨w.heap.size, 2, none⟩ (.slice none 0 0)) := (((Chg.refl _ _).set (by simp) _).set (by simp) _).set (by simp) _
    exact ⟨secells ⟨c, 0, []⟩ (.slice none 0 0), rfl, se_rep.2 ⟨_, rfl, hc, ⟨by show (0 : Int) ≤ 0; omega, by show (0 : Int) ≤ _; omega⟩, Enc.Sl.nil _ _ _⟩, (((Ext.rfl' w).alloc' _).trans' hx1).then_ hcg (by simp)⟩
set_option maxHeartbeats 800000 in
theorem own_b (X : Avoid) (x : Value) (l : List Se) (c : Cm) (w : World) (hl : l.length ≤ 100000) (hx : Enc.Sl seE w X x l) (hc : I64 c.client) (hm : RiseS l) :
    Calls Try.prog 25 #[.agg #[x, .int .i64 c.kind, .int .i64 c.client, .int .u64 c.seq, str c.name, str c.url, .int .u64 c.till]] w fun e w' => RetAgg seE X w w' e (sown l c.client) := by
  obtain ⟨A, cap, rfl, -, -⟩ := hx.form
  have H := hide (fun W h => find_b (fun k => X k ∨ k = w.heap.size + 1) (.slice A l.length cap) l c.client W hl h hc hm)
  have hx' := hx.mono (Y := fun k => X k ∨ k = w.heap.size + 1) fun k hk h => h.elim id fun h => absurd h (by omega)
  have hB0 := (Blk.new w 65 #[.slice A l.length cap, .int .i64 c.kind, .int .i64 c.client, .int .u64 c.seq, str c.name, str c.url, .int .u64 c.till])
  go_enter Try.func25, Try.ntmps25
  go_wp2_with fail
  have hxx : Ext w ((w.alloc (.cells #[.slice A l.length cap, .int .i64 c.kind, .int .i64 c.client, .int .u64 c.seq, str c.name, str c.url, .int .u64 c.till] 65)).alloc (.cells #[.int .i64 0, .int .u64 0, .slice none 0 0] 47)) := ((Ext.rfl' w).alloc' _).alloc' _
  have hR : Blk ((w.alloc (.cells #[.slice A l.length cap, .int .i64 c.kind, .int .i64 c.client, .int .u64 c.seq, str c.name, str c.url, .int .u64 c.till] 65)).alloc (.cells #[.int .i64 0, .int .u64 0, .slice none 0 0] 47)) (w.heap.size + 1) 47 #[.int .i64 0, .int .u64 0, .slice none 0 0] := by
    have := Blk.new (w.alloc (.cells #[.slice A l.length cap, .int .i64 c.kind, .int .i64 c.client, .int .u64 c.seq, str c.name, str c.url, .int .u64 c.till] 65)) 47 #[.int .i64 0, .int .u64 0, .slice none 0 0]
    rwa [show (w.alloc (.cells #[.slice A l.length cap, .int .i64 c.kind, .int .i64 c.client, .int .u64 c.seq, str c.name, str c.url, .int .u64 c.till] 65)).heap.size = w.heap.size + 1 by simp] at this
  refine (H.out _ (hx'.ext hxx)).mono ?_
  rintro e w1 ⟨cs, rfl, hrep, hx1⟩
  obtain ⟨v, rfl, r1, r2, r3⟩ := se_rep.1 hrep
  obtain ⟨s, hs⟩ : ∃ s, sown l c.client = s := ⟨_, rfl⟩
  rw [hs] at hrep r1 r2 r3 ⊢
  have HS := hide hs
  clear hs
  obtain ⟨Av, cv, rfl, -, -⟩ := r3.form
  have hR1 := hR.ext hx1
  have y0 := (hR1.cell 0).trans rfl
  have y1 := (hR1.cell 1).trans rfl
  have y2 := (hR1.cell 2).trans rfl
  have z0 := hR1.frozen 0
  have z1 := hR1.frozen 1
  have z2 := hR1.frozen 2
  go_wp2
  try simp only [Exit.inBlock, Exit.then]
  refine bodyPost_ret (results_cell_row rfl _ _ (w.heap.size + 1) 47 #[.int .i64 s.client, .int .u64 s.high, .slice Av s.done.length cv] (0, 0) _ rfl (((hR1.set_ 0 _).set_ 1 _).set_ 2 _) Try.underlying47 rfl (by kernel_rfl)) rfl ?_
  have hcg : Chg [w.heap.size + 1] w1 (((w1.setCell ⟨w.heap.size + 1, 0, none⟩ (.int .i64 s.client)).setCell ⟨w.heap.size + 1, 1, none⟩ (.int .u64 s.high)).setCell ⟨w.heap.size + 1, 2, none⟩ (.slice Av s.done.length cv)) := (((Chg.refl _ _).set (by simp) _).set (by simp) _).set (by simp) _
  rw [HS.out]
  refine ⟨secells s (.slice Av s.done.length cv), rfl, se_rep.2 ⟨_, rfl, r1, r2, ?_⟩, (hxx.trans' hx1).then_ hcg (by simp)⟩
  exact (r3.chg hcg (fun k hk _ => .inr (by simpa using hk))).mono fun _ _ h => .inl h
end Go.Proofs.Ythlbnajecfjmdaa
