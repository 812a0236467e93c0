/- A part of the proof of 'StateBytes'. -/
import Derived.Test.YtamimdlaclglkaaGreatB18
import Derived.Test.YtamimdlaclglkaaGreatB8
namespace Go.Proofs.YtamimdlaclglkaaGreat
set_option linter.unusedVariables false
set_option linter.unusedSimpArgs false
set_option linter.unnecessarySimpa false
set_option maxRecDepth 100000
open Go.RowKit
set_option maxHeartbeats 1600000 in
theorem time1_b (x : Ln) (gc g : Nat) (now : Int) (w : World) (hgc : gc < w.heap.size) (hg : g < w.heap.size) (hc0 : w.cell? ⟨gc, 0, none⟩ = some (.pointer (some ⟨g, 0, none⟩))) (hg1 : w.cell? ⟨g, 1, none⟩ = some (.int .u64 now)) :
    Calls Tryz.prog 109 #[.agg (lcells x).toArray, .pointer (some ⟨gc, 0, none⟩)] w fun e w' => e = .returned (.bool (!live now x)) ∧ Ext w w' := by
  have hx : Ext w (w.alloc (.cells (lcells x).toArray 53)) := (Ext.rfl' w).alloc' _
  have hB := Blk.new w 53 (lcells x).toArray
  have hc0' : (w.alloc (.cells (lcells x).toArray 53)).cell? ⟨gc, 0, none⟩ = some (.pointer (some ⟨g, 0, none⟩)) := (hx.cell (p := ⟨gc, 0, none⟩) hgc).trans hc0
  have hg1' : (w.alloc (.cells (lcells x).toArray 53)).cell? ⟨g, 1, none⟩ = some (.int .u64 now) := (hx.cell (p := ⟨g, 1, none⟩) hg).trans hg1
  have hgc' : gc < (w.alloc (.cells (lcells x).toArray 53)).heap.size := Nat.lt_of_lt_of_le hgc hx.size
  have hg' : g < (w.alloc (.cells (lcells x).toArray 53)).heap.size := Nat.lt_of_lt_of_le hg hx.size
  go_enter Tryz.func109, Tryz.ntmps109
  go_upto_region 1 with fail
  generalize w.alloc (.cells (lcells x).toArray 53) = W1 at *
  refine Rg.regionT Tryz.checked.mixed 12 9 (by kernel_rfl) [
    (fun x_ _ => x_ = .agg #[str x.name, str x.url, .int .u64 x.till, .bool x.made]),
    (fun x_ _ => x_ = .pointer (some ⟨g, 0, none⟩)),
    (fun x_ _ => x_ = .pointer (some ⟨g, 0, none⟩)),
    (fun x_ _ => x_ = .pointer (some ⟨g, 1, none⟩)),
    (fun x_ _ => x_ = .pointer (some ⟨g, 1, none⟩)),
    (fun x_ _ => x_ = .int .u64 now),
    (fun x_ _ => x_ = .bool (live now x)),
    (fun x_ _ => x_ = .bool (!live now x)),
    (fun x_ _ => x_ = .bool (!live now x))] (fun W => Ext W1 W) Ext rfl rfl rfl
    ?st ((Ext.rfl' W1).drew') ?ob ?en
  case st => exact ⟨fun _ _ _ h _ => h, fun _ _ _ h _ => h, fun _ _ _ h _ => h, fun _ _ _ h _ => h, fun _ _ _ h _ => h, fun _ _ _ h _ => h, fun _ _ _ h _ => h, fun _ _ _ h _ => h, fun _ _ _ h _ => h, trivial⟩
  case ob =>
    refine ⟨Rg.at_run [2] rfl ?_, ?_⟩
    · intro ρ W hR ⟨q2, _⟩
      replace q2 : ρ 2 = .pointer (some ⟨w.heap.size, 0, none⟩) := q2
      refine ⟨rfl, ?_⟩
      have c0_ : W.cell? ⟨w.heap.size, 0, none⟩ = some (str x.name) := ((hB.ext hR).cell 0).trans rfl
      have c1_ : W.cell? ⟨w.heap.size, 1, none⟩ = some (str x.url) := ((hB.ext hR).cell 1).trans rfl
      have c2_ : W.cell? ⟨w.heap.size, 2, none⟩ = some (.int .u64 x.till) := ((hB.ext hR).cell 2).trans rfl
      have c3_ : W.cell? ⟨w.heap.size, 3, none⟩ = some (.bool x.made) := ((hB.ext hR).cell 3).trans rfl
      exact Rg.run_ok (v := .agg #[str x.name, str x.url, .int .u64 x.till, .bool x.made]) (by simp [execOp, Rg.ev, go_sem, q2, c0_, c1_, c2_, c3_]) ⟨rfl, hR, Ext.rfl' _⟩
    refine ⟨Rg.at_run [1] rfl ?_, ?_⟩
    · intro ρ W hR ⟨q1, _⟩
      replace q1 : ρ 1 = .pointer (some ⟨gc, 0, none⟩) := q1
      refine ⟨rfl, ?_⟩
      have c_ : W.cell? ⟨gc, 0, none⟩ = some (.pointer (some ⟨g, 0, none⟩)) := (hR.cell (p := ⟨gc, 0, none⟩) hgc').trans hc0'
      exact Rg.run_ok (v := .pointer (some ⟨g, 0, none⟩)) (by simp [execOp, Rg.ev, go_sem, q1, c_]) ⟨rfl, hR, Ext.rfl' _⟩
    refine ⟨Rg.at_run [5] rfl ?_, ?_⟩
    · intro ρ W hR ⟨q5, _⟩
      replace q5 : ρ 5 = .pointer (some ⟨g, 0, none⟩) := q5
      refine ⟨rfl, ?_⟩
      exact Rg.run_ok (v := .pointer (some ⟨g, 0, none⟩)) (by simp [execOp, Rg.ev, go_sem, q5]) ⟨rfl, hR, Ext.rfl' _⟩
    refine ⟨Rg.at_run [6] rfl ?_, ?_⟩
    · intro ρ W hR ⟨q6, _⟩
      replace q6 : ρ 6 = .pointer (some ⟨g, 0, none⟩) := q6
      refine ⟨rfl, ?_⟩
      exact Rg.run_ok (v := .pointer (some ⟨g, 1, none⟩)) (by simp [execOp, Rg.ev, go_sem, q6]) ⟨rfl, hR, Ext.rfl' _⟩
    refine ⟨Rg.at_run [7] rfl ?_, ?_⟩
    · intro ρ W hR ⟨q7, _⟩
      replace q7 : ρ 7 = .pointer (some ⟨g, 1, none⟩) := q7
      refine ⟨rfl, ?_⟩
      exact Rg.run_ok (v := .pointer (some ⟨g, 1, none⟩)) (by simp [execOp, Rg.ev, go_sem, q7]) ⟨rfl, hR, Ext.rfl' _⟩
    refine ⟨Rg.at_run [8] rfl ?_, ?_⟩
    · intro ρ W hR ⟨q8, _⟩
      replace q8 : ρ 8 = .pointer (some ⟨g, 1, none⟩) := q8
      refine ⟨rfl, ?_⟩
      have c_ : W.cell? ⟨g, 1, none⟩ = some (.int .u64 now) := (hR.cell (p := ⟨g, 1, none⟩) hg').trans hg1'
      exact Rg.run_ok (v := .int .u64 now) (by simp [execOp, Rg.ev, go_sem, q8, c_]) ⟨rfl, hR, Ext.rfl' _⟩
    refine ⟨Rg.at_run [4, 9] rfl ?_, ?_⟩
    · intro ρ W hR ⟨q4, q9, _⟩
      replace q4 : ρ 4 = .agg #[str x.name, str x.url, .int .u64 x.till, .bool x.made] := q4
      replace q9 : ρ 9 = .int .u64 now := q9
      refine ⟨rfl, ?_⟩
      refine Rg.enter_fn (args := #[.agg #[str x.name, str x.url, .int .u64 x.till, .bool x.made], .int .u64 now]) rfl (by simp only [List.map_toArray, List.map_cons, List.map_nil, Rg.ev, q4, q9]) (by kernel_rfl) ?_
      refine (lklive_b x now W).mono ?_
      rintro e_ w2 ⟨rfl, hxx⟩
      exact ⟨_, rfl, rfl, hR.trans' hxx, hxx⟩
    refine ⟨Rg.at_run [10] rfl ?_, ?_⟩
    · intro ρ W hR ⟨q10, _⟩
      replace q10 : ρ 10 = .bool (live now x) := q10
      refine ⟨rfl, ?_⟩
      exact Rg.run_ok (v := .bool (!live now x)) (by simp [execOp, Rg.ev, go_sem, q10]) ⟨rfl, hR, Ext.rfl' _⟩
    refine ⟨Rg.at_run [11] rfl ?_, ?_⟩
    · intro ρ W hR ⟨q11, _⟩
      replace q11 : ρ 11 = .bool (!live now x) := q11
      refine ⟨rfl, ?_⟩
      exact Rg.run_ok (v := .bool (!live now x)) (by simp [execOp, Rg.ev, go_sem, q11]) ⟨rfl, hR, Ext.rfl' _⟩
    trivial
  case en =>
    intro tm W hR hsz hk
    rw [Rg.fin_eq (ds := [4, 5, 6, 7, 8, 9, 10, 11, 3]) rfl rfl rfl hsz hk]
    have k3 : tm.getD 3 undef = .bool (!live now x) := hk 3
    have k4 : tm.getD 4 undef = .agg #[str x.name, str x.url, .int .u64 x.till, .bool x.made] := hk 4
    have k5 : tm.getD 5 undef = .pointer (some ⟨g, 0, none⟩) := hk 5
    have k6 : tm.getD 6 undef = .pointer (some ⟨g, 0, none⟩) := hk 6
    have k7 : tm.getD 7 undef = .pointer (some ⟨g, 1, none⟩) := hk 7
    have k8 : tm.getD 8 undef = .pointer (some ⟨g, 1, none⟩) := hk 8
    have k9 : tm.getD 9 undef = .int .u64 now := hk 9
    have k10 : tm.getD 10 undef = .bool (live now x) := hk 10
    have k11 : tm.getD 11 undef = .bool (!live now x) := hk 11
    clear hk hsz
    simp only [Rg.putAll, List.setIfInBounds_toArray, List.set_cons_zero, List.set_cons_succ, k3, k4, k5, k6, k7, k8, k9, k10, k11]
    clear k3
    clear k4
    clear k5
    clear k6
    clear k7
    clear k8
    clear k9
    clear k10
    clear k11
    refine Rg.nil_list ?_
    go_wp2
    go_ret
    exact ⟨rfl, hx.trans' hR⟩
set_option maxHeartbeats 1600000 in
theorem makes1_b (x : Ln) (gc g : Nat) (s : St) (c : Cm) (vt vl vs : Value) (w : World) (hB : Blk w g 107 (mkcells s c vt vl vs).toArray) (hgc : gc < w.heap.size) (hc0 : w.cell? ⟨gc, 0, none⟩ = some (.pointer (some ⟨g, 0, none⟩))) :
    Calls Tryz.prog 113 #[.agg (lcells x).toArray, .pointer (some ⟨gc, 0, none⟩)] w fun e w' => e = .returned (.bool (x.made && lown c x)) ∧ Ext w w' := by
  have hx : Ext w (w.alloc (.cells (lcells x).toArray 53)) := (Ext.rfl' w).alloc' _
  have hc0' : (w.alloc (.cells (lcells x).toArray 53)).cell? ⟨gc, 0, none⟩ = some (.pointer (some ⟨g, 0, none⟩)) := (hx.cell (p := ⟨gc, 0, none⟩) hgc).trans hc0
  obtain ⟨n, u, t, m⟩ := x
  cases m with
  | false =>
    have HF : Hid ((false && lown c ⟨n, u, t, false⟩) = false) := rfl
    rw [HF.out]
    go_enter Tryz.func113, Tryz.ntmps113
    go_wp2
    go_ret
    exact ⟨rfl, hx⟩
  | true =>
    have HO := hide (lkown_b g s c vt vl vs ⟨n, u, t, true⟩ _ (hB.ext hx))
    have HF : Hid ((true && lown c ⟨n, u, t, true⟩) = lown c ⟨n, u, t, true⟩) := Bool.true_and _
    rw [HF.out]
    generalize lown c ⟨n, u, t, true⟩ = r at *
    go_enter Tryz.func113, Tryz.ntmps113
    go_wp2_with fail
    refine HO.out.mono ?_
    rintro e w2 ⟨rfl, hx2⟩
    go_wp2
    go_ret
    exact ⟨rfl, hx.trans' hx2⟩
set_option maxHeartbeats 800000 in
theorem tat_b (x : Value) (l : List Ln) (n : Bytes) (w : World) (hl : l.length ≤ 100000) (hx : Enc.Sl lnE w noneAt x l) (hr : RiseL l) (hn : n.length ≤ maxLen) :
    Calls Tryz.prog 118 #[x, str n] w fun e w' => RetAt (cntP (ltN n) l) (lfind l n).isSome w w' e := by
  have he : (l[cntP (ltN n) l]?).any (fun s => decide (s.name = n)) = (lfind l n).isSome := by
    unfold lfind
    cases l[cntP (ltN n) l]? with
    | none => rfl
    | some y =>
      by_cases h : y.name = n
      · simp [h]
      · simp [h]
  rw [← he]
  clear he
  have HS : Hid (∀ W, Ext w W → Calls Tryz.prog 129 #[x, str n, .func (.func 130) #[] #[]] W fun e w' => RetAt (cntP (ltN n) l) ((l[cntP (ltN n) l]?).any (fun s => decide (s.name = n))) W w' e) :=
    hide (fun W (h : Ext w W) => searchLn_b x l n W hl (hx.ext h) hn (hr.mono n))
  generalize (l[cntP (ltN n) l]?).any (fun s => decide (s.name = n)) = b at *
  generalize cntP (ltN n) l = i at *
  obtain ⟨A, c, rfl, -, -⟩ := hx.form
  go_enter Tryz.func118, Tryz.ntmps118
  go_wp2_with fail
  refine (HS.out _ (Ext.rfl' w)).mono ?_
  rintro e w1 ⟨rfl, hx1⟩
  go_wp2
  go_ret2
  exact ⟨rfl, hx1⟩
theorem Blk.four {w : World} {g : Nat} {T : TypeId} {x0 x1 x2 x3 : Value} (h : Blk w g T #[x0, x1, x2, x3]) (a b c d : Value) :
    Blk ((((w.setCell ⟨g, 0, none⟩ a).setCell ⟨g, 1, none⟩ b).setCell ⟨g, 2, none⟩ c).setCell ⟨g, 3, none⟩ d) g T #[a, b, c, d] := (((h.set_ 0 a).set_ 1 b).set_ 2 c).set_ 3 d
theorem Chg.four {S : List Nat} {w0 w : World} {g : Nat} (h : Chg S w0 w) (hg : g ∈ S) (a b c d : Value) :
    Chg S w0 ((((w.setCell ⟨g, 0, none⟩ a).setCell ⟨g, 1, none⟩ b).setCell ⟨g, 2, none⟩ c).setCell ⟨g, 3, none⟩ d) := (((h.set hg _).set hg _).set hg _).set hg _
def Ln0 : Ln := ⟨[], [], 0, false⟩
def lfv (l : List Ln) (n : Bytes) : Ln × Bool := match lfind l n with
  | some x => (x, true)
  | none => (Ln0, false)
set_option maxHeartbeats 1600000 in
theorem tfind_b (x : Value) (l : List Ln) (n : Bytes) (w : World) (hl : l.length ≤ 100000) (hx : Enc.Sl lnE w noneAt x l) (hr : RiseL l) (hn : n.length ≤ maxLen) :
    Calls Tryz.prog 93 #[x, str n] w fun e w' => e = .returned (.tuple #[.agg (lcells (lfv l n).1).toArray, .bool (lfv l n).2]) ∧ Ext w w' := by
  have hxa : Ext w (w.alloc (.cells (lcells Ln0).toArray 53)) := (Ext.rfl' w).alloc' _
  have HA := hide (tat_b x l n _ hl (hx.ext hxa) hr hn)
  have hB := Blk.new w 53 (lcells Ln0).toArray
  obtain ⟨A, c, rfl, -, -⟩ := hx.form
  obtain ⟨g, hg⟩ : ∃ g, w.heap.size = g := ⟨_, rfl⟩
  rw [hg] at hB
  cases hf : lfind l n with
  | none =>
    have HV : Hid (lfv l n = (Ln0, false)) := by unfold Hid lfv; rw [hf]
    rw [HV.out]
    rw [hf] at HA
    generalize cntP (ltN n) l = i at *
    go_enter Tryz.func93, Tryz.ntmps93
    go_wp2_with fail
    refine HA.out.mono ?_
    rintro e w1 ⟨rfl, hx1⟩
    replace hB := hB.ext hx1
    have x0 := (hB.cell 0).trans rfl
    have x1 := (hB.cell 1).trans rfl
    have x2 := (hB.cell 2).trans rfl
    have x3 := (hB.cell 3).trans rfl
    have z0 := hB.frozen 0
    have z1 := hB.frozen 1
    have z2 := hB.frozen 2
    have z3 := hB.frozen 3
    go_wp2
    try simp only [Exit.inBlock, Exit.then]
    refine bodyPost_ret (results_cell2 rfl _ _ g 53 (lcells Ln0).toArray (0, 0) _ rfl (Blk.four hB (str Ln0.name) (str Ln0.url) (.int .u64 Ln0.till) (.bool Ln0.made)) Tryz.underlying53 rfl (by kernel_rfl)) rfl ?_
    exact ⟨rfl, (hxa.trans' hx1).then_ ((Chg.refl [g] w1).four (by simp) _ _ _ _) (by simp; omega)⟩
  | some y =>
    have HV : Hid (lfv l n = (y, true)) := by unfold Hid lfv; rw [hf]
    have hat := (lfind_some hf).2
    rw [HV.out]
    rw [hf] at HA
    generalize cntP (ltN n) l = i at *
    have hil : i < l.length := (List.getElem?_eq_some_iff.1 hat).1
    go_enter Tryz.func93, Tryz.ntmps93
    go_wp2_with fail
    refine HA.out.mono ?_
    rintro e w1 ⟨rfl, hx1⟩
    replace hB := hB.ext hx1
    have x0 := (hB.cell 0).trans rfl
    have x1 := (hB.cell 1).trans rfl
    have x2 := (hB.cell 2).trans rfl
    have x3 := (hB.cell 3).trans rfl
    have z0 := hB.frozen 0
    have z1 := hB.frozen 1
    have z2 := hB.frozen 2
    have z3 := hB.frozen 3
    obtain ⟨ad, s, rfl, hs, hbk, p0, p1, p2, p3, r1, r2, r3⟩ := ln_at ((hx.ext hxa).ext hx1) (k := i) hil
    obtain rfl : y = s := Option.some.inj (hat.symm.trans hs.out)
    clear hat
    go_wp2
    try simp only [Exit.inBlock, Exit.then]
    refine bodyPost_ret (results_cell2 rfl _ _ g 53 (lcells y).toArray (0, 0) _ rfl (Blk.four hB (str y.name) (str y.url) (.int .u64 y.till) (.bool y.made)) Tryz.underlying53 rfl (by kernel_rfl)) rfl ?_
    exact ⟨rfl, (hxa.trans' hx1).then_ ((Chg.refl [g] w1).four (by simp) _ _ _ _) (by simp; omega)⟩
end Go.Proofs.YtamimdlaclglkaaGreat
namespace Go.Proofs.YtamimdlaclglkaaGreat
set_option linter.unusedVariables false
set_option linter.unusedSimpArgs false
set_option linter.unnecessarySimpa false
set_option maxRecDepth 100000
open Go.RowKit
theorem run_app_lnt {W : World} (A : Option Addr) (ty : TypeId) {B : Option Addr} {c : Nat} : (Builtin.append_ #[105, 105] ty #[.slice A 0 0, .slice B 0 c]).run Tryz.prog W = .ok (.slice A 0 0) W := by
  obtain ⟨i0, hi, hz0, hz1, hz2⟩ := info_parts elt_ln.info
  cases A <;> cases B <;> simp [Builtin.append_, run_underlying Tryz.underlying105, sizeOf, typeInfo, hi, hz1, Builtin.lenOf, Builtin.firstCells, storeCells, loadCells, loadCellsFrom]
/-- a copy of links in new memory, whose block is none that holds x alone -/
def CL (w0 : World) (X : Avoid) (x : Ln) (l : List Ln) (v : Value) (W : World) : Prop := Own 53 lnE w0 W X v l ∧ ∀ k, v.ownBlock = some k → ¬ Blk W k 53 (lcells x).toArray
theorem CL.ext {w0 W W' : World} {X : Avoid} {x : Ln} {l : List Ln} {v : Value} (h : CL w0 X x l v W) (hx : Ext W W') : CL w0 X x l v W' :=
  ⟨h.1.ext hx, fun k hk hb => h.2 k hk (by
    have hlt := (h.1.lt k hk).2
    exact (hx.block k hlt).symm.trans hb)⟩
theorem CL.trans {w0 w W : World} {X : Avoid} {x : Ln} {l : List Ln} {v : Value} (h : CL w X x l v W) (hx : Ext w0 w) : CL w0 X x l v W := ⟨h.1.trans hx, h.2⟩
set_option maxHeartbeats 800000 in
theorem cloneC_b (X : Avoid) (w : World) (hX : ∀ k, X k → k < w.heap.size) (v : Value) (l : List Ln) (x : Ln) (hl : l.length ≤ 100000) (hx : Enc.Sl lnE w X v l) (hf : ∀ y ∈ l, y.name ≠ x.name) :
    Calls Tryz.prog 135 #[v] w fun e w' => ∃ u, e = .returned u ∧ CL w X x l u w' ∧ Ext w w' := by
  rcases Nat.eq_zero_or_pos l.length with h0 | h0
  · obtain rfl := List.eq_nil_of_length_eq_zero h0
    obtain ⟨A, c, rfl, k1, k2⟩ := hx.form
    have q := fun (w : World) (a : Option Addr) (n c n' c' : Nat) => Lib.run_eql_slice_nil (P := Tryz.prog) w _ _ a n c n' c' Tryz.underlying105
    rcases A with _ | ad
    · go_enter Tryz.func135, Tryz.ntmps135
      go_wp2
      go_ret
      exact ⟨_, rfl, ⟨Own.nil _ _ _ _ _, fun k hk => by cases hk⟩, Ext.rfl' _⟩
    · have HR := hide (fun W (A : Option Addr) ty => run_app_lnt (W := W) A ty (B := some ad) (c := c))
      go_enter Tryz.func135, Tryz.ntmps135
      go_wp2_with (at_builtin; refine wpList_append_run rfl _ _ _ rfl _ _ rfl rfl (HR.out _ _ _) ?_)
      go_ret
      refine ⟨_, rfl, ⟨Own.lit0 _ _ (Ext.rfl' w) _ rfl (fun h => Nat.lt_irrefl _ (hX _ h)), fun k hk hb => ?_⟩, (Ext.rfl' w).alloc' _⟩
      obtain rfl := Option.some.inj hk
      have h1 := Blk.new w 53 #[]
      unfold Blk at h1 hb
      rw [h1] at hb
      have h2 := Option.some.inj hb
      simp at h2
  · refine (cloneX_lnt X w hX v l hl hx).mono ?_
    rintro e w' ⟨m, A, c, hm, rfl, hown, hxx⟩
    obtain rfl : m = l := hm.out
    refine ⟨_, rfl, ⟨hown, fun k hk hb => ?_⟩, hxx⟩
    obtain ⟨g, cap, cur, css, he, hg, -, -, -, -, ht, hea, -⟩ := hown.open_ h0
    rw [he] at hk
    obtain rfl := Option.some.inj hk
    unfold Blk at hb
    have h3 := Option.some.inj (hg.symm.trans hb)
    simp only [Obj.cells.injEq] at h3
    obtain ⟨h4, -⟩ := h3
    subst h4
    cases m with
    | nil => simp at h0
    | cons y m =>
      cases css with
      | nil => have := hea.1; simp at this
      | cons c0 css =>
        have hr := hea.2 0 c0 y rfl rfl
        obtain ⟨rfl, -⟩ := ln_rep.1 hr
        have h5 : (List.take ((y :: m).length * lnE.size) (lcells x).toArray.toList)[0]? = ((lcells y :: css).flatten)[0]? := congrArg (·[0]?) ht
        rw [List.getElem?_take_of_lt (by show 0 < (m.length + 1) * 4; omega)] at h5
        have h6 : (some (str x.name) : Option Value) = some (str y.name) := h5
        simp [str] at h6
        exact hf y List.mem_cons_self h6.symm
set_option maxHeartbeats 3200000 in
theorem twith_b (X : Avoid) (w : World) (hX : ∀ k, X k → k < w.heap.size) (v : Value) (l : List Ln) (x : Ln) (hl : l.length ≤ 10000) (hx : Enc.Sl lnE w X v l) (hr : RiseL l) (hf : lfind l x.name = none) (hxw : x.name.length ≤ maxLen ∧ x.url.length ≤ maxLen ∧ U64 x.till) :
    Calls Tryz.prog 128 #[v, .agg (lcells x).toArray] w fun e w' => RetOwnX 53 lnE w w' X e (lkput l x) := by
  have hxa : Ext w (w.alloc (.cells (lcells x).toArray 53)) := (Ext.rfl' w).alloc' _
  have hxn : Enc.Sl lnE w noneAt v l := hx.mono fun _ _ h => h.elim
  have HA := hide (tat_b v l x.name _ (by omega) (hxn.ext hxa) hr hxw.1)
  have HF := hide ((lfind_none hr).1 hf)
  rw [hf] at HA
  have hB := Blk.new w 53 (lcells x).toArray
  obtain ⟨A, c, rfl, -, -⟩ := hx.form
  obtain ⟨i, hi⟩ : ∃ i, cntP (ltN x.name) l = i := ⟨_, rfl⟩
  have hil : i ≤ l.length := by rw [← hi]; exact cntP_le _ _
  have HI : Hid (lkput l x = l.take i ++ x :: l.drop i) := by unfold Hid lkput; rw [hi]
  rw [hi] at HA
  rw [HI.out]
  clear hi HI hf
  have x0 := (hB.cell 0).trans rfl
  go_enter Tryz.func128, Tryz.ntmps128
  go_wp2_with fail
  refine HA.out.mono ?_
  rintro e w1 ⟨rfl, hx1⟩
  have hxw1 := hxa.trans' hx1
  replace hB := hB.ext hx1
  clear x0 HA
  obtain ⟨g, hg⟩ : ∃ g, w.heap.size = g := ⟨_, rfl⟩
  rw [hg] at hB
  have hw1 : w.heap.size ≤ w1.heap.size := hxw1.size
  replace hx := hx.ext hxw1
  have hX1 : ∀ k, X k → k < w1.heap.size := fun k hk => Nat.lt_of_lt_of_le (hX k hk) hw1
  go_upto_region 6 with fail
  try rw [hg]
  refine Rg.regionT Tryz.checked.mixed 29 5 (by kernel_rfl) [
    (fun x_ _ => x_ = .slice A l.length c),
    (fun v W => CL w1 X x l v W),
    (fun x_ _ => x_ = .int .i64 i),
    (fun x_ _ => x_ = .agg #[str x.name, str x.url, .int .u64 x.till, .bool x.made]),
    (fun v W => ∃ gv, v = .slice (some ⟨gv, 0, none⟩) 1 1 ∧ Blk W gv 53 (lcells x).toArray ∧ w1.heap.size ≤ gv)] (fun W => Ext w1 W) Ext rfl rfl rfl
    ?st ((Ext.rfl' w1).drew') ?ob ?en
  case st => exact ⟨fun _ _ _ h _ => h, fun _ _ _ h hx => h.ext hx, fun _ _ _ h _ => h, fun _ _ _ h _ => h, fun _ _ _ ⟨gv, h1, h2, h3⟩ hx => ⟨gv, h1, h2.ext hx, h3⟩, trivial⟩
  case ob =>
    refine ⟨Rg.at_run [0] rfl ?_, ?_⟩
    · intro ρ W hR ⟨q0, _⟩
      replace q0 : ρ 0 = .slice A l.length c := q0
      refine ⟨rfl, ?_⟩
      exact Rg.run_ok (v := .slice A l.length c) (by simp [execOp, Rg.ev, go_sem, q0]) ⟨rfl, hR, Ext.rfl' _⟩
    refine ⟨Rg.at_run [23] rfl ?_, ?_⟩
    · intro ρ W hR ⟨q23, _⟩
      replace q23 : ρ 23 = .slice A l.length c := q23
      refine ⟨rfl, ?_⟩
      refine Rg.enter_fn (args := #[.slice A l.length c]) rfl (by simp only [List.map_toArray, List.map_cons, List.map_nil, Rg.ev, q23]) (by kernel_rfl) ?_
      refine (cloneC_b X W (fun k hk => Nat.lt_of_lt_of_le (hX1 k hk) hR.size) _ l x (by omega) (hx.ext hR) HF.out).mono ?_
      rintro e_ w2 ⟨u_, rfl, hcl, hxx⟩
      exact ⟨_, rfl, hcl.trans hR, hR.trans' hxx, hxx⟩
    refine ⟨Rg.at_run [5] rfl ?_, ?_⟩
    · intro ρ W hR ⟨q5, _⟩
      replace q5 : ρ 5 = .int .i64 i := q5
      refine ⟨rfl, ?_⟩
      exact Rg.run_ok (v := .int .i64 i) (by simp [execOp, Rg.ev, go_sem, q5]) ⟨rfl, hR, Ext.rfl' _⟩
    refine ⟨Rg.at_run [3] rfl ?_, ?_⟩
    · intro ρ W hR ⟨q3, _⟩
      replace q3 : ρ 3 = .pointer (some ⟨g, 0, none⟩) := q3
      refine ⟨rfl, ?_⟩
      have c0_ : W.cell? ⟨g, 0, none⟩ = some (str x.name) := ((hB.ext hR).cell 0).trans rfl
      have c1_ : W.cell? ⟨g, 1, none⟩ = some (str x.url) := ((hB.ext hR).cell 1).trans rfl
      have c2_ : W.cell? ⟨g, 2, none⟩ = some (.int .u64 x.till) := ((hB.ext hR).cell 2).trans rfl
      have c3_ : W.cell? ⟨g, 3, none⟩ = some (.bool x.made) := ((hB.ext hR).cell 3).trans rfl
      exact Rg.run_ok (v := .agg #[str x.name, str x.url, .int .u64 x.till, .bool x.made]) (by simp [execOp, Rg.ev, go_sem, q3, c0_, c1_, c2_, c3_]) ⟨rfl, hR, Ext.rfl' _⟩
    refine ⟨Rg.at_run [26] rfl ?_, ?_⟩
    · intro ρ W hR ⟨q26, _⟩
      replace q26 : ρ 26 = .agg #[str x.name, str x.url, .int .u64 x.till, .bool x.made] := q26
      refine ⟨rfl, ?_⟩
      refine Rg.run_ok (v := .slice (some ⟨W.heap.size, 0, none⟩) 1 1) (W' := W.alloc (.cells (lcells x).toArray 53)) (by simp [execOp, Rg.ev, go_sem, q26]) ⟨⟨_, rfl, Blk.new W _ _, hR.size⟩, hR.alloc' _, (Ext.rfl' _).alloc' _⟩
    trivial
  case en =>
    intro tm W hR hsz hk
    rw [Rg.fin_eq (ds := [23, 24, 25, 26, 27]) rfl rfl rfl hsz hk]
    have k23 : tm.getD 23 undef = .slice A l.length c := hk 23
    have k24 : (fun v W => CL w1 X x l v W) (tm.getD 24 undef) W := hk 24
    have k25 : tm.getD 25 undef = .int .i64 i := hk 25
    have k26 : tm.getD 26 undef = .agg #[str x.name, str x.url, .int .u64 x.till, .bool x.made] := hk 26
    have k27 : (fun v W => ∃ gv, v = .slice (some ⟨gv, 0, none⟩) 1 1 ∧ Blk W gv 53 (lcells x).toArray ∧ w1.heap.size ≤ gv) (tm.getD 27 undef) W := hk 27
    clear hk hsz
    simp only [Rg.putAll, List.setIfInBounds_toArray, List.set_cons_zero, List.set_cons_succ, k23, k25, k26]
    clear k23
    generalize tm.getD 24 undef = u24 at *
    clear k25
    clear k26
    generalize tm.getD 27 undef = u27 at *
    obtain ⟨gv, rfl, hv, hgv⟩ := k27
    obtain ⟨A5, c5, rfl, -, -⟩ := k24.1.form
    go_wp2_with fail
    refine (insXLn_b X w1 W (fun k hk => Nat.lt_of_lt_of_le (hX1 k hk) hR.size) _ l i gv x (by omega) hil k24.1 hR (lcells x) hv (fun k hk h => k24.2 k hk (h ▸ hv)) (fun h => by have := hX1 _ h; omega) (ln_rep.2 ⟨rfl, hxw⟩)).mono ?_
    rintro e w2 ⟨m, A6, c6, hm, rfl, hown, hx2⟩
    go_wp2
    go_ret
    exact ⟨m, A6, c6, hm, rfl, hown.trans hxw1, hxw1.trans' hx2⟩
end Go.Proofs.YtamimdlaclglkaaGreat
