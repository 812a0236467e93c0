/- A part of the proof of 'StateBytes'. -/
import Derived.Test.YtamimdlaclglkaaGreatB30
import Derived.Test.YtamimdlaclglkaaGreatB37
namespace Go.Proofs.YtamimdlaclglkaaGreat
set_option linter.unusedVariables false
set_option linter.unusedSimpArgs false
set_option linter.unnecessarySimpa false
set_option maxRecDepth 100000
open Go.RowKit
/-- as RetDo; the lists of the state are new -/
def RetDoO (X : Avoid) (w w' : World) (e : Ending) (r : St × An) : Prop :=
  ∃ (t : St) (a : An) (At : Option Addr) (ct : Nat) (Au : Option Addr) (cu : Nat), Hid ((t, a) = r) ∧ e = .returned (.tuple #[.agg #[.int .u64 t.now, .int .u64 t.count, .slice At t.links.length ct, .slice Au t.sess.length cu], .agg (acells a).toArray]) ∧
    stE.rep w' X [.int .u64 t.now, .int .u64 t.count, .slice At t.links.length ct, .slice Au t.sess.length cu] t ∧ Fresh 53 4 w w' (.slice At t.links.length ct) t.links.length ∧ Fresh 56 3 w w' (.slice Au t.sess.length cu) t.sess.length ∧ Ext w w'
theorem RetDoO.do_ {X : Avoid} {w w' : World} {e : Ending} {r : St × An} (h : RetDoO X w w' e r) : RetDo X w w' e r := by
  obtain ⟨t, a, A1, c1, A2, c2, h1, h2, h3, -, -, h4⟩ := h
  exact ⟨t, a, A1, c1, A2, c2, h1, h2, h3, h4⟩
theorem fin_fresh {T : TypeId} {size n : Nat} {w w1 W : World} {v v0 v1 v2 v3 v4 v5 : Value} {g : Nat} (h : Fresh T size w1 W v n) (hg : w.heap.size ≤ g) (hs : g + 1 + 1 + 1 < w1.heap.size) :
    Fresh T size w ((((((W.setCell ⟨g + 1 + 1, 0, none⟩ v0).setCell ⟨g + 1 + 1, 1, none⟩ v1).setCell ⟨g + 1 + 1, 2, none⟩ v2).setCell ⟨g + 1 + 1, 3, none⟩ v3).setCell ⟨g + 1 + 1 + 1, 0, none⟩ v4).setCell ⟨g + 1 + 1 + 1, 1, none⟩ v5) v n :=
  (h.chg (S := [g + 1 + 1, g + 1 + 1 + 1]) (((((((Chg.refl _ W).set (by simp) v0).set (by simp) v1).set (by simp) v2).set (by simp) v3).set (by simp) v4).set (by simp) v5) (fun k hk hm => by have := (h.lt k hk).1; simp at hm; omega)).base (by omega)
set_option maxHeartbeats 12800000 in
theorem sapplyO_b (X : Avoid) (s : St) (cs : List Value) (c : Cm) (w : World) (hX : ∀ j, X j → j < w.heap.size) (hs : stE.rep w noneAt cs s) (hi : SInv s) (hc : c.wide) (hcu : c.url.length ≤ 1000000) (hcn : c.name.length ≤ 1000000) :
    Calls Tryz.prog 10 #[.agg cs.toArray, cv c] w fun e w' => RetDoO X w w' e (sapply s c) := by
  obtain ⟨vl, vs, rfl, u1, u2, s3, s4⟩ := st_rep.1 hs
  obtain ⟨Al, cl, rfl, -, -⟩ := s3.form
  obtain ⟨As, ca, rfl, -, -⟩ := s4.form
  obtain ⟨hB, hC, hR_, hA, hx0⟩ := four_al w 28 37 28 33 (stcells s (.slice Al s.links.length cl) (.slice As s.sess.length ca)).toArray (ccells c) #[.int .u64 0, .int .u64 0, .slice none 0 0, .slice none 0 0] (acells ⟨0, []⟩).toArray
  obtain ⟨g, hg⟩ : ∃ g, w.heap.size = g := ⟨_, rfl⟩
  rw [hg] at hB hC hR_ hA
  have hgw : w.heap.size ≤ g := by omega
  have hXl : ∀ j, X j → j < g := fun j hj => by rw [← hg]; exact hX j hj
  have hsl := hi.len
  have hll := hi.links.len
  have hdn := hi.done
  have hs0 := stE.ext hs hx0
  go_enter Tryz.func10, Tryz.ntmps10
  go_upto_region 1 with fail
  generalize ((((w.alloc (.cells (stcells s (.slice Al s.links.length cl) (.slice As s.sess.length ca)).toArray 28)).alloc (.cells (ccells c) 37)).alloc (.cells #[.int .u64 0, .int .u64 0, .slice none 0 0, .slice none 0 0] 28)).alloc (.cells (acells ⟨0, []⟩).toArray 33)) = w1 at *
  try rw [hg]
  clear hg hs s3 s4
  have hXQ : ∀ j, XQ X g j → j < w1.heap.size := fun j hj => by
    have h1 := hA.lt
    rcases hj with h | h
    · have := hXl j h; omega
    · omega
  have b0 := (hB.cell 0).trans rfl
  have b1 := (hB.cell 1).trans rfl
  have b2 := (hB.cell 2).trans rfl
  have b3 := (hB.cell 3).trans rfl
  go_wp2_with fail
  have hw1A := hA.lt
  refine (stcopiedO_b (XQ X g) s _ w1 hXQ hs0 (by omega) (by omega) (fun x hx => by have := (hdn x hx).2; omega)).mono ?_
  rintro e W2 ⟨AL, cL, AS, cS, rfl, hr2, hFL, hFS, hx2⟩
  clear b0 b1 b2 b3
  have hB2 := hB.ext hx2
  have b0 := (hB2.cell 0).trans rfl
  have fb0 := hB2.frozen 0
  have b1 := (hB2.cell 1).trans rfl
  have fb1 := hB2.frozen 1
  have b2 := (hB2.cell 2).trans rfl
  have fb2 := hB2.frozen 2
  have b3 := (hB2.cell 3).trans rfl
  have fb3 := hB2.frozen 3
  go_upto_region 2 with fail
  have hcg : Chg [g] W2 _ := (Chg.refl [g] W2).four (g := g) (by simp) (.int .u64 s.now) (.int .u64 s.count) (.slice AL s.links.length cL) (.slice AS s.sess.length cS)
  have hB3 := Blk.four hB2 (.int .u64 s.now) (.int .u64 s.count) (.slice AL s.links.length cL) (.slice AS s.sess.length cS)
  have hr3 := stE.chg hr2 hcg (fun j hj _ => by have := List.mem_singleton.1 hj; exact .inr (by omega))
  replace hFL := hFL.chg hcg (fun k hk hm => by have := (hFL.lt k hk).1; simp at hm; omega)
  replace hFS := hFS.chg hcg (fun k hk hm => by have := (hFS.lt k hk).1; simp at hm; omega)
  replace hC := (hC.ext hx2).chg hcg (by simp)
  replace hR_ := (hR_.ext hx2).chg hcg (by simp; omega)
  replace hA := (hA.ext hx2).chg hcg (by simp; omega)
  have hxw := (hx0.trans' hx2).then_ hcg (by simpa using hgw)
  generalize ((((W2.setCell ⟨g, 0, none⟩ (.int .u64 s.now)).setCell ⟨g, 1, none⟩ (.int .u64 s.count)).setCell ⟨g, 2, none⟩ (.slice AL s.links.length cL)).setCell ⟨g, 3, none⟩ (.slice AS s.sess.length cS)) = W3 at *
  clear hcg hB2 hr2 hx2 hB hs0 hx0 b0 b1 b2 b3 fb0 fb1 fb2 fb3
  have hXQ3 : ∀ j, XQ X g j → j < W3.heap.size := fun j hj => by
    have h1 := hA.lt
    rcases hj with h | h
    · have := hXl j h; omega
    · omega
  have c0 := (hC.cell 0).trans rfl
  have b0 := (hB3.cell 0).trans rfl
  have b1 := (hB3.cell 1).trans rfl
  have b2 := (hB3.cell 2).trans rfl
  have b3 := (hB3.cell 3).trans rfl
  rcases Bool.eq_false_or_eq_true (c.kind == 0) with hk | hk
  · have HSA : Hid (sapply s c = (s, ⟨0, []⟩)) := hide (by unfold sapply; rw [if_pos (by simpa using hk)])
    have r_0 := (hR_.cell 0).trans rfl
    have r_1 := (hR_.cell 1).trans rfl
    have r_2 := (hR_.cell 2).trans rfl
    have r_3 := (hR_.cell 3).trans rfl
    have rf_0 := hR_.frozen 0
    have rf_1 := hR_.frozen 1
    have rf_2 := hR_.frozen 2
    have rf_3 := hR_.frozen 3
    have ra_0 := (hA.cell 0).trans rfl
    have ra_1 := (hA.cell 1).trans rfl
    have raf_0 := hA.frozen 0
    have raf_1 := hA.frozen 1
    obtain ⟨hF4, hF5, hFr, hFx⟩ := fin_do hR_ hA hxw hgw hr3 (e := 0) (tx := [])
    go_wp2
    try simp only [Exit.inBlock, Exit.then]
    refine bodyPost_ret (results_cell_cell rfl _ _ (g + 1 + 1) (g + 1 + 1 + 1) 28 33 #[.int .u64 s.now, .int .u64 s.count, .slice AL s.links.length cL, .slice AS s.sess.length cS] #[.int .i64 0, str []] (0, 0) (0, 0) _ _ rfl hF4 Tryz.underlying28 rfl (by kernel_rfl) rfl hF5 Tryz.underlying33 rfl (by kernel_rfl)) rfl ?_
    exact ⟨s, ⟨0, []⟩, _, _, _, _, hide HSA.out.symm, rfl, hFr, fin_fresh hFL hgw (by omega), fin_fresh hFS hgw (by omega), hFx⟩
  have HK := hide (show ¬ c.kind = 0 by simpa using hk)
  have c1 := (hC.cell 1).trans rfl
  have c2 := (hC.cell 2).trans rfl
  have c3 := (hC.cell 3).trans rfl
  have c4 := (hC.cell 4).trans rfl
  have c5 := (hC.cell 5).trans rfl
  have HAS := hide (sask_b s _ c W3 (stE.mono hr3 fun _ _ h => h.elim) hc hi.rise (by omega))
  obtain ⟨⟨a, q⟩, hask⟩ : ∃ r, ask s c.client c.seq = r := ⟨_, rfl⟩
  rw [hask] at HAS
  have HQ := hide hask
  clear hask
  go_wp2_with fail
  refine HAS.out.mono ?_
  rintro e W9 ⟨rfl, hx9⟩
  obtain ⟨g6, hg6⟩ : ∃ g_, W9.heap.size = g_ := ⟨_, rfl⟩
  have hN := Blk.new W9 33 #[.int .i64 a.err, str a.text]
  rw [hg6] at hN
  have hz : Ext W9 (W9.alloc (.cells #[.int .i64 a.err, str a.text] 33)) := (Ext.rfl' _).alloc' _
  go_upto_region 5 with fail
  try rw [hg6]
  have hg6l : g + 1 + 1 + 1 < g6 := by rw [← hg6]; have := hx9.size; have := hA.lt; omega
  clear hg6
  generalize (W9.alloc (.cells #[.int .i64 a.err, str a.text] 33)) = W4 at *
  have hx4 := hx9.trans' hz
  have hB4 := hB3.ext hx4
  have hN4 := hN
  have hr4 := stE.ext hr3 hx4
  replace hFL := hFL.ext hx4
  replace hFS := hFS.ext hx4
  replace hC := hC.ext hx4
  replace hR_ := hR_.ext hx4
  replace hA := hA.ext hx4
  replace hxw := hxw.trans' hx4
  clear hx9 hz hN hB3 hr3 c0 c1 c2 c3 c4 c5 b0 b1 b2 b3
  cases q with
  | true =>
    have HSA : Hid (sapply s c = (s, a)) := hide (by unfold sapply; rw [if_neg HK.out, HQ.out]; simp)
    go_upto_region 6 with fail
    refine Rg.regionX Tryz.checked.mixed 36 2 1 24 _ _ (by rfl) (by rfl) (by kernel_rfl) [
      (fun x_ _ => x_ = .agg #[.int .u64 s.now, .int .u64 s.count, .slice AL s.links.length cL, .slice AS s.sess.length cS]),
      (fun x_ _ => x_ = .agg #[.int .i64 a.err, str a.text])] (fun W => Ext W4 W) Ext rfl rfl rfl
      ?st ((Ext.rfl' W4).drew') ?ob ?en ?en2
    case st => exact ⟨fun _ _ _ h _ => h, fun _ _ _ h _ => h, trivial⟩
    case ob =>
      refine ⟨Rg.at_run [2] rfl ?_, ?_⟩
      · intro ρ W hR ⟨q2, _⟩
        replace q2 : ρ 2 = .pointer (some ⟨g, 0, none⟩) := q2
        refine ⟨rfl, ?_⟩
        have c0_ : W.cell? ⟨g, 0, none⟩ = some (.int .u64 s.now) := ((hB4.ext hR).cell 0).trans rfl
        have c1_ : W.cell? ⟨g, 1, none⟩ = some (.int .u64 s.count) := ((hB4.ext hR).cell 1).trans rfl
        have c2_ : W.cell? ⟨g, 2, none⟩ = some (.slice AL s.links.length cL) := ((hB4.ext hR).cell 2).trans rfl
        have c3_ : W.cell? ⟨g, 3, none⟩ = some (.slice AS s.sess.length cS) := ((hB4.ext hR).cell 3).trans rfl
        exact Rg.run_ok (v := .agg #[.int .u64 s.now, .int .u64 s.count, .slice AL s.links.length cL, .slice AS s.sess.length cS]) (by simp [execOp, Rg.ev, go_sem, q2, c0_, c1_, c2_, c3_]) ⟨rfl, hR, Ext.rfl' _⟩
      refine ⟨Rg.at_run [6] rfl ?_, ?_⟩
      · intro ρ W hR ⟨q6, _⟩
        replace q6 : ρ 6 = .pointer (some ⟨g6, 0, none⟩) := q6
        refine ⟨rfl, ?_⟩
        have c0_ : W.cell? ⟨g6, 0, none⟩ = some (.int .i64 a.err) := ((hN4.ext hR).cell 0).trans rfl
        have c1_ : W.cell? ⟨g6, 1, none⟩ = some (str a.text) := ((hN4.ext hR).cell 1).trans rfl
        exact Rg.run_ok (v := .agg #[.int .i64 a.err, str a.text]) (by simp [execOp, Rg.ev, go_sem, q6, c0_, c1_]) ⟨rfl, hR, Ext.rfl' _⟩
      trivial
    case en =>
      intro tm W hR hsz hk
      rw [Rg.fin_eq (ds := [23, 24]) rfl rfl rfl hsz hk]
      have k23 : tm.getD 23 undef = .agg #[.int .u64 s.now, .int .u64 s.count, .slice AL s.links.length cL, .slice AS s.sess.length cS] := hk 23
      have k24 : tm.getD 24 undef = .agg #[.int .i64 a.err, str a.text] := hk 24
      clear hk hsz
      simp only [Rg.putAll, List.setIfInBounds_toArray, List.set_cons_zero, List.set_cons_succ, k23, k24]
      clear k23
      clear k24
      replace hFL := hFL.ext hR
      replace hFS := hFS.ext hR
      replace hR_ := hR_.ext hR
      replace hA := hA.ext hR
      replace hr4 := stE.ext hr4 hR
      replace hxw := hxw.trans' hR
      replace hN4 := hN4.ext hR
      have r_0 := (hR_.cell 0).trans rfl
      have r_1 := (hR_.cell 1).trans rfl
      have r_2 := (hR_.cell 2).trans rfl
      have r_3 := (hR_.cell 3).trans rfl
      have rf_0 := hR_.frozen 0
      have rf_1 := hR_.frozen 1
      have rf_2 := hR_.frozen 2
      have rf_3 := hR_.frozen 3
      have ra_0 := (hA.cell 0).trans rfl
      have ra_1 := (hA.cell 1).trans rfl
      have raf_0 := hA.frozen 0
      have raf_1 := hA.frozen 1
      obtain ⟨hF4, hF5, hFr, hFx⟩ := fin_do hR_ hA hxw hgw hr4 (e := a.err) (tx := a.text)
      go_wp2
      try simp only [Exit.inBlock, Exit.then]
      refine bodyPost_ret (results_cell_cell rfl _ _ (g + 1 + 1) (g + 1 + 1 + 1) 28 33 #[.int .u64 s.now, .int .u64 s.count, .slice AL s.links.length cL, .slice AS s.sess.length cS] #[.int .i64 (a.err), str (a.text)] (0, 0) (0, 0) _ _ rfl hF4 Tryz.underlying28 rfl (by kernel_rfl) rfl hF5 Tryz.underlying33 rfl (by kernel_rfl)) rfl ?_
      exact ⟨s, a, _, _, _, _, hide (HSA.out.symm), rfl, hFr, fin_fresh hFL hgw (by omega), fin_fresh hFS hgw (by omega), hFx⟩
    case en2 =>
      intro tm W hR hsz hk
      rw [Rg.fin_eqX (ds := [23, 24]) rfl (by decide) rfl rfl hsz hk]
      have k23 : tm.getD 23 undef = .agg #[.int .u64 s.now, .int .u64 s.count, .slice AL s.links.length cL, .slice AS s.sess.length cS] := hk 23
      clear hk hsz
      simp only [Rg.putAll, List.setIfInBounds_toArray, List.set_cons_zero, List.set_cons_succ, k23]
      clear k23
      generalize tm.getD 24 undef = u24 at *
      simp only [List.drop_succ_cons, List.drop_zero]
      replace hFL := hFL.ext hR
      replace hFS := hFS.ext hR
      replace hR_ := hR_.ext hR
      replace hA := hA.ext hR
      replace hr4 := stE.ext hr4 hR
      replace hxw := hxw.trans' hR
      replace hN4 := hN4.ext hR
      have n0_ := (((hN4.chg ((Chg.refl [g + 1 + 1] _).four (g := g + 1 + 1) (by simp) (.int .u64 s.now) (.int .u64 s.count) (.slice AL s.links.length cL) (.slice AS s.sess.length cS)) (by simp; omega))).cell 0).trans rfl
      have n1_ := (((hN4.chg ((Chg.refl [g + 1 + 1] _).four (g := g + 1 + 1) (by simp) (.int .u64 s.now) (.int .u64 s.count) (.slice AL s.links.length cL) (.slice AS s.sess.length cS)) (by simp; omega))).cell 1).trans rfl
      have r_0 := (hR_.cell 0).trans rfl
      have r_1 := (hR_.cell 1).trans rfl
      have r_2 := (hR_.cell 2).trans rfl
      have r_3 := (hR_.cell 3).trans rfl
      have rf_0 := hR_.frozen 0
      have rf_1 := hR_.frozen 1
      have rf_2 := hR_.frozen 2
      have rf_3 := hR_.frozen 3
      have ra_0 := (hA.cell 0).trans rfl
      have ra_1 := (hA.cell 1).trans rfl
      have raf_0 := hA.frozen 0
      have raf_1 := hA.frozen 1
      obtain ⟨hF4, hF5, hFr, hFx⟩ := fin_do hR_ hA hxw hgw hr4 (e := a.err) (tx := a.text)
      go_wp2
      try simp only [Exit.inBlock, Exit.then]
      refine bodyPost_ret (results_cell_cell rfl _ _ (g + 1 + 1) (g + 1 + 1 + 1) 28 33 #[.int .u64 s.now, .int .u64 s.count, .slice AL s.links.length cL, .slice AS s.sess.length cS] #[.int .i64 (a.err), str (a.text)] (0, 0) (0, 0) _ _ rfl hF4 Tryz.underlying28 rfl (by kernel_rfl) rfl hF5 Tryz.underlying33 rfl (by kernel_rfl)) rfl ?_
      exact ⟨s, a, _, _, _, _, hide (HSA.out.symm), rfl, hFr, fin_fresh hFL hgw (by omega), fin_fresh hFS hgw (by omega), hFx⟩
  | false =>
    clear hFL hFS
    have hXQ4 : ∀ j, XQ X g j → j < W4.heap.size := fun j hj => by
      have h1 := hA.lt
      rcases hj with h | h
      · have := hXl j h; omega
      · omega
    have HLD := hide (fun (W : World) (hx : Ext W4 W) => ldo_b (XQ X g) s _ c W (fun j hj => Nat.lt_of_lt_of_le (hXQ4 j hj) hx.size) (stE.ext hr4 hx) hc hcu hcn hi.links.rise (by omega) (fun h => hi.links.fresh h) (by omega) (fun x hx => by have := (hdn x hx).2; omega))
    rw [ldoK_eq hi.links c] at HLD
    have b0 := (hB4.cell 0).trans rfl
    have b1 := (hB4.cell 1).trans rfl
    have b2 := (hB4.cell 2).trans rfl
    have b3 := (hB4.cell 3).trans rfl
    have c0 := (hC.cell 0).trans rfl
    have c1 := (hC.cell 1).trans rfl
    have c2 := (hC.cell 2).trans rfl
    have c3 := (hC.cell 3).trans rfl
    have c4 := (hC.cell 4).trans rfl
    have c5 := (hC.cell 5).trans rfl
    go_wp2_with fail
    refine (HLD.out W4 (Ext.rfl' _)).mono ?_
    rintro e W5 ⟨cs5, t, a, hta, rfl, hr5, hx5⟩
    obtain ⟨vl5, vs5, rfl, -, -, l5, m5⟩ := st_rep.1 hr5
    obtain ⟨A5, c5_, rfl, -, -⟩ := l5.form
    obtain ⟨B5, d5, rfl, -, -⟩ := m5.form
    clear l5 m5 b0 b1 b2 b3 c0 c1 c2 c3 c4 c5
    have hB5 := (hB4.ext hx5).alloc (.cells #[.int .i64 0, str []] 33)
    have hN5 := Blk.new W5 33 #[.int .i64 0, str []]
    have b0 := (hB5.cell 0).trans rfl
    have fb0 := hB5.frozen 0
    have b1 := (hB5.cell 1).trans rfl
    have fb1 := hB5.frozen 1
    have b2 := (hB5.cell 2).trans rfl
    have fb2 := hB5.frozen 2
    have b3 := (hB5.cell 3).trans rfl
    have fb3 := hB5.frozen 3
    obtain ⟨g8, hg8⟩ : ∃ g_, W5.heap.size = g_ := ⟨_, rfl⟩
    have hg8l : g + 1 + 1 + 1 < g8 := by rw [← hg8]; have := hx5.size; have := hA.lt; omega
    rw [hg8] at hN5
    have n0 := (hN5.cell 0).trans rfl
    have n1 := (hN5.cell 1).trans rfl
    have nf0 := hN5.frozen 0
    have nf1 := hN5.frozen 1
    go_upto_region 8 with fail
    have hxa : Ext W5 (W5.alloc (.cells #[.int .i64 0, str []] 33)) := (Ext.rfl' _).alloc' _
    have hcg : Chg [g] (W5.alloc (.cells #[.int .i64 0, str []] 33)) _ := (Chg.refl [g] _).four (g := g) (by simp) (.int .u64 t.now) (.int .u64 t.count) (.slice A5 t.links.length c5_) (.slice B5 t.sess.length d5)
    have hcg2 : Chg [g8] _ _ := (Chg.refl [g8] (((((W5.alloc (.cells #[.int .i64 0, str []] 33)).setCell ⟨g, 0, none⟩ (.int .u64 t.now)).setCell ⟨g, 1, none⟩ (.int .u64 t.count)).setCell ⟨g, 2, none⟩ (.slice A5 t.links.length c5_)).setCell ⟨g, 3, none⟩ (.slice B5 t.sess.length d5))).two_ (g := g8) (by simp) (.int .i64 a.err) (str a.text)
    have hB6 := (Blk.four hB5 (.int .u64 t.now) (.int .u64 t.count) (.slice A5 t.links.length c5_) (.slice B5 t.sess.length d5)).chg hcg2 (by simp; omega)
    have hN6 := Blk.two_ (hN5.chg hcg (by simp; omega)) (.int .i64 a.err) (str a.text)
    have hr6 : stE.rep _ (XQ X g) [.int .u64 t.now, .int .u64 t.count, .slice A5 t.links.length c5_, .slice B5 t.sess.length d5] t := stE.mono (stE.chg (stE.chg (stE.ext (stE.mono hr5 (Y := fun j => XQ X g j ∨ j = g8) (fun j hj h => h.elim id fun h => by omega)) hxa) hcg (fun j hj _ => by have := List.mem_singleton.1 hj; exact .inl (.inr (by omega)))) hcg2 (fun j hj _ => .inr (List.mem_singleton.1 hj))) (fun _ _ h => .inl h)
    have hC6 := (((hC.ext hx5).ext hxa).chg hcg (by simp)).chg hcg2 (by simp; omega)
    replace hR_ := (((hR_.ext hx5).ext hxa).chg hcg (by simp; omega)).chg hcg2 (by simp; omega)
    replace hA := (((hA.ext hx5).ext hxa).chg hcg (by simp; omega)).chg hcg2 (by simp; omega)
    replace hxw := (((hxw.trans' hx5).trans' hxa).then_ hcg (by simp; omega)).then_ hcg2 (by simp; omega)
    generalize (((((((W5.alloc (.cells #[.int .i64 0, str []] 33)).setCell ⟨g, 0, none⟩ (.int .u64 t.now)).setCell ⟨g, 1, none⟩ (.int .u64 t.count)).setCell ⟨g, 2, none⟩ (.slice A5 t.links.length c5_)).setCell ⟨g, 3, none⟩ (.slice B5 t.sess.length d5)).setCell ⟨g8, 0, none⟩ (.int .i64 a.err)).setCell ⟨g8, 1, none⟩ (str a.text)) = W6 at *
    have hAl6 := hA.lt
    clear hcg hcg2 hxa hB5 hN5 hr5 n0 n1 nf0 nf1 b0 b1 b2 b3 fb0 fb1 fb2 fb3 HLD hr4 hB4 hN4 hx5 hXQ4 hx4
    have hts : t.sess = s.sess := by have := ldo_sess s c; rw [← hta.out] at this; exact this
    have hti : LInv t := by have := hi.links.step (c := c) hc.t0; rw [← hta.out] at this; exact this
    have han := ldo_an hi.links (c := c) hcn
    rw [← hta.out] at han
    simp only at han
    have hkq : Hid (sapply s c = (keep t c.client c.seq a, a)) := hide (by unfold sapply; rw [if_neg HK.out, HQ.out, ← hta.out]; rfl)
    have hkl := hti.len
    have HKP := hide (fun (W : World) (hx : Ext W6 W) => KX.skeepXO_b (XQ X g) t _ c a W (fun j hj => Nat.lt_of_lt_of_le (by
      have h1 := hA.lt
      rcases hj with h | h
      · have := hXl j h; omega
      · omega) hx.size) (stE.ext hr6 hx) hc ⟨⟨by omega, by omega⟩, by have := han.1; simp [maxLen]; omega⟩ (by rw [hts]; exact hi.rise) (by rw [hts]; omega) (by omega) (by rw [hts]; exact fun x hx => ⟨(hdn x hx).1, by have := (hdn x hx).2; omega⟩))
    clear hts hti han
    obtain ⟨K, hK⟩ : ∃ K, keep t c.client c.seq a = K := ⟨_, rfl⟩
    rw [hK] at hkq HKP
    clear hK
    refine Rg.regionX Tryz.checked.mixed 36 5 4 35 _ _ (by rfl) (by rfl) (by kernel_rfl) [
      (fun x_ _ => x_ = .agg #[.int .u64 t.now, .int .u64 t.count, .slice A5 t.links.length c5_, .slice B5 t.sess.length d5]),
      (fun x_ _ => x_ = .agg #[.int .i64 c.kind, .int .i64 c.client, .int .u64 c.seq, str c.name, str c.url, .int .u64 c.till]),
      (fun x_ _ => x_ = .agg #[.int .i64 a.err, str a.text]),
      (fun v W => ∃ A9 c9 B9 d9, v = .agg #[.int .u64 K.now, .int .u64 K.count, .slice A9 K.links.length c9, .slice B9 K.sess.length d9] ∧ stE.rep W (XQ X g) [.int .u64 K.now, .int .u64 K.count, .slice A9 K.links.length c9, .slice B9 K.sess.length d9] K ∧ Fresh 53 4 W6 W (.slice A9 K.links.length c9) K.links.length ∧ Fresh 56 3 W6 W (.slice B9 K.sess.length d9) K.sess.length),
      (fun x_ _ => x_ = .agg #[.int .i64 a.err, str a.text])] (fun W => Ext W6 W) Ext rfl rfl rfl
      ?st ((Ext.rfl' W6).drew') ?ob ?en ?en2
    case st => exact ⟨fun _ _ _ h _ => h, fun _ _ _ h _ => h, fun _ _ _ h _ => h, fun _ _ _ ⟨a1_, a2_, a3_, a4_, h1_, h2_, h3_, h4_⟩ hx => ⟨a1_, a2_, a3_, a4_, h1_, stE.ext h2_ hx, h3_.ext hx, h4_.ext hx⟩, fun _ _ _ h _ => h, trivial⟩
    case ob =>
      refine ⟨Rg.at_run [2] rfl ?_, ?_⟩
      · intro ρ W hR ⟨q2, _⟩
        replace q2 : ρ 2 = .pointer (some ⟨g, 0, none⟩) := q2
        refine ⟨rfl, ?_⟩
        have c0_ : W.cell? ⟨g, 0, none⟩ = some (.int .u64 t.now) := ((hB6.ext hR).cell 0).trans rfl
        have c1_ : W.cell? ⟨g, 1, none⟩ = some (.int .u64 t.count) := ((hB6.ext hR).cell 1).trans rfl
        have c2_ : W.cell? ⟨g, 2, none⟩ = some (.slice A5 t.links.length c5_) := ((hB6.ext hR).cell 2).trans rfl
        have c3_ : W.cell? ⟨g, 3, none⟩ = some (.slice B5 t.sess.length d5) := ((hB6.ext hR).cell 3).trans rfl
        exact Rg.run_ok (v := .agg #[.int .u64 t.now, .int .u64 t.count, .slice A5 t.links.length c5_, .slice B5 t.sess.length d5]) (by simp [execOp, Rg.ev, go_sem, q2, c0_, c1_, c2_, c3_]) ⟨rfl, hR, Ext.rfl' _⟩
      refine ⟨Rg.at_run [3] rfl ?_, ?_⟩
      · intro ρ W hR ⟨q3, _⟩
        replace q3 : ρ 3 = .pointer (some ⟨g + 1, 0, none⟩) := q3
        refine ⟨rfl, ?_⟩
        have c0_ : W.cell? ⟨g + 1, 0, none⟩ = some (.int .i64 c.kind) := ((hC6.ext hR).cell 0).trans rfl
        have c1_ : W.cell? ⟨g + 1, 1, none⟩ = some (.int .i64 c.client) := ((hC6.ext hR).cell 1).trans rfl
        have c2_ : W.cell? ⟨g + 1, 2, none⟩ = some (.int .u64 c.seq) := ((hC6.ext hR).cell 2).trans rfl
        have c3_ : W.cell? ⟨g + 1, 3, none⟩ = some (str c.name) := ((hC6.ext hR).cell 3).trans rfl
        have c4_ : W.cell? ⟨g + 1, 4, none⟩ = some (str c.url) := ((hC6.ext hR).cell 4).trans rfl
        have c5_ : W.cell? ⟨g + 1, 5, none⟩ = some (.int .u64 c.till) := ((hC6.ext hR).cell 5).trans rfl
        exact Rg.run_ok (v := .agg #[.int .i64 c.kind, .int .i64 c.client, .int .u64 c.seq, str c.name, str c.url, .int .u64 c.till]) (by simp [execOp, Rg.ev, go_sem, q3, c0_, c1_, c2_, c3_, c4_, c5_]) ⟨rfl, hR, Ext.rfl' _⟩
      refine ⟨Rg.at_run [8] rfl ?_, ?_⟩
      · intro ρ W hR ⟨q8, _⟩
        replace q8 : ρ 8 = .pointer (some ⟨g8, 0, none⟩) := q8
        refine ⟨rfl, ?_⟩
        have c0_ : W.cell? ⟨g8, 0, none⟩ = some (.int .i64 a.err) := ((hN6.ext hR).cell 0).trans rfl
        have c1_ : W.cell? ⟨g8, 1, none⟩ = some (str a.text) := ((hN6.ext hR).cell 1).trans rfl
        exact Rg.run_ok (v := .agg #[.int .i64 a.err, str a.text]) (by simp [execOp, Rg.ev, go_sem, q8, c0_, c1_]) ⟨rfl, hR, Ext.rfl' _⟩
      refine ⟨Rg.at_run [31, 32, 33] rfl ?_, ?_⟩
      · intro ρ W hR ⟨q31, q32, q33, _⟩
        replace q31 : ρ 31 = .agg #[.int .u64 t.now, .int .u64 t.count, .slice A5 t.links.length c5_, .slice B5 t.sess.length d5] := q31
        replace q32 : ρ 32 = .agg #[.int .i64 c.kind, .int .i64 c.client, .int .u64 c.seq, str c.name, str c.url, .int .u64 c.till] := q32
        replace q33 : ρ 33 = .agg #[.int .i64 a.err, str a.text] := q33
        refine ⟨rfl, ?_⟩
        refine Rg.enter_fn (args := #[.agg #[.int .u64 t.now, .int .u64 t.count, .slice A5 t.links.length c5_, .slice B5 t.sess.length d5], .agg #[.int .i64 c.kind, .int .i64 c.client, .int .u64 c.seq, str c.name, str c.url, .int .u64 c.till], .agg #[.int .i64 a.err, str a.text]]) rfl (by simp only [List.map_toArray, List.map_cons, List.map_nil, Rg.ev, q31, q32, q33]) (by kernel_rfl) ?_
        refine (HKP.out W hR).mono ?_
        rintro e_ w9 ⟨A9, c9, B9, d9, rfl, hr9, hfl9, hfs9, hxx⟩
        exact ⟨_, rfl, ⟨A9, c9, B9, d9, rfl, hr9, hfl9.base hR.size, hfs9.base hR.size⟩, hR.trans' hxx, hxx⟩
      refine ⟨Rg.at_run [8] rfl ?_, ?_⟩
      · intro ρ W hR ⟨q8, _⟩
        replace q8 : ρ 8 = .pointer (some ⟨g8, 0, none⟩) := q8
        refine ⟨rfl, ?_⟩
        have c0_ : W.cell? ⟨g8, 0, none⟩ = some (.int .i64 a.err) := ((hN6.ext hR).cell 0).trans rfl
        have c1_ : W.cell? ⟨g8, 1, none⟩ = some (str a.text) := ((hN6.ext hR).cell 1).trans rfl
        exact Rg.run_ok (v := .agg #[.int .i64 a.err, str a.text]) (by simp [execOp, Rg.ev, go_sem, q8, c0_, c1_]) ⟨rfl, hR, Ext.rfl' _⟩
      trivial
    case en =>
      intro tm W hR hsz hk
      rw [Rg.fin_eq (ds := [31, 32, 33, 34, 35]) rfl rfl rfl hsz hk]
      have k31 : tm.getD 31 undef = .agg #[.int .u64 t.now, .int .u64 t.count, .slice A5 t.links.length c5_, .slice B5 t.sess.length d5] := hk 31
      have k32 : tm.getD 32 undef = .agg #[.int .i64 c.kind, .int .i64 c.client, .int .u64 c.seq, str c.name, str c.url, .int .u64 c.till] := hk 32
      have k33 : tm.getD 33 undef = .agg #[.int .i64 a.err, str a.text] := hk 33
      have k34 : (fun v W => ∃ A9 c9 B9 d9, v = .agg #[.int .u64 K.now, .int .u64 K.count, .slice A9 K.links.length c9, .slice B9 K.sess.length d9] ∧ stE.rep W (XQ X g) [.int .u64 K.now, .int .u64 K.count, .slice A9 K.links.length c9, .slice B9 K.sess.length d9] K ∧ Fresh 53 4 W6 W (.slice A9 K.links.length c9) K.links.length ∧ Fresh 56 3 W6 W (.slice B9 K.sess.length d9) K.sess.length) (tm.getD 34 undef) W := hk 34
      have k35 : tm.getD 35 undef = .agg #[.int .i64 a.err, str a.text] := hk 35
      clear hk hsz
      simp only [Rg.putAll, List.setIfInBounds_toArray, List.set_cons_zero, List.set_cons_succ, k31, k32, k33, k35]
      clear k31
      clear k32
      clear k33
      generalize tm.getD 34 undef = u34 at *
      clear k35
      obtain ⟨A9, c9, B9, d9, rfl, hr9, hfl9, hfs9⟩ := k34
      have hgW6 : g + 1 + 1 + 1 < W6.heap.size := hAl6
      have hwW6 : w.heap.size ≤ W6.heap.size := by omega
      replace hR_ := hR_.ext hR
      replace hA := hA.ext hR
      replace hxw := hxw.trans' hR
      replace hN6 := hN6.ext hR
      have r_0 := (hR_.cell 0).trans rfl
      have r_1 := (hR_.cell 1).trans rfl
      have r_2 := (hR_.cell 2).trans rfl
      have r_3 := (hR_.cell 3).trans rfl
      have rf_0 := hR_.frozen 0
      have rf_1 := hR_.frozen 1
      have rf_2 := hR_.frozen 2
      have rf_3 := hR_.frozen 3
      have ra_0 := (hA.cell 0).trans rfl
      have ra_1 := (hA.cell 1).trans rfl
      have raf_0 := hA.frozen 0
      have raf_1 := hA.frozen 1
      obtain ⟨hF4, hF5, hFr, hFx⟩ := fin_do hR_ hA hxw hgw hr9 (e := a.err) (tx := a.text)
      go_wp2
      try simp only [Exit.inBlock, Exit.then]
      refine bodyPost_ret (results_cell_cell rfl _ _ (g + 1 + 1) (g + 1 + 1 + 1) 28 33 #[.int .u64 K.now, .int .u64 K.count, .slice A9 K.links.length c9, .slice B9 K.sess.length d9] #[.int .i64 (a.err), str (a.text)] (0, 0) (0, 0) _ _ rfl hF4 Tryz.underlying28 rfl (by kernel_rfl) rfl hF5 Tryz.underlying33 rfl (by kernel_rfl)) rfl ?_
      exact ⟨K, a, _, _, _, _, hide (hkq.out.symm), rfl, hFr, fin_fresh hfl9 hgw (by omega), fin_fresh hfs9 hgw (by omega), hFx⟩
    case en2 =>
      intro tm W hR hsz hk
      rw [Rg.fin_eqX (ds := [31, 32, 33, 34, 35]) rfl (by decide) rfl rfl hsz hk]
      have k31 : tm.getD 31 undef = .agg #[.int .u64 t.now, .int .u64 t.count, .slice A5 t.links.length c5_, .slice B5 t.sess.length d5] := hk 31
      have k32 : tm.getD 32 undef = .agg #[.int .i64 c.kind, .int .i64 c.client, .int .u64 c.seq, str c.name, str c.url, .int .u64 c.till] := hk 32
      have k33 : tm.getD 33 undef = .agg #[.int .i64 a.err, str a.text] := hk 33
      have k34 : (fun v W => ∃ A9 c9 B9 d9, v = .agg #[.int .u64 K.now, .int .u64 K.count, .slice A9 K.links.length c9, .slice B9 K.sess.length d9] ∧ stE.rep W (XQ X g) [.int .u64 K.now, .int .u64 K.count, .slice A9 K.links.length c9, .slice B9 K.sess.length d9] K ∧ Fresh 53 4 W6 W (.slice A9 K.links.length c9) K.links.length ∧ Fresh 56 3 W6 W (.slice B9 K.sess.length d9) K.sess.length) (tm.getD 34 undef) W := hk 34
      clear hk hsz
      simp only [Rg.putAll, List.setIfInBounds_toArray, List.set_cons_zero, List.set_cons_succ, k31, k32, k33]
      clear k31
      clear k32
      clear k33
      generalize tm.getD 34 undef = u34 at *
      generalize tm.getD 35 undef = u35 at *
      simp only [List.drop_succ_cons, List.drop_zero]
      obtain ⟨A9, c9, B9, d9, rfl, hr9, hfl9, hfs9⟩ := k34
      have hgW6 : g + 1 + 1 + 1 < W6.heap.size := hAl6
      have hwW6 : w.heap.size ≤ W6.heap.size := by omega
      replace hR_ := hR_.ext hR
      replace hA := hA.ext hR
      replace hxw := hxw.trans' hR
      replace hN6 := hN6.ext hR
      have n0_ := (((hN6.chg ((Chg.refl [g + 1 + 1] _).four (g := g + 1 + 1) (by simp) (.int .u64 K.now) (.int .u64 K.count) (.slice A9 K.links.length c9) (.slice B9 K.sess.length d9)) (by simp; omega))).cell 0).trans rfl
      have n1_ := (((hN6.chg ((Chg.refl [g + 1 + 1] _).four (g := g + 1 + 1) (by simp) (.int .u64 K.now) (.int .u64 K.count) (.slice A9 K.links.length c9) (.slice B9 K.sess.length d9)) (by simp; omega))).cell 1).trans rfl
      have r_0 := (hR_.cell 0).trans rfl
      have r_1 := (hR_.cell 1).trans rfl
      have r_2 := (hR_.cell 2).trans rfl
      have r_3 := (hR_.cell 3).trans rfl
      have rf_0 := hR_.frozen 0
      have rf_1 := hR_.frozen 1
      have rf_2 := hR_.frozen 2
      have rf_3 := hR_.frozen 3
      have ra_0 := (hA.cell 0).trans rfl
      have ra_1 := (hA.cell 1).trans rfl
      have raf_0 := hA.frozen 0
      have raf_1 := hA.frozen 1
      obtain ⟨hF4, hF5, hFr, hFx⟩ := fin_do hR_ hA hxw hgw hr9 (e := a.err) (tx := a.text)
      go_wp2
      try simp only [Exit.inBlock, Exit.then]
      refine bodyPost_ret (results_cell_cell rfl _ _ (g + 1 + 1) (g + 1 + 1 + 1) 28 33 #[.int .u64 K.now, .int .u64 K.count, .slice A9 K.links.length c9, .slice B9 K.sess.length d9] #[.int .i64 (a.err), str (a.text)] (0, 0) (0, 0) _ _ rfl hF4 Tryz.underlying28 rfl (by kernel_rfl) rfl hF5 Tryz.underlying33 rfl (by kernel_rfl)) rfl ?_
      exact ⟨K, a, _, _, _, _, hide (hkq.out.symm), rfl, hFr, fin_fresh hfl9 hgw (by omega), fin_fresh hfs9 hgw (by omega), hFx⟩
theorem sapply_b (X : Avoid) (s : St) (cs : List Value) (c : Cm) (w : World) (hX : ∀ j, X j → j < w.heap.size) (hs : stE.rep w noneAt cs s) (hi : SInv s) (hc : c.wide) (hcu : c.url.length ≤ 1000000) (hcn : c.name.length ≤ 1000000) :
    Calls Tryz.prog 10 #[.agg cs.toArray, cv c] w fun e w' => RetDo X w w' e (sapply s c) := (sapplyO_b X s cs c w hX hs hi hc hcu hcn).mono fun _ _ h => h.do_
end Go.Proofs.YtamimdlaclglkaaGreat
