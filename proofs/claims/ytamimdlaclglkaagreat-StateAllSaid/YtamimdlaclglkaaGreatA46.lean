/- A part of the proof of 'StateAll'. -/
import Derived.Test.YtamimdlaclglkaaGreatA37
import Derived.Test.YtamimdlaclglkaaGreatA41
import Derived.Test.YtamimdlaclglkaaGreatA42
import Derived.Test.YtamimdlaclglkaaGreatA45
import Derived.Test.YtamimdlaclglkaaGreatA31
namespace Go.Proofs.YtamimdlaclglkaaGreat
set_option linter.unusedVariables false
set_option linter.unusedSimpArgs false
set_option linter.unnecessarySimpa false
set_option maxRecDepth 100000
open Go.RowKit
theorem fin_doS {w W : World} {g : Nat} {s : St} {v0 v1 v2 v3 : Value} {e : Int} {tx : Bytes} (hR : Blk W (g + 1 + 1) 28 #[.int .u64 0, .int .u64 0, .slice none 0 0, .slice none 0 0]) (hA : Blk W (g + 1 + 1 + 1) 33 #[.int .i64 0, str []])
  (hx : Ext w W) (hg : w.heap.size ≤ g) (hr0 : stE.rep W noneAt [v0, v1, v2, v3] s) :
  Blk ((((((W.setCell ⟨g + 1 + 1, 0, none⟩ v0).setCell ⟨g + 1 + 1, 1, none⟩ v1).setCell ⟨g + 1 + 1, 2, none⟩ v2).setCell ⟨g + 1 + 1, 3, none⟩ v3).setCell ⟨g + 1 + 1 + 1, 0, none⟩ (.int .i64 e)).setCell ⟨g + 1 + 1 + 1, 1, none⟩ (str tx)) (g + 1 + 1) 28 #[v0, v1, v2, v3] ∧
  Blk ((((((W.setCell ⟨g + 1 + 1, 0, none⟩ v0).setCell ⟨g + 1 + 1, 1, none⟩ v1).setCell ⟨g + 1 + 1, 2, none⟩ v2).setCell ⟨g + 1 + 1, 3, none⟩ v3).setCell ⟨g + 1 + 1 + 1, 0, none⟩ (.int .i64 e)).setCell ⟨g + 1 + 1 + 1, 1, none⟩ (str tx)) (g + 1 + 1 + 1) 33 #[.int .i64 e, str tx] ∧
  stE.rep ((((((W.setCell ⟨g + 1 + 1, 0, none⟩ v0).setCell ⟨g + 1 + 1, 1, none⟩ v1).setCell ⟨g + 1 + 1, 2, none⟩ v2).setCell ⟨g + 1 + 1, 3, none⟩ v3).setCell ⟨g + 1 + 1 + 1, 0, none⟩ (.int .i64 e)).setCell ⟨g + 1 + 1 + 1, 1, none⟩ (str tx)) noneAt [v0, v1, v2, v3] s ∧
  Ext w ((((((W.setCell ⟨g + 1 + 1, 0, none⟩ v0).setCell ⟨g + 1 + 1, 1, none⟩ v1).setCell ⟨g + 1 + 1, 2, none⟩ v2).setCell ⟨g + 1 + 1, 3, none⟩ v3).setCell ⟨g + 1 + 1 + 1, 0, none⟩ (.int .i64 e)).setCell ⟨g + 1 + 1 + 1, 1, none⟩ (str tx)) := by
 have hr := st_apartS (st_apartS hr0 hR nos4) hA (nos2 0 [])
 have h1 := Blk.four hR v0 v1 v2 v3
 have hcg : Chg [g + 1 + 1] W _ := (Chg.refl [g + 1 + 1] W).four (g := g + 1 + 1) (by simp) v0 v1 v2 v3
 have h2 := Blk.two_ (hA.chg hcg (by simp)) (.int .i64 e) (str tx)
 have hc2 : Chg [g + 1 + 1 + 1] _ _ := (Chg.refl [g + 1 + 1 + 1] ((((W.setCell ⟨g + 1 + 1, 0, none⟩ v0).setCell ⟨g + 1 + 1, 1, none⟩ v1).setCell ⟨g + 1 + 1, 2, none⟩ v2).setCell ⟨g + 1 + 1, 3, none⟩ v3)).two_ (g := g + 1 + 1 + 1) (by simp) (.int .i64 e) (str tx)
 exact ⟨h1.chg hc2 (by simp), h2, stE.mono (stE.chg (stE.chg hr hcg (fun j hj _ => by have := List.mem_singleton.1 hj; exact .inl (.inr (by omega)))) hc2 (fun j hj _ => by have := List.mem_singleton.1 hj; exact .inr (by omega))) (fun _ _ h => h.elim), (hx.then_ hcg (by simp; omega)).then_ hc2 (by simp; omega)⟩
set_option maxHeartbeats 12800000 in
theorem rapply_b (s : St) (AL : Option Addr) (cL : Nat) (AS : Option Addr) (cS : Nat) (c : Cm) (w : World) (hs : stE.rep w noneAt [.int .u64 s.now, .int .u64 s.count, .slice AL s.links.length cL, .slice AS s.sess.length cS] s) (hi : SInv s) (hc : c.wide) (hcu : c.url.length ≤ 1000000) (hcn : c.name.length ≤ 1000000) :
  Calls Tryz.prog 11 #[.agg #[.int .u64 s.now, .int .u64 s.count, .slice AL s.links.length cL, .slice AS s.sess.length cS], cv c] w fun e w' => RetDo noneAt w w' e (sapply s c) := by
 obtain ⟨hB, hC, hR_, hA, hxw⟩ := four_al w 28 37 28 33 #[.int .u64 s.now, .int .u64 s.count, .slice AL s.links.length cL, .slice AS s.sess.length cS] (ccells c) #[.int .u64 0, .int .u64 0, .slice none 0 0, .slice none 0 0] #[.int .i64 0, str []]
 obtain ⟨g, hg⟩ : ∃ g, w.heap.size = g := ⟨_, rfl⟩
 rw [hg] at hB hC hR_ hA
 have hgw : w.heap.size ≤ g := by omega
 have hsl := hi.len
 have hll := hi.links.len
 have hdn := hi.done
 have hrq := stE.ext (stE.mono hs (Y := XQ noneAt g) fun k hk h => h.elim id fun h => by omega) hxw
 go_enter Tryz.func11, Tryz.ntmps11
 go_upto_region 1 with fail
 generalize ((((w.alloc (.cells #[.int .u64 s.now, .int .u64 s.count, .slice AL s.links.length cL, .slice AS s.sess.length cS] 28)).alloc (.cells (ccells c) 37)).alloc (.cells #[.int .u64 0, .int .u64 0, .slice none 0 0, .slice none 0 0] 28)).alloc (.cells #[.int .i64 0, str []] 33)) = W3 at *
 try rw [hg]
 clear hg hs
 have hXd : ∀ W, Ext W3 W → ∀ k, XQ noneAt g k → k < W.heap.size := fun W hx k hk => Nat.lt_of_lt_of_le (hk.elim (fun h => h.elim) fun h => by have := hA.lt; omega) hx.size
 have c0 := (hC.cell 0).trans rfl
 have b0 := (hB.cell 0).trans rfl
 have b1 := (hB.cell 1).trans rfl
 have b2 := (hB.cell 2).trans rfl
 have b3 := (hB.cell 3).trans rfl
 rcases Bool.eq_false_or_eq_true (c.kind == 0) with hk | hk
 ·have HSA : Hid (sapply s c = (s, ⟨0, []⟩)) := hide (by unfold sapply; rw [if_pos (by simpa using hk)])
  have hr3 := stE.mono hrq (Y := noneAt) (fun _ _ h => h.elim)
  have r_0 := (hR_.cell 0).trans rfl
  have r_1 := (hR_.cell 1).trans rfl
  have r_2 := (hR_.cell 2).trans rfl
  have r_3 := (hR_.cell 3).trans rfl
  have rf_0 := hR_.frozen 0
  have rf_1 := hR_.frozen 1
  have rf_2 := hR_.frozen 2
  have rf_3 := hR_.frozen 3
  have ra_0 := (hA.cell 0).trans rfl
  have ra_1 := (hA.cell 1).trans rfl
  have raf_0 := hA.frozen 0
  have raf_1 := hA.frozen 1
  obtain ⟨hF4, hF5, hFr, hFx⟩ := fin_doS hR_ hA hxw hgw hr3 (e := 0) (tx := [])
  go_wp2
  try simp only [Exit.inBlock, Exit.then]
  refine bodyPost_ret (results_cell_cell rfl _ _ (g + 1 + 1) (g + 1 + 1 + 1) 28 33 #[.int .u64 s.now, .int .u64 s.count, .slice AL s.links.length cL, .slice AS s.sess.length cS] #[.int .i64 0, str []] (0, 0) (0, 0) _ _ rfl hF4 Tryz.underlying28 rfl (by kernel_rfl) rfl hF5 Tryz.underlying33 rfl (by kernel_rfl)) rfl ?_
  exact ⟨s, ⟨0, []⟩, _, _, _, _, hide HSA.out.symm, rfl, hFr, hFx⟩
 have HK := hide (show ¬ c.kind = 0 by simpa using hk)
 have c1 := (hC.cell 1).trans rfl
 have c2 := (hC.cell 2).trans rfl
 have c3 := (hC.cell 3).trans rfl
 have c4 := (hC.cell 4).trans rfl
 have c5 := (hC.cell 5).trans rfl
 have HAS := hide (rask_b s _ c W3 (stE.mono hrq fun _ _ h => h.elim) hc hi.rise (by omega))
 obtain ⟨⟨a, q⟩, hask⟩ : ∃ r, ask s c.client c.seq = r := ⟨_, rfl⟩
 rw [hask] at HAS
 have HQ := hide hask
 clear hask
 go_wp2_with fail
 refine HAS.out.mono ?_
 rintro e W9 ⟨rfl, hx9⟩
 obtain ⟨g6, hg6⟩ : ∃ g_, W9.heap.size = g_ := ⟨_, rfl⟩
 have hN := Blk.new W9 33 #[.int .i64 a.err, str a.text]
 rw [hg6] at hN
 have hz : Ext W9 (W9.alloc (.cells #[.int .i64 a.err, str a.text] 33)) := (Ext.rfl' _).alloc' _
 go_upto_region 4 with fail
 try rw [hg6]
 have hg6l : g + 1 + 1 + 1 < g6 := by rw [← hg6]; have := hx9.size; have := hA.lt; omega
 clear hg6
 generalize (W9.alloc (.cells #[.int .i64 a.err, str a.text] 33)) = W4 at *
 have hx4 := hx9.trans' hz
 have hB4 := hB.ext hx4
 have hN4 := hN
 have hr4 := stE.ext hrq hx4
 replace hC := hC.ext hx4
 replace hR_ := hR_.ext hx4
 replace hA := hA.ext hx4
 replace hxw := hxw.trans' hx4
 clear hx9 hz hN hB hrq c0 c1 c2 c3 c4 c5 b0 b1 b2 b3
 cases q with
 | true =>
  have HSA : Hid (sapply s c = (s, a)) := hide (by unfold sapply; rw [if_neg HK.out, HQ.out]; simp)
  replace hr4 := stE.mono hr4 (Y := noneAt) (fun _ _ h => h.elim)
  go_upto_region 5 with fail
  refine Rg.regionX Tryz.checked.mixed 33 2 1 21 _ _ (by rfl) (by rfl) (by kernel_rfl) [
   (fun x_ _ => x_ = .agg #[.int .u64 s.now, .int .u64 s.count, .slice AL s.links.length cL, .slice AS s.sess.length cS]),
   (fun x_ _ => x_ = .agg #[.int .i64 a.err, str a.text])] (fun W => Ext W4 W) Ext rfl rfl rfl
   ?st ((Ext.rfl' W4).drew') ?ob ?en ?en2
  case st => exact ⟨fun _ _ _ h _ => h, fun _ _ _ h _ => h, trivial⟩
  case ob =>
   refine ⟨Rg.at_run [2] rfl ?_, ?_⟩
   ·intro ρ W hR ⟨q2, _⟩
    replace q2 : ρ 2 = .pointer (some ⟨g, 0, none⟩) := q2
    refine ⟨rfl, ?_⟩
    have c0_ : W.cell? ⟨g, 0, none⟩ = some (.int .u64 s.now) := ((hB4.ext hR).cell 0).trans rfl
    have c1_ : W.cell? ⟨g, 1, none⟩ = some (.int .u64 s.count) := ((hB4.ext hR).cell 1).trans rfl
    have c2_ : W.cell? ⟨g, 2, none⟩ = some (.slice AL s.links.length cL) := ((hB4.ext hR).cell 2).trans rfl
    have c3_ : W.cell? ⟨g, 3, none⟩ = some (.slice AS s.sess.length cS) := ((hB4.ext hR).cell 3).trans rfl
    exact Rg.run_ok (v := .agg #[.int .u64 s.now, .int .u64 s.count, .slice AL s.links.length cL, .slice AS s.sess.length cS]) (by simp [execOp, Rg.ev, go_sem, q2, c0_, c1_, c2_, c3_]) ⟨rfl, hR, Ext.rfl' _⟩
   refine ⟨Rg.at_run [6] rfl ?_, ?_⟩
   ·intro ρ W hR ⟨q6, _⟩
    replace q6 : ρ 6 = .pointer (some ⟨g6, 0, none⟩) := q6
    refine ⟨rfl, ?_⟩
    have c0_ : W.cell? ⟨g6, 0, none⟩ = some (.int .i64 a.err) := ((hN4.ext hR).cell 0).trans rfl
    have c1_ : W.cell? ⟨g6, 1, none⟩ = some (str a.text) := ((hN4.ext hR).cell 1).trans rfl
    exact Rg.run_ok (v := .agg #[.int .i64 a.err, str a.text]) (by simp [execOp, Rg.ev, go_sem, q6, c0_, c1_]) ⟨rfl, hR, Ext.rfl' _⟩
   trivial
  case en =>
   intro tm W hR hsz hk
   rw [Rg.fin_eq (ds := [20, 21]) rfl rfl rfl hsz hk]
   have k20 : tm.getD 20 undef = .agg #[.int .u64 s.now, .int .u64 s.count, .slice AL s.links.length cL, .slice AS s.sess.length cS] := hk 20
   have k21 : tm.getD 21 undef = .agg #[.int .i64 a.err, str a.text] := hk 21
   clear hk hsz
   simp only [Rg.putAll, List.setIfInBounds_toArray, List.set_cons_zero, List.set_cons_succ, k20, k21]
   clear k20
   clear k21
   replace hR_ := hR_.ext hR
   replace hA := hA.ext hR
   replace hr4 := stE.ext hr4 hR
   replace hxw := hxw.trans' hR
   replace hN4 := hN4.ext hR
   have r_0 := (hR_.cell 0).trans rfl
   have r_1 := (hR_.cell 1).trans rfl
   have r_2 := (hR_.cell 2).trans rfl
   have r_3 := (hR_.cell 3).trans rfl
   have rf_0 := hR_.frozen 0
   have rf_1 := hR_.frozen 1
   have rf_2 := hR_.frozen 2
   have rf_3 := hR_.frozen 3
   have ra_0 := (hA.cell 0).trans rfl
   have ra_1 := (hA.cell 1).trans rfl
   have raf_0 := hA.frozen 0
   have raf_1 := hA.frozen 1
   obtain ⟨hF4, hF5, hFr, hFx⟩ := fin_doS hR_ hA hxw hgw hr4 (e := a.err) (tx := a.text)
   go_wp2
   try simp only [Exit.inBlock, Exit.then]
   refine bodyPost_ret (results_cell_cell rfl _ _ (g + 1 + 1) (g + 1 + 1 + 1) 28 33 #[.int .u64 s.now, .int .u64 s.count, .slice AL s.links.length cL, .slice AS s.sess.length cS] #[.int .i64 (a.err), str (a.text)] (0, 0) (0, 0) _ _ rfl hF4 Tryz.underlying28 rfl (by kernel_rfl) rfl hF5 Tryz.underlying33 rfl (by kernel_rfl)) rfl ?_
   exact ⟨s, a, _, _, _, _, hide (HSA.out.symm), rfl, hFr, hFx⟩
  case en2 =>
   intro tm W hR hsz hk
   rw [Rg.fin_eqX (ds := [20, 21]) rfl (by decide) rfl rfl hsz hk]
   have k20 : tm.getD 20 undef = .agg #[.int .u64 s.now, .int .u64 s.count, .slice AL s.links.length cL, .slice AS s.sess.length cS] := hk 20
   clear hk hsz
   simp only [Rg.putAll, List.setIfInBounds_toArray, List.set_cons_zero, List.set_cons_succ, k20]
   clear k20
   generalize tm.getD 21 undef = u21 at *
   simp only [List.drop_succ_cons, List.drop_zero]
   replace hR_ := hR_.ext hR
   replace hA := hA.ext hR
   replace hr4 := stE.ext hr4 hR
   replace hxw := hxw.trans' hR
   replace hN4 := hN4.ext hR
   have n0_ := (((hN4.chg ((Chg.refl [g + 1 + 1] _).four (g := g + 1 + 1) (by simp) (.int .u64 s.now) (.int .u64 s.count) (.slice AL s.links.length cL) (.slice AS s.sess.length cS)) (by simp; omega))).cell 0).trans rfl
   have n1_ := (((hN4.chg ((Chg.refl [g + 1 + 1] _).four (g := g + 1 + 1) (by simp) (.int .u64 s.now) (.int .u64 s.count) (.slice AL s.links.length cL) (.slice AS s.sess.length cS)) (by simp; omega))).cell 1).trans rfl
   have r_0 := (hR_.cell 0).trans rfl
   have r_1 := (hR_.cell 1).trans rfl
   have r_2 := (hR_.cell 2).trans rfl
   have r_3 := (hR_.cell 3).trans rfl
   have rf_0 := hR_.frozen 0
   have rf_1 := hR_.frozen 1
   have rf_2 := hR_.frozen 2
   have rf_3 := hR_.frozen 3
   have ra_0 := (hA.cell 0).trans rfl
   have ra_1 := (hA.cell 1).trans rfl
   have raf_0 := hA.frozen 0
   have raf_1 := hA.frozen 1
   obtain ⟨hF4, hF5, hFr, hFx⟩ := fin_doS hR_ hA hxw hgw hr4 (e := a.err) (tx := a.text)
   go_wp2
   try simp only [Exit.inBlock, Exit.then]
   refine bodyPost_ret (results_cell_cell rfl _ _ (g + 1 + 1) (g + 1 + 1 + 1) 28 33 #[.int .u64 s.now, .int .u64 s.count, .slice AL s.links.length cL, .slice AS s.sess.length cS] #[.int .i64 (a.err), str (a.text)] (0, 0) (0, 0) _ _ rfl hF4 Tryz.underlying28 rfl (by kernel_rfl) rfl hF5 Tryz.underlying33 rfl (by kernel_rfl)) rfl ?_
   exact ⟨s, a, _, _, _, _, hide (HSA.out.symm), rfl, hFr, hFx⟩
 | false =>
  have HLD := hide (fun (W : World) (hx : Ext W4 W) => lrdo_b (XQ noneAt g) s AL cL AS cS c W (hXd W (hx4.trans' hx)) (stE.ext hr4 hx) hc hcn (by omega))
  rw [ldo_rdo hi.links c] at HLD
  have b0 := (hB4.cell 0).trans rfl
  have fb0 := hB4.frozen 0
  have b1 := (hB4.cell 1).trans rfl
  have fb1 := hB4.frozen 1
  have b2 := (hB4.cell 2).trans rfl
  have fb2 := hB4.frozen 2
  have b3 := (hB4.cell 3).trans rfl
  have fb3 := hB4.frozen 3
  have c0 := (hC.cell 0).trans rfl
  have c1 := (hC.cell 1).trans rfl
  have c2 := (hC.cell 2).trans rfl
  have c3 := (hC.cell 3).trans rfl
  have c4 := (hC.cell 4).trans rfl
  have c5 := (hC.cell 5).trans rfl
  go_wp2_with fail
  refine (HLD.out W4 (Ext.rfl' _)).mono ?_
  rintro e W5 ⟨t, a', A5, c5_, B5, d5, hta, rfl, hr5, hx5⟩
  clear b0 b1 b2 b3 fb0 fb1 fb2 fb3 c0 c1 c2 c3 c4 c5
  have hB5 := hB4.ext hx5
  have hN5 := hN4.ext hx5
  have b0 := (hB5.cell 0).trans rfl
  have fb0 := hB5.frozen 0
  have b1 := (hB5.cell 1).trans rfl
  have fb1 := hB5.frozen 1
  have b2 := (hB5.cell 2).trans rfl
  have fb2 := hB5.frozen 2
  have b3 := (hB5.cell 3).trans rfl
  have fb3 := hB5.frozen 3
  have n0 := (hN5.cell 0).trans rfl
  have n1 := (hN5.cell 1).trans rfl
  have nf0 := hN5.frozen 0
  have nf1 := hN5.frozen 1
  go_upto_region 7 with fail
  have hcg : Chg [g] W5 _ := (Chg.refl [g] _).four (g := g) (by simp) (.int .u64 t.now) (.int .u64 t.count) (.slice A5 t.links.length c5_) (.slice B5 t.sess.length d5)
  have hcg2 : Chg [g6] _ _ := (Chg.refl [g6] ((((W5.setCell ⟨g, 0, none⟩ (.int .u64 t.now)).setCell ⟨g, 1, none⟩ (.int .u64 t.count)).setCell ⟨g, 2, none⟩ (.slice A5 t.links.length c5_)).setCell ⟨g, 3, none⟩ (.slice B5 t.sess.length d5))).two_ (g := g6) (by simp) (.int .i64 a'.err) (str a'.text)
  have hB6 := (Blk.four hB5 (.int .u64 t.now) (.int .u64 t.count) (.slice A5 t.links.length c5_) (.slice B5 t.sess.length d5)).chg hcg2 (by simp; omega)
  have hN6 := Blk.two_ (hN5.chg hcg (by simp; omega)) (.int .i64 a'.err) (str a'.text)
  have hr6 : stE.rep _ noneAt [.int .u64 t.now, .int .u64 t.count, .slice A5 t.links.length c5_, .slice B5 t.sess.length d5] t := stE.mono (stE.chg (stE.chg (st_apartS hr5 hN5 (nos2 _ _)) hcg (fun j hj _ => by have := List.mem_singleton.1 hj; exact .inl (.inr (by omega)))) hcg2 (fun j hj _ => .inr (List.mem_singleton.1 hj))) (fun _ _ h => h.elim)
  have hC6 := ((hC.ext hx5).chg hcg (by simp)).chg hcg2 (by simp; omega)
  replace hR_ := ((hR_.ext hx5).chg hcg (by simp; omega)).chg hcg2 (by simp; omega)
  replace hA := ((hA.ext hx5).chg hcg (by simp; omega)).chg hcg2 (by simp; omega)
  replace hxw := ((hxw.trans' hx5).then_ hcg (by simp; omega)).then_ hcg2 (by simp; omega)
  generalize ((((((W5.setCell ⟨g, 0, none⟩ (.int .u64 t.now)).setCell ⟨g, 1, none⟩ (.int .u64 t.count)).setCell ⟨g, 2, none⟩ (.slice A5 t.links.length c5_)).setCell ⟨g, 3, none⟩ (.slice B5 t.sess.length d5)).setCell ⟨g6, 0, none⟩ (.int .i64 a'.err)).setCell ⟨g6, 1, none⟩ (str a'.text)) = W6 at *
  clear hcg hcg2 hB5 hN5 hr5 n0 n1 nf0 nf1 b0 b1 b2 b3 fb0 fb1 fb2 fb3 HLD hr4 hB4 hN4 hx5 hx4 hXd
  have hts : t.sess = s.sess := by have := ldo_sess s c; rw [← hta.out] at this; exact this
  have hti : LInv t := by have := hi.links.step (c := c) hc.t0; rw [← hta.out] at this; exact this
  have han := ldo_an hi.links (c := c) hcn
  rw [← hta.out] at han
  simp only at han
  have hkq : Hid (sapply s c = (keep t c.client c.seq a', a')) := hide (by unfold sapply; rw [if_neg HK.out, HQ.out, ← hta.out]; rfl)
  have HKP := hide (fun (W : World) (hx : Ext W6 W) => rkeep_b t _ c a' W (stE.ext hr6 hx) hc ⟨⟨by omega, by omega⟩, by have := han.1; simp [maxLen]; omega⟩ (by rw [hts]; omega) (by rw [hts]; exact fun x hx => ⟨(hdn x hx).1, by have := (hdn x hx).2; omega⟩))
  clear hts hti han
  obtain ⟨K, hK⟩ : ∃ K, keep t c.client c.seq a' = K := ⟨_, rfl⟩
  rw [hK] at hkq HKP
  clear hK
  refine Rg.regionX Tryz.checked.mixed 33 5 4 32 _ _ (by rfl) (by rfl) (by kernel_rfl) [
   (fun x_ _ => x_ = .agg #[.int .u64 t.now, .int .u64 t.count, .slice A5 t.links.length c5_, .slice B5 t.sess.length d5]),
   (fun x_ _ => x_ = .agg #[.int .i64 c.kind, .int .i64 c.client, .int .u64 c.seq, str c.name, str c.url, .int .u64 c.till]),
   (fun x_ _ => x_ = .agg #[.int .i64 a'.err, str a'.text]),
   (fun v W => ∃ cs9 : List Value, v = .agg cs9.toArray ∧ stE.rep W noneAt cs9 (K)),
   (fun x_ _ => x_ = .agg #[.int .i64 a'.err, str a'.text])] (fun W => Ext W6 W) Ext rfl rfl rfl
   ?st ((Ext.rfl' W6).drew') ?ob ?en ?en2
  case st => exact ⟨fun _ _ _ h _ => h, fun _ _ _ h _ => h, fun _ _ _ h _ => h, fun _ _ _ ⟨a1_, h1_, h2_⟩ hx => ⟨a1_, h1_, stE.ext h2_ hx⟩, fun _ _ _ h _ => h, trivial⟩
  case ob =>
   refine ⟨Rg.at_run [2] rfl ?_, ?_⟩
   ·intro ρ W hR ⟨q2, _⟩
    replace q2 : ρ 2 = .pointer (some ⟨g, 0, none⟩) := q2
    refine ⟨rfl, ?_⟩
    have c0_ : W.cell? ⟨g, 0, none⟩ = some (.int .u64 t.now) := ((hB6.ext hR).cell 0).trans rfl
    have c1_ : W.cell? ⟨g, 1, none⟩ = some (.int .u64 t.count) := ((hB6.ext hR).cell 1).trans rfl
    have c2_ : W.cell? ⟨g, 2, none⟩ = some (.slice A5 t.links.length c5_) := ((hB6.ext hR).cell 2).trans rfl
    have c3_ : W.cell? ⟨g, 3, none⟩ = some (.slice B5 t.sess.length d5) := ((hB6.ext hR).cell 3).trans rfl
    exact Rg.run_ok (v := .agg #[.int .u64 t.now, .int .u64 t.count, .slice A5 t.links.length c5_, .slice B5 t.sess.length d5]) (by simp [execOp, Rg.ev, go_sem, q2, c0_, c1_, c2_, c3_]) ⟨rfl, hR, Ext.rfl' _⟩
   refine ⟨Rg.at_run [3] rfl ?_, ?_⟩
   ·intro ρ W hR ⟨q3, _⟩
    replace q3 : ρ 3 = .pointer (some ⟨g + 1, 0, none⟩) := q3
    refine ⟨rfl, ?_⟩
    have c0_ : W.cell? ⟨g + 1, 0, none⟩ = some (.int .i64 c.kind) := ((hC6.ext hR).cell 0).trans rfl
    have c1_ : W.cell? ⟨g + 1, 1, none⟩ = some (.int .i64 c.client) := ((hC6.ext hR).cell 1).trans rfl
    have c2_ : W.cell? ⟨g + 1, 2, none⟩ = some (.int .u64 c.seq) := ((hC6.ext hR).cell 2).trans rfl
    have c3_ : W.cell? ⟨g + 1, 3, none⟩ = some (str c.name) := ((hC6.ext hR).cell 3).trans rfl
    have c4_ : W.cell? ⟨g + 1, 4, none⟩ = some (str c.url) := ((hC6.ext hR).cell 4).trans rfl
    have c5_ : W.cell? ⟨g + 1, 5, none⟩ = some (.int .u64 c.till) := ((hC6.ext hR).cell 5).trans rfl
    exact Rg.run_ok (v := .agg #[.int .i64 c.kind, .int .i64 c.client, .int .u64 c.seq, str c.name, str c.url, .int .u64 c.till]) (by simp [execOp, Rg.ev, go_sem, q3, c0_, c1_, c2_, c3_, c4_, c5_]) ⟨rfl, hR, Ext.rfl' _⟩
   refine ⟨Rg.at_run [6] rfl ?_, ?_⟩
   ·intro ρ W hR ⟨q6, _⟩
    replace q6 : ρ 6 = .pointer (some ⟨g6, 0, none⟩) := q6
    refine ⟨rfl, ?_⟩
    have c0_ : W.cell? ⟨g6, 0, none⟩ = some (.int .i64 a'.err) := ((hN6.ext hR).cell 0).trans rfl
    have c1_ : W.cell? ⟨g6, 1, none⟩ = some (str a'.text) := ((hN6.ext hR).cell 1).trans rfl
    exact Rg.run_ok (v := .agg #[.int .i64 a'.err, str a'.text]) (by simp [execOp, Rg.ev, go_sem, q6, c0_, c1_]) ⟨rfl, hR, Ext.rfl' _⟩
   refine ⟨Rg.at_run [28, 29, 30] rfl ?_, ?_⟩
   ·intro ρ W hR ⟨q28, q29, q30, _⟩
    replace q28 : ρ 28 = .agg #[.int .u64 t.now, .int .u64 t.count, .slice A5 t.links.length c5_, .slice B5 t.sess.length d5] := q28
    replace q29 : ρ 29 = .agg #[.int .i64 c.kind, .int .i64 c.client, .int .u64 c.seq, str c.name, str c.url, .int .u64 c.till] := q29
    replace q30 : ρ 30 = .agg #[.int .i64 a'.err, str a'.text] := q30
    refine ⟨rfl, ?_⟩
    refine Rg.enter_fn (args := #[.agg #[.int .u64 t.now, .int .u64 t.count, .slice A5 t.links.length c5_, .slice B5 t.sess.length d5], .agg #[.int .i64 c.kind, .int .i64 c.client, .int .u64 c.seq, str c.name, str c.url, .int .u64 c.till], .agg #[.int .i64 a'.err, str a'.text]]) rfl (by simp only [List.map_toArray, List.map_cons, List.map_nil, Rg.ev, q28, q29, q30]) (by kernel_rfl) ?_
    refine (HKP.out W hR).mono ?_
    rintro e_ w9 ⟨cs9, rfl, hr9, hxx⟩
    exact ⟨_, rfl, ⟨cs9, rfl, hr9⟩, hR.trans' hxx, hxx⟩
   refine ⟨Rg.at_run [6] rfl ?_, ?_⟩
   ·intro ρ W hR ⟨q6, _⟩
    replace q6 : ρ 6 = .pointer (some ⟨g6, 0, none⟩) := q6
    refine ⟨rfl, ?_⟩
    have c0_ : W.cell? ⟨g6, 0, none⟩ = some (.int .i64 a'.err) := ((hN6.ext hR).cell 0).trans rfl
    have c1_ : W.cell? ⟨g6, 1, none⟩ = some (str a'.text) := ((hN6.ext hR).cell 1).trans rfl
    exact Rg.run_ok (v := .agg #[.int .i64 a'.err, str a'.text]) (by simp [execOp, Rg.ev, go_sem, q6, c0_, c1_]) ⟨rfl, hR, Ext.rfl' _⟩
   trivial
  case en =>
   intro tm W hR hsz hk
   rw [Rg.fin_eq (ds := [28, 29, 30, 31, 32]) rfl rfl rfl hsz hk]
   have k28 : tm.getD 28 undef = .agg #[.int .u64 t.now, .int .u64 t.count, .slice A5 t.links.length c5_, .slice B5 t.sess.length d5] := hk 28
   have k29 : tm.getD 29 undef = .agg #[.int .i64 c.kind, .int .i64 c.client, .int .u64 c.seq, str c.name, str c.url, .int .u64 c.till] := hk 29
   have k30 : tm.getD 30 undef = .agg #[.int .i64 a'.err, str a'.text] := hk 30
   have k31 : (fun v W => ∃ cs9 : List Value, v = .agg cs9.toArray ∧ stE.rep W noneAt cs9 (K)) (tm.getD 31 undef) W := hk 31
   have k32 : tm.getD 32 undef = .agg #[.int .i64 a'.err, str a'.text] := hk 32
   clear hk hsz
   simp only [Rg.putAll, List.setIfInBounds_toArray, List.set_cons_zero, List.set_cons_succ, k28, k29, k30, k32]
   clear k28
   clear k29
   clear k30
   generalize tm.getD 31 undef = u31 at *
   clear k32
   obtain ⟨cs9, rfl, hr9⟩ := k31
   obtain ⟨vl9, vs9, rfl, -, -, l9, m9⟩ := st_rep.1 hr9
   obtain ⟨A9, c9, rfl, -, -⟩ := l9.form
   obtain ⟨B9, d9, rfl, -, -⟩ := m9.form
   clear l9 m9
   replace hR_ := hR_.ext hR
   replace hA := hA.ext hR
   replace hxw := hxw.trans' hR
   replace hN6 := hN6.ext hR
   have r_0 := (hR_.cell 0).trans rfl
   have r_1 := (hR_.cell 1).trans rfl
   have r_2 := (hR_.cell 2).trans rfl
   have r_3 := (hR_.cell 3).trans rfl
   have rf_0 := hR_.frozen 0
   have rf_1 := hR_.frozen 1
   have rf_2 := hR_.frozen 2
   have rf_3 := hR_.frozen 3
   have ra_0 := (hA.cell 0).trans rfl
   have ra_1 := (hA.cell 1).trans rfl
   have raf_0 := hA.frozen 0
   have raf_1 := hA.frozen 1
   obtain ⟨hF4, hF5, hFr, hFx⟩ := fin_doS hR_ hA hxw hgw hr9 (e := a'.err) (tx := a'.text)
   go_wp2
   try simp only [Exit.inBlock, Exit.then]
   refine bodyPost_ret (results_cell_cell rfl _ _ (g + 1 + 1) (g + 1 + 1 + 1) 28 33 #[.int .u64 K.now, .int .u64 K.count, .slice A9 K.links.length c9, .slice B9 K.sess.length d9] #[.int .i64 (a'.err), str (a'.text)] (0, 0) (0, 0) _ _ rfl hF4 Tryz.underlying28 rfl (by kernel_rfl) rfl hF5 Tryz.underlying33 rfl (by kernel_rfl)) rfl ?_
   exact ⟨K, a', _, _, _, _, hide (hkq.out.symm), rfl, hFr, hFx⟩
  case en2 =>
   intro tm W hR hsz hk
   rw [Rg.fin_eqX (ds := [28, 29, 30, 31, 32]) rfl (by decide) rfl rfl hsz hk]
   have k28 : tm.getD 28 undef = .agg #[.int .u64 t.now, .int .u64 t.count, .slice A5 t.links.length c5_, .slice B5 t.sess.length d5] := hk 28
   have k29 : tm.getD 29 undef = .agg #[.int .i64 c.kind, .int .i64 c.client, .int .u64 c.seq, str c.name, str c.url, .int .u64 c.till] := hk 29
   have k30 : tm.getD 30 undef = .agg #[.int .i64 a'.err, str a'.text] := hk 30
   have k31 : (fun v W => ∃ cs9 : List Value, v = .agg cs9.toArray ∧ stE.rep W noneAt cs9 (K)) (tm.getD 31 undef) W := hk 31
   clear hk hsz
   simp only [Rg.putAll, List.setIfInBounds_toArray, List.set_cons_zero, List.set_cons_succ, k28, k29, k30]
   clear k28
   clear k29
   clear k30
   generalize tm.getD 31 undef = u31 at *
   generalize tm.getD 32 undef = u32 at *
   simp only [List.drop_succ_cons, List.drop_zero]
   obtain ⟨cs9, rfl, hr9⟩ := k31
   obtain ⟨vl9, vs9, rfl, -, -, l9, m9⟩ := st_rep.1 hr9
   obtain ⟨A9, c9, rfl, -, -⟩ := l9.form
   obtain ⟨B9, d9, rfl, -, -⟩ := m9.form
   clear l9 m9
   replace hR_ := hR_.ext hR
   replace hA := hA.ext hR
   replace hxw := hxw.trans' hR
   replace hN6 := hN6.ext hR
   have n0_ := (((hN6.chg ((Chg.refl [g + 1 + 1] _).four (g := g + 1 + 1) (by simp) (.int .u64 K.now) (.int .u64 K.count) (.slice A9 K.links.length c9) (.slice B9 K.sess.length d9)) (by simp; omega))).cell 0).trans rfl
   have n1_ := (((hN6.chg ((Chg.refl [g + 1 + 1] _).four (g := g + 1 + 1) (by simp) (.int .u64 K.now) (.int .u64 K.count) (.slice A9 K.links.length c9) (.slice B9 K.sess.length d9)) (by simp; omega))).cell 1).trans rfl
   have r_0 := (hR_.cell 0).trans rfl
   have r_1 := (hR_.cell 1).trans rfl
   have r_2 := (hR_.cell 2).trans rfl
   have r_3 := (hR_.cell 3).trans rfl
   have rf_0 := hR_.frozen 0
   have rf_1 := hR_.frozen 1
   have rf_2 := hR_.frozen 2
   have rf_3 := hR_.frozen 3
   have ra_0 := (hA.cell 0).trans rfl
   have ra_1 := (hA.cell 1).trans rfl
   have raf_0 := hA.frozen 0
   have raf_1 := hA.frozen 1
   obtain ⟨hF4, hF5, hFr, hFx⟩ := fin_doS hR_ hA hxw hgw hr9 (e := a'.err) (tx := a'.text)
   go_wp2
   try simp only [Exit.inBlock, Exit.then]
   refine bodyPost_ret (results_cell_cell rfl _ _ (g + 1 + 1) (g + 1 + 1 + 1) 28 33 #[.int .u64 K.now, .int .u64 K.count, .slice A9 K.links.length c9, .slice B9 K.sess.length d9] #[.int .i64 (a'.err), str (a'.text)] (0, 0) (0, 0) _ _ rfl hF4 Tryz.underlying28 rfl (by kernel_rfl) rfl hF5 Tryz.underlying33 rfl (by kernel_rfl)) rfl ?_
   exact ⟨K, a', _, _, _, _, hide (hkq.out.symm), rfl, hFr, hFx⟩
end Go.Proofs.YtamimdlaclglkaaGreat
namespace Go.Proofs.YtamimdlaclglkaaGreat
set_option linter.unusedVariables false
set_option linter.unusedSimpArgs false
set_option linter.unnecessarySimpa false
set_option maxRecDepth 100000
open Go.RowKit
theorem two_new (w : World) (T : TypeId) (c1 c2 : Array Value) : Blk (((w.alloc (.cells c1 T)).alloc (.cells c2 T)).drew) w.heap.size T c1 ∧ Blk (((w.alloc (.cells c1 T)).alloc (.cells c2 T)).drew) (w.heap.size + 1) T c2 ∧ Ext w (((w.alloc (.cells c1 T)).alloc (.cells c2 T)).drew) := by
 have hx : Ext ((w.alloc (.cells c1 T)).alloc (.cells c2 T)) (((w.alloc (.cells c1 T)).alloc (.cells c2 T)).drew) := (Ext.rfl' _).drew'
 have h2 := Blk.new (w.alloc (.cells c1 T)) T c2
 rw [show (w.alloc (.cells c1 T)).heap.size = w.heap.size + 1 by simp] at h2
 exact ⟨((Blk.new w T c1).alloc _).ext hx, h2.ext hx, (((Ext.rfl' w).alloc' _).alloc' _).trans' hx⟩
set_option maxHeartbeats 6400000 in
theorem same_eq (s : St) (cs1 cs2 : List Value) (w : World) (hs1 : stE.rep w noneAt cs1 s) (hs2 : stE.rep w noneAt cs2 s) :
  Calls Tryz.prog 12 #[.agg cs1.toArray, .agg cs2.toArray] w fun e w' => e = .returned (.bool true) ∧ Ext w w' := by
 obtain ⟨vl, vs, rfl, s1, s2, s3, s4⟩ := st_rep.1 hs1
 obtain ⟨vl2, vs2, rfl, -, -, t3, t4⟩ := st_rep.1 hs2
 obtain ⟨Al, cl, rfl, q1, q2⟩ := s3.form
 obtain ⟨As, cs, rfl, q3, q4⟩ := s4.form
 have hll : s.links.length ≤ 9223372036854775807 := Nat.le_trans q1 q2
 have hl : s.sess.length ≤ 9223372036854775807 := Nat.le_trans q3 q4
 clear q1 q2 q3 q4 hs1 hs2
 obtain ⟨Al2, cl2, rfl, -, -⟩ := t3.form
 obtain ⟨As2, cs2, rfl, -, -⟩ := t4.form
 have hB := Blk.new w 28 #[.int .u64 s.now, .int .u64 s.count, .slice Al s.links.length cl, .slice As s.sess.length cs]
 have hC := Blk.new (w.alloc (.cells #[.int .u64 s.now, .int .u64 s.count, .slice Al s.links.length cl, .slice As s.sess.length cs] 28)) 28 #[.int .u64 s.now, .int .u64 s.count, .slice Al2 s.links.length cl2, .slice As2 s.sess.length cs2]
 have hx0 := ((Ext.rfl' w).alloc' (.cells #[.int .u64 s.now, .int .u64 s.count, .slice Al s.links.length cl, .slice As s.sess.length cs] 28)).alloc' (.cells #[.int .u64 s.now, .int .u64 s.count, .slice Al2 s.links.length cl2, .slice As2 s.sess.length cs2] 28)
 obtain ⟨g, hg⟩ : ∃ g, w.heap.size = g := ⟨_, rfl⟩
 rw [show (w.alloc (.cells #[.int .u64 s.now, .int .u64 s.count, .slice Al s.links.length cl, .slice As s.sess.length cs] 28)).heap.size = g + 1 by simp [hg]] at hC
 rw [hg] at hB
 replace hB := hB.alloc (.cells #[.int .u64 s.now, .int .u64 s.count, .slice Al2 s.links.length cl2, .slice As2 s.sess.length cs2] 28)
 go_enter Tryz.func12, Tryz.ntmps12
 go_wp2_with fail
 generalize (w.alloc (.cells #[.int .u64 s.now, .int .u64 s.count, .slice Al s.links.length cl, .slice As s.sess.length cs] 28)).alloc (.cells #[.int .u64 s.now, .int .u64 s.count, .slice Al2 s.links.length cl2, .slice As2 s.sess.length cs2] 28) = w1 at *
 go_loopw [5] (fun i wr => ∃ m : Nat, (m : Int) ≤ s.links.length ∧ i = .int .i64 m ∧ Ext w1 wr) (fun i _ => (s.links.length - intOf i).toNat)
 case atStart => exact ⟨0, by omega, rfl, Ext.rfl' _⟩
 case round =>
  obtain ⟨m, hm, rfl, hx⟩ := hrel
  have b2 := ((hB.ext hx).cell 2).trans rfl
  have d2 := ((hC.ext hx).cell 2).trans rfl
  by_cases hlt : (m : Int) < s.links.length
  ·obtain ⟨ad, x, rfl, hxk, hbp, p0, p1, p2, p3, -⟩ := ln_at (s3.ext (hx0.trans' hx)) (k := m) (by omega)
   obtain ⟨ad2, x2, rfl, hxk2, hbr, r0, r1, r2, r3, -⟩ := ln_at (t3.ext (hx0.trans' hx)) (k := m) (by omega)
   obtain rfl : x = x2 := Option.some.inj (hxk.out.symm.trans hxk2.out)
   go_wp2_with fail
   go_region
   go_wp2
   go_roundw
   case rel => exact ⟨m + 1, by omega, by go_num, hx.drew'⟩
   case measure => simp [intOf]; omega
  ·go_wp2_with fail
   clear hlt hm b2 d2
   have hxb := hB.ext hx
   have hxc := hC.ext hx
   have hx1 := hx0.trans' hx
   clear hB hC hx0 hx
   generalize wr = wA at *
   go_loopw [6] (fun i w2 => ∃ k : Nat, (k : Int) ≤ s.sess.length ∧ i = .int .i64 k ∧ Ext wA w2) (fun i _ => (s.sess.length - intOf i).toNat)
   case atStart => exact ⟨0, by omega, rfl, Ext.rfl' _⟩
   case round =>
    obtain ⟨k, hk, rfl, hxx⟩ := hrel
    have hBr := hxb.ext hxx
    have hCr := hxc.ext hxx
    have hxr := hx1.trans' hxx
    have b3 := (hBr.cell 3).trans rfl
    have d3 := (hCr.cell 3).trans rfl
    by_cases hlt : (k : Int) < s.sess.length
    ·have hk0 : (0 : Int) ≤ k := by omega
     obtain ⟨ad, x, v, rfl, hxk, hbp, p0, p1, p2, -, -, p5⟩ := se_at (s4.ext hxr) (k := k) (by omega)
     obtain ⟨ad2, x2, v2, rfl, hxk2, hbr, r0, r1, r2, -, -, r5⟩ := se_at (t4.ext hxr) (k := k) (by omega)
     obtain rfl : x = x2 := Option.some.inj (hxk.out.symm.trans hxk2.out)
     obtain ⟨Ad, cd, rfl, hd1, hd2⟩ := p5.form
     obtain ⟨Ad2, cd2, rfl, -, -⟩ := r5.form
     have hdl : x.done.length ≤ 9223372036854775807 := Nat.le_trans hd1 hd2
     clear hd1 hd2
     have hgB := hBr.lt
     have hgC := hCr.lt
     have b3_1 := fun o1 => (((Ext.rfl' wr).alloc' o1).cell (p := ⟨g, 3, none⟩) hgB).trans b3
     have b3_2 := fun o1 o2 => ((((Ext.rfl' wr).alloc' o1).alloc' o2).cell (p := ⟨g, 3, none⟩) hgB).trans b3
     have d3_1 := fun o1 => (((Ext.rfl' wr).alloc' o1).cell (p := ⟨g + 1, 3, none⟩) hgC).trans d3
     have d3_2 := fun o1 o2 => ((((Ext.rfl' wr).alloc' o1).alloc' o2).cell (p := ⟨g + 1, 3, none⟩) hgC).trans d3
     have hpb : (ad.add (k * 3)).block < wr.heap.size := by rw [block_of_add]; exact hbp
     have p0_1 := fun o1 => (((Ext.rfl' wr).alloc' o1).cell (p := ad.add (k * 3)) hpb).trans p0
     have p0_2 := fun o1 o2 => ((((Ext.rfl' wr).alloc' o1).alloc' o2).cell (p := ad.add (k * 3)) hpb).trans p0
     have p1_1 := fun o1 => (((Ext.rfl' wr).alloc' o1).cell (p := ⟨(ad.add (k * 3)).block, (ad.add (k * 3)).off + 1, none⟩) hpb).trans p1
     have p1_2 := fun o1 o2 => ((((Ext.rfl' wr).alloc' o1).alloc' o2).cell (p := ⟨(ad.add (k * 3)).block, (ad.add (k * 3)).off + 1, none⟩) hpb).trans p1
     have p2_1 := fun o1 => (((Ext.rfl' wr).alloc' o1).cell (p := ⟨(ad.add (k * 3)).block, (ad.add (k * 3)).off + 2, none⟩) hpb).trans p2
     have p2_2 := fun o1 o2 => ((((Ext.rfl' wr).alloc' o1).alloc' o2).cell (p := ⟨(ad.add (k * 3)).block, (ad.add (k * 3)).off + 2, none⟩) hpb).trans p2
     have hrb : (ad2.add (k * 3)).block < wr.heap.size := by rw [block_of_add]; exact hbr
     have r0_1 := fun o1 => (((Ext.rfl' wr).alloc' o1).cell (p := ad2.add (k * 3)) hrb).trans r0
     have r0_2 := fun o1 o2 => ((((Ext.rfl' wr).alloc' o1).alloc' o2).cell (p := ad2.add (k * 3)) hrb).trans r0
     have r1_1 := fun o1 => (((Ext.rfl' wr).alloc' o1).cell (p := ⟨(ad2.add (k * 3)).block, (ad2.add (k * 3)).off + 1, none⟩) hrb).trans r1
     have r1_2 := fun o1 o2 => ((((Ext.rfl' wr).alloc' o1).alloc' o2).cell (p := ⟨(ad2.add (k * 3)).block, (ad2.add (k * 3)).off + 1, none⟩) hrb).trans r1
     have r2_1 := fun o1 => (((Ext.rfl' wr).alloc' o1).cell (p := ⟨(ad2.add (k * 3)).block, (ad2.add (k * 3)).off + 2, none⟩) hrb).trans r2
     have r2_2 := fun o1 o2 => ((((Ext.rfl' wr).alloc' o1).alloc' o2).cell (p := ⟨(ad2.add (k * 3)).block, (ad2.add (k * 3)).off + 2, none⟩) hrb).trans r2
     go_wp2_with fail
     go_region
     ·obtain ⟨hN1, hN2, hx7⟩ := two_new wr 56 #[.int .i64 x.client, .int .u64 x.high, .slice Ad x.done.length cd] #[.int .i64 x.client, .int .u64 x.high, .slice Ad2 x.done.length cd2]
      have P0 := (hN1.cell 0).trans rfl
      have P1 := (hN1.cell 1).trans rfl
      have P2 := (hN1.cell 2).trans rfl
      have Q0 := (hN2.cell 0).trans rfl
      have Q1 := (hN2.cell 1).trans rfl
      have Q2 := (hN2.cell 2).trans rfl
      have p5' := p5.ext hx7
      have r5' := r5.ext hx7
      clear b3 d3 b3_1 b3_2 d3_1 d3_2 p0 p0_1 p0_2 p1 p1_1 p1_2 p2 p2_1 p2_2 r0 r0_1 r0_2 r1 r1_1 r1_2 r2 r2_1 r2_2
      go_wp2_with fail
      clear P0 P1 P2 Q0 Q1 Q2
      have hxx7 := hxx.trans' hx7
      have hxr7 := hxr.trans' hx7
      generalize ((wr.alloc (.cells #[.int .i64 x.client, .int .u64 x.high, .slice Ad x.done.length cd] 56)).alloc (.cells #[.int .i64 x.client, .int .u64 x.high, .slice Ad2 x.done.length cd2] 56)).drew = wB at *
      go_loopw [9] (fun i w3 => ∃ n : Nat, (n : Int) ≤ x.done.length ∧ i = .int .i64 n ∧ Ext wB w3) (fun i _ => (x.done.length - intOf i).toNat)
      case atStart => exact ⟨0, by omega, rfl, Ext.rfl' _⟩
      case round =>
       obtain ⟨n, hn, rfl, hxe⟩ := hrel
       have P2 := ((hN1.ext hxe).cell 2).trans rfl
       have Q2 := ((hN2.ext hxe).cell 2).trans rfl
       by_cases hlt3 : (n : Int) < x.done.length
       ·obtain ⟨ae, d, rfl, hdk, hbe, e0, e1, e2, -⟩ := dn_at (p5'.ext hxe) (k := n) (by omega)
        obtain ⟨af, d', rfl, hdk', hbf, f0, f1, f2, -⟩ := dn_at (r5'.ext hxe) (k := n) (by omega)
        obtain rfl : d = d' := Option.some.inj (hdk.out.symm.trans hdk'.out)
        go_wp2_with fail
        go_region
        go_wp2
        go_roundw
        case rel => exact ⟨n + 1, by omega, by go_num, hxe.drew'⟩
        case measure => simp [intOf]; omega
       ·go_wp2
        go_roundw
        case rel => exact ⟨k + 1, by omega, by go_num, hxx7.trans' hxe⟩
        case measure => simp [intOf]; omega
     ·obtain ⟨hN1, hN2, hx7⟩ := two_new wr 56 #[.int .i64 x.client, .int .u64 x.high, .slice Ad2 x.done.length cd2] #[.int .i64 x.client, .int .u64 x.high, .slice Ad x.done.length cd]
      have P0 := (hN2.cell 0).trans rfl
      have P1 := (hN2.cell 1).trans rfl
      have P2 := (hN2.cell 2).trans rfl
      have Q0 := (hN1.cell 0).trans rfl
      have Q1 := (hN1.cell 1).trans rfl
      have Q2 := (hN1.cell 2).trans rfl
      have p5' := p5.ext hx7
      have r5' := r5.ext hx7
      clear b3 d3 b3_1 b3_2 d3_1 d3_2 p0 p0_1 p0_2 p1 p1_1 p1_2 p2 p2_1 p2_2 r0 r0_1 r0_2 r1 r1_1 r1_2 r2 r2_1 r2_2
      go_wp2_with fail
      clear P0 P1 P2 Q0 Q1 Q2
      have hxx7 := hxx.trans' hx7
      have hxr7 := hxr.trans' hx7
      generalize ((wr.alloc (.cells #[.int .i64 x.client, .int .u64 x.high, .slice Ad2 x.done.length cd2] 56)).alloc (.cells #[.int .i64 x.client, .int .u64 x.high, .slice Ad x.done.length cd] 56)).drew = wB at *
      go_loopw [9] (fun i w3 => ∃ n : Nat, (n : Int) ≤ x.done.length ∧ i = .int .i64 n ∧ Ext wB w3) (fun i _ => (x.done.length - intOf i).toNat)
      case atStart => exact ⟨0, by omega, rfl, Ext.rfl' _⟩
      case round =>
       obtain ⟨n, hn, rfl, hxe⟩ := hrel
       have P2 := ((hN2.ext hxe).cell 2).trans rfl
       have Q2 := ((hN1.ext hxe).cell 2).trans rfl
       by_cases hlt3 : (n : Int) < x.done.length
       ·obtain ⟨ae, d, rfl, hdk, hbe, e0, e1, e2, -⟩ := dn_at (p5'.ext hxe) (k := n) (by omega)
        obtain ⟨af, d', rfl, hdk', hbf, f0, f1, f2, -⟩ := dn_at (r5'.ext hxe) (k := n) (by omega)
        obtain rfl : d = d' := Option.some.inj (hdk.out.symm.trans hdk'.out)
        go_wp2_with fail
        go_region
        go_wp2
        go_roundw
        case rel => exact ⟨n + 1, by omega, by go_num, hxe.drew'⟩
        case measure => simp [intOf]; omega
       ·go_wp2
        go_roundw
        case rel => exact ⟨k + 1, by omega, by go_num, hxx7.trans' hxe⟩
        case measure => simp [intOf]; omega
    ·go_wp2_with fail
     go_ret
     exact ⟨rfl, hxr⟩
end Go.Proofs.YtamimdlaclglkaaGreat
