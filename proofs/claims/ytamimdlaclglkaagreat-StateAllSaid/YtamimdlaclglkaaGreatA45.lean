/- A part of the proof of 'StateAll'. -/
import Derived.Test.YtamimdlaclglkaaGreatA43
import Derived.Test.YtamimdlaclglkaaGreatA44
namespace Go.Proofs.YtamimdlaclglkaaGreat
set_option linter.unusedVariables false
set_option linter.unusedSimpArgs false
set_option linter.unnecessarySimpa false
set_option maxRecDepth 100000
open Go.RowKit
set_option maxHeartbeats 12800000 in
theorem lrdo_b (X : Avoid) (s : St) (A : Option Addr) (c0 : Nat) (B : Option Addr) (d0 : Nat) (c : Cm) (w : World) (hX : ∀ k, X k → k < w.heap.size) (hs : stE.rep w X [.int .u64 s.now, .int .u64 s.count, .slice A s.links.length c0, .slice B s.sess.length d0] s) (hc : c.wide) (hcn : c.name.length ≤ 1000000) (hll : s.links.length ≤ 1000) :
  Calls Tryz.prog 32 #[.agg #[.int .u64 s.now, .int .u64 s.count, .slice A s.links.length c0, .slice B s.sess.length d0], cv c] w fun e w' => RetDo X w w' e (rdo s c) := by
 obtain ⟨vl, vs, hcs, s1, s2, s3, s4⟩ := st_rep.1 hs
 simp only [List.cons.injEq, and_true, true_and] at hcs
 obtain ⟨rfl, rfl⟩ := hcs
 obtain ⟨hB, hC, hR_, hA, hxw⟩ := four_al w 28 37 28 33 #[.int .u64 s.now, .int .u64 s.count, .slice A s.links.length c0, .slice B s.sess.length d0] (ccells c) #[.int .u64 0, .int .u64 0, .slice none 0 0, .slice none 0 0] #[.int .i64 0, str []]
 obtain ⟨g, hg⟩ : ∃ g, w.heap.size = g := ⟨_, rfl⟩
 rw [hg] at hB hC hR_ hA
 have hgw : w.heap.size ≤ g := by omega
 have hXl : ∀ k, X k → k < g := fun k hk => by rw [← hg]; exact hX k hk
 have hrq := stE.ext (stE.mono hs (Y := XQ X g) fun k hk h => h.elim id fun h => by omega) hxw
 obtain ⟨r, hr⟩ : ∃ r, rdo s c = r := ⟨_, rfl⟩
 rw [hr]
 have HRR := hide hr
 clear hr
 go_enter Tryz.func32, Tryz.ntmps32
 go_upto_region 1 with fail
 generalize ((((w.alloc (.cells #[.int .u64 s.now, .int .u64 s.count, .slice A s.links.length c0, .slice B s.sess.length d0] 28)).alloc (.cells (ccells c) 37)).alloc (.cells #[.int .u64 0, .int .u64 0, .slice none 0 0, .slice none 0 0] 28)).alloc (.cells #[.int .i64 0, str []] 33)) = w1 at *
 try rw [hg]
 have hXd : ∀ W, Ext w1 W → ∀ k, XQ X g k → k < W.heap.size := fun W hx k hk => Nat.lt_of_lt_of_le (hk.elim (fun h => by have := hXl k h; have := hA.lt; omega) fun h => by have := hA.lt; omega) hx.size
 have k_0 := (hC.cell 0).trans rfl
 rcases Bool.eq_false_or_eq_true (c.kind == 4) with h4 | h4
 ·have H4 : Hid (c.kind = 4) := hide (by simpa using h4)
  have k_5 := (hC.cell 5).trans rfl
  rcases Bool.eq_false_or_eq_true (decide (1099511627776 < c.till)) with ht | ht
  ·have HT : Hid (1099511627776 < c.till) := hide (of_decide_eq_true ht)
   go_wp2_with fail
   clear k_0 k_5
   refine Rg.regionT Tryz.checked.mixed 95 2 (by kernel_rfl) [
    (fun x_ _ => x_ = .agg #[.int .u64 s.now, .int .u64 s.count, .slice A s.links.length c0, .slice B s.sess.length d0]),
    (fun x_ _ => x_ = .agg #[.int .i64 (1), str ([])])] (fun W => Ext w1 W) Ext rfl rfl rfl
    ?st ((Ext.rfl' w1).drew') ?ob ?en
   case st => exact ⟨fun _ _ _ h _ => h, fun _ _ _ h _ => h, trivial⟩
   case ob =>
    refine ⟨Rg.at_run [2] rfl ?_, ?_⟩
    ·intro ρ W hR ⟨q2, _⟩
     replace q2 : ρ 2 = .pointer (some ⟨g, 0, none⟩) := q2
     refine ⟨rfl, ?_⟩
     have c0_ : W.cell? ⟨g, 0, none⟩ = some (.int .u64 s.now) := ((hB.ext hR).cell 0).trans rfl
     have c1_ : W.cell? ⟨g, 1, none⟩ = some (.int .u64 s.count) := ((hB.ext hR).cell 1).trans rfl
     have c2_ : W.cell? ⟨g, 2, none⟩ = some (.slice A s.links.length c0) := ((hB.ext hR).cell 2).trans rfl
     have c3_ : W.cell? ⟨g, 3, none⟩ = some (.slice B s.sess.length d0) := ((hB.ext hR).cell 3).trans rfl
     exact Rg.run_ok (v := .agg #[.int .u64 s.now, .int .u64 s.count, .slice A s.links.length c0, .slice B s.sess.length d0]) (by simp [execOp, Rg.ev, go_sem, q2, c0_, c1_, c2_, c3_]) ⟨rfl, hR, Ext.rfl' _⟩
    refine ⟨Rg.at_run [] rfl ?_, ?_⟩
    ·intro ρ W hR _
     refine ⟨rfl, ?_⟩
     refine Rg.enter_fn (args := #[.int .i64 (1)]) rfl (by simp only [List.map_toArray, List.map_cons, List.map_nil, Rg.ev]) (by kernel_rfl) ?_
     refine (rfails_b (1) W).mono ?_
     rintro e_ w9 ⟨rfl, hxx⟩
     exact ⟨_, rfl, rfl, hR.trans' hxx, hxx⟩
    trivial
   case en =>
    intro tm W hR hsz hk
    rw [Rg.fin_eq (ds := [17, 18]) rfl rfl rfl hsz hk]
    have k17 : tm.getD 17 undef = .agg #[.int .u64 s.now, .int .u64 s.count, .slice A s.links.length c0, .slice B s.sess.length d0] := hk 17
    have k18 : tm.getD 18 undef = .agg #[.int .i64 (1), str ([])] := hk 18
    clear hk hsz
    simp only [Rg.putAll, List.setIfInBounds_toArray, List.set_cons_zero, List.set_cons_succ, k17, k18]
    clear k17
    clear k18
    replace hB := hB.ext hR
    replace hR_ := hR_.ext hR
    replace hA := hA.ext hR
    replace hrq := stE.ext hrq hR
    replace hxw := hxw.trans' hR
    have r_0 := (hR_.cell 0).trans rfl
    have r_1 := (hR_.cell 1).trans rfl
    have r_2 := (hR_.cell 2).trans rfl
    have r_3 := (hR_.cell 3).trans rfl
    have rf_0 := hR_.frozen 0
    have rf_1 := hR_.frozen 1
    have rf_2 := hR_.frozen 2
    have rf_3 := hR_.frozen 3
    have ra_0 := (hA.cell 0).trans rfl
    have ra_1 := (hA.cell 1).trans rfl
    have raf_0 := hA.frozen 0
    have raf_1 := hA.frozen 1
    obtain ⟨hF4, hF5, hFr, hFx⟩ := fin_do hR_ hA hxw hgw hrq (e := 1) (tx := [])
    go_wp2
    try simp only [Exit.inBlock, Exit.then]
    refine bodyPost_ret (results_cell_cell rfl _ _ (g + 1 + 1) (g + 1 + 1 + 1) 28 33 #[.int .u64 s.now, .int .u64 s.count, .slice A s.links.length c0, .slice B s.sess.length d0] #[.int .i64 (1), str ([])] (0, 0) (0, 0) _ _ rfl hF4 Tryz.underlying28 rfl (by kernel_rfl) rfl hF5 Tryz.underlying33 rfl (by kernel_rfl)) rfl ?_
    exact ⟨s, ⟨1, []⟩, _, _, _, _, hide (by rw [← HRR.out]; unfold rdo ldoW; rw [if_pos H4.out]; unfold ltime; rw [if_pos HT.out]), rfl, hFr, hFx⟩
  ·have HT : Hid (¬ 1099511627776 < c.till) := hide (of_decide_eq_false ht)
   obtain ⟨nw, hnw⟩ : ∃ n, max s.now c.till = n := ⟨_, rfl⟩
   have HNW := hide hnw
   clear hnw
   have b_0 := (hB.cell 0).trans rfl
   have bf_0 := hB.frozen 0
   go_upto_region 5 with fail
   go_cut [] (fun wx => wx = w1.setCell ⟨g, 0, none⟩ (.int .u64 nw))
   case first =>
    go_wp2_with fail
    go_meet
    case rel => rw [HNW.out]
   case rest =>
    clear k_0 k_5 b_0 bf_0
    have hcg : Chg [g] w1 _ := (Chg.refl [g] w1).set (p := ⟨g, 0, none⟩) (by simp) (.int .u64 nw)
    have hB5 := hB.set_ 0 (.int .u64 nw)
    change Blk _ g _ #[.int .u64 nw, .int .u64 s.count, .slice A s.links.length c0, .slice B s.sess.length d0] at hB5
    have hC5 := hC.chg hcg (by simp)
    have hR5 := hR_.chg hcg (by simp; omega)
    have hA5 := hA.chg hcg (by simp; omega)
    have hx5 := hxw.then_ hcg (by simp; omega)
    have hrp5 := stE.chg hrq hcg (fun j hj _ => by have := List.mem_singleton.1 hj; exact .inr (by omega))
    have hs3 := (s3.mono (Y := XQ X g) fun k hk h => h.elim id fun h => by omega).ext hxw
    have hs3' := hs3.chg hcg (fun j hj _ => by have := List.mem_singleton.1 hj; exact .inr (by omega))
    have hsz := hA5.lt
    obtain ⟨W2, hW2⟩ : ∃ W, w1.setCell ⟨g, 0, none⟩ (.int .u64 nw) = W := ⟨_, rfl⟩
    rw [hW2] at hcut hB5 hC5 hR5 hA5 hx5 hrp5 hs3' hsz
    subst hcut
    clear hcg hB hC hR_ hA hxw hrq hs3 hW2 
    obtain ⟨hB, hC, hR_, hA, hxw⟩ := And.intro hB5 (And.intro hC5 (And.intro hR5 (And.intro hA5 hx5)))
    clear hB5 hC5 hR5 hA5 hx5
    obtain ⟨q, hq⟩ : ∃ q, live nw = q := ⟨_, rfl⟩
    have HQ := hide hq
    clear hq
    go_wp2_with fail
    go_loopw [6, 7] (fun l i wr => ∃ (k : Nat) (ls : List Ln) (A1 : Option Addr) (c1 : Nat), k ≤ s.links.length ∧ l = .slice A1 ls.length c1 ∧ i = .int .i64 k ∧ Hid (ls = (s.links.take k).filter q) ∧ Own 53 lnE wc wr (XQ X g) (.slice A1 ls.length c1) ls ∧ Ext wc wr) (fun _ i _ => (s.links.length - intOf i).toNat)
    case atStart => exact ⟨0, [], none, 0, by omega, rfl, rfl, hide rfl, Own.nil _ _ _ _ _, Ext.rfl' _⟩
    case round =>
     obtain ⟨k, ls, A1, c1, hk, rfl, rfl, hls, hown, hxr⟩ := hrel
     replace hB := hB.ext hxr
     replace hC := hC.ext hxr
     replace hR_ := hR_.ext hxr
     replace hA := hA.ext hxr
     replace hrp5 := stE.ext hrp5 hxr
     replace hxw := hxw.trans' hxr
     replace hs3' := hs3'.ext hxr
     have hk0 : (0 : Int) ≤ k := by omega
     have b_2 := (hB.cell 2).trans rfl
     have b_0 := (hB.cell 0).trans rfl
     by_cases hlt : (k : Int) < s.links.length
     ·obtain ⟨ad, y, rfl, hyk, hbp, p0, p1, p2, p3, hw1, hw2, hw3⟩ := ln_at hs3' (k := k) (by omega)
      have hkl : k < s.links.length := by omega
      have HYK := hide hyk.out
      have hlv : q y = (decide (y.till = 0) || decide (nw < y.till)) := by rw [← HQ.out]; rfl
      have HNX : Hid ((s.links.take (k + 1)).filter q = (s.links.take k).filter q ++ (if q y = true then [y] else [])) := hide (by
       obtain ⟨h4, h5⟩ := List.getElem?_eq_some_iff.1 HYK.out
       rw [List.take_succ_eq_append_getElem h4, List.filter_append, h5]
       by_cases h : q y = true
       ·rw [if_pos h]; simp [h]
       ·rw [if_neg h]; simp [h])
      have HLS : Hid (ls.length ≤ k) := hide (by rw [hls.out]; exact Nat.le_trans (List.length_filter_le _ _) (by simp; omega))
      go_upto_region 10 with fail
      go_cut [49] (fun b wx => b = .bool (q y) ∧ Ext wr wx)
      case first =>
       have hdx := (Ext.rfl' wr).drew'
       rcases Bool.eq_false_or_eq_true (y.till == 0) with z | z
       ·have hq1 : q y = true := by rw [hlv]; simp at z; simp [z]
        clear hlv
        go_region
        go_wp2_with fail
        go_meet
        case rel => exact ⟨by rw [hq1], hdx⟩
       ·rcases Bool.eq_false_or_eq_true (decide (nw < y.till)) with z2 | z2
        ·have hq1 : q y = true := by rw [hlv, z2]; simp
         clear hlv
         go_region
         go_wp2_with fail
         go_meet
         case rel => exact ⟨by rw [hq1], hdx⟩
        ·have hq1 : q y = false := by rw [hlv, z2]; simp at z; simp [z]
         clear hlv
         go_region
         go_wp2_with fail
         go_meet
         case rel => exact ⟨by rw [hq1], hdx⟩
      case rest =>
       obtain ⟨rfl, hxc⟩ := hcut
       replace hB := hB.ext hxc
       replace hown := hown.ext hxc
       replace hs3' := hs3'.ext hxc
       replace hxr := hxr.trans' hxc
       clear hlv b_0 b_2 p0 p1 p2 p3 hbp
       obtain ⟨W3, hW3⟩ : ∃ W, W = wc := ⟨_, rfl⟩
       subst hW3
       obtain ⟨ad', y', had, hyk', hbp, p0, p1, p2, p3, -⟩ := ln_at hs3' (k := k) hkl
       obtain rfl := Option.some.inj had
       obtain rfl : y = y' := Option.some.inj (HYK.out.symm.trans hyk'.out)
       have b_2 := (hB.cell 2).trans rfl
       obtain ⟨qy, hqy⟩ : ∃ b, q y = b := ⟨_, rfl⟩
       rw [hqy]
       have HQY := hide hqy
       clear hqy
       cases qy with
       | false =>
        have HF : Hid (ls = (s.links.take (k + 1)).filter q) := hide (by rw [HNX.out, HQY.out, hls.out]; simp)
        go_wp2_with fail
        go_roundw
        case rel => exact ⟨k + 1, ls, A1, c1, by omega, rfl, by go_num, HF, hown, hxr⟩
        case measure => simp [intOf]; omega
       | true =>
        have hxa : Ext W3 (W3.alloc (.cells #[str y.name, str y.url, .int .u64 y.till, .bool y.made] 53)) := (Ext.rfl' W3).alloc' _
        have hlit : Enc.Sl lnE (W3.alloc (.cells #[str y.name, str y.url, .int .u64 y.till, .bool y.made] 53)) (fun j => XQ X g j ∨ (Value.slice A1 ls.length c1).ownBlock = some j) (.slice (some ⟨W3.heap.size, 0, none⟩) 1 1) [y] :=
         Sl.one (E := lnE) 53 (cs := lcells y) (ln_rep.2 ⟨rfl, hw1, hw2, hw3⟩) _ rfl (fun h => by
          have := hB.lt; have := hxr.size
          rcases h with (h | h) | h
          ·have := hXl _ h; omega
          ·omega
          ·have := (hown.lt _ h).2; omega)
        go_wp2_with (at_builtin; refine wpList_own elt_ln 25 Tryz.underlying25 rfl _ _ rfl (hown.ext hxa) rfl (hxr.trans' hxa) (m := [y]) (y := .slice (some ⟨W3.heap.size, 0, none⟩) 1 1) rfl hlit (fun h => by have := (hxr.trans' hxa).size; rcases h with h | h; (have := hXl _ h; omega); omega) (by have := HLS.out; simp only [List.length_singleton]; omega) (by have := HLS.out; simp only [List.length_singleton]; omega) ?_; intro l2 A2 c2 w4 hl2 hown2 hx4 hc4)
        go_roundw
        case rel => exact ⟨k + 1, l2, A2, c2, by omega, rfl, by go_num, hide (by rw [hl2.out, HNX.out, HQY.out, hls.out]; simp), hown2, hx4⟩
        case measure => simp [intOf]; omega
     ·obtain rfl : k = s.links.length := by omega
      have HL : Hid (ls = s.links.filter q) := hide (by rw [hls.out, List.take_length])
      clear hs3' b_0
      have bf_2 := hB.frozen 2
      have hcg : Chg [g] wr _ := (Chg.refl [g] wr).set (p := ⟨g, 2, none⟩) (by simp) (.slice A1 ls.length c1)
      have hB5 := hB.set_ 2 (.slice A1 ls.length c1)
      change Blk _ g _ #[.int .u64 nw, .int .u64 s.count, .slice A1 ls.length c1, .slice B s.sess.length d0] at hB5
      have hC5 := hC.chg hcg (by simp)
      have hR5 := hR_.chg hcg (by simp; omega)
      have hA5 := hA.chg hcg (by simp; omega)
      have hx5 := hxw.then_ hcg (by simp; omega)
      have hrp6 := stE.chg hrp5 hcg (fun j hj _ => by have := List.mem_singleton.1 hj; exact .inr (by omega))
      have hown5 := (hown.chg hcg (fun j hj _ => by have := List.mem_singleton.1 hj; exact .inr (by omega))).sl
      obtain ⟨vl, vs, hcs, q1, q2, q3, q4⟩ := st_rep.1 hrp6
      simp only [List.cons.injEq, and_true, true_and] at hcs
      obtain ⟨rfl, rfl⟩ := hcs
      have hnwU : U64 nw := by
       obtain ⟨u1, u2⟩ := s1
       have := hc.t0
       have := hc.t1
       constructor
       ·rw [← HNW.out]; omega
       ·rw [← HNW.out]; omega
      have hrq : stE.rep _ (XQ X g) [.int .u64 nw, .int .u64 s.count, .slice A1 ls.length c1, .slice B s.sess.length d0] ⟨nw, s.count, ls, s.sess⟩ := st_rep.2 ⟨_, _, rfl, hnwU, q2, hown5, q4⟩
      go_upto_region 13 with fail
      generalize wr.setCell ⟨g, 2, none⟩ (.slice A1 ls.length c1) = W5 at *
      clear hB hC hR_ hA hxw hcg b_2 bf_2 hown hxr hrp5 hrp6 q1 q2 q3 q4 hown5
      obtain ⟨hB, hC, hR_, hA, hxw⟩ := And.intro hB5 (And.intro hC5 (And.intro hR5 (And.intro hA5 hx5)))
      clear hB5 hC5 hR5 hA5 hx5
      refine Rg.regionT Tryz.checked.mixed 95 2 (by kernel_rfl) [
       (fun x_ _ => x_ = .agg #[.int .u64 nw, .int .u64 s.count, .slice A1 ls.length c1, .slice B s.sess.length d0]),
       (fun x_ _ => x_ = .agg #[.int .i64 (0), str ([])])] (fun W => Ext W5 W) Ext rfl rfl rfl
       ?st ((Ext.rfl' W5).drew') ?ob ?en
      case st => exact ⟨fun _ _ _ h _ => h, fun _ _ _ h _ => h, trivial⟩
      case ob =>
       refine ⟨Rg.at_run [2] rfl ?_, ?_⟩
       ·intro ρ W hR ⟨q2, _⟩
        replace q2 : ρ 2 = .pointer (some ⟨g, 0, none⟩) := q2
        refine ⟨rfl, ?_⟩
        have c0_ : W.cell? ⟨g, 0, none⟩ = some (.int .u64 nw) := ((hB.ext hR).cell 0).trans rfl
        have c1_ : W.cell? ⟨g, 1, none⟩ = some (.int .u64 s.count) := ((hB.ext hR).cell 1).trans rfl
        have c2_ : W.cell? ⟨g, 2, none⟩ = some (.slice A1 ls.length c1) := ((hB.ext hR).cell 2).trans rfl
        have c3_ : W.cell? ⟨g, 3, none⟩ = some (.slice B s.sess.length d0) := ((hB.ext hR).cell 3).trans rfl
        exact Rg.run_ok (v := .agg #[.int .u64 nw, .int .u64 s.count, .slice A1 ls.length c1, .slice B s.sess.length d0]) (by simp [execOp, Rg.ev, go_sem, q2, c0_, c1_, c2_, c3_]) ⟨rfl, hR, Ext.rfl' _⟩
       refine ⟨Rg.at_run [] rfl ?_, ?_⟩
       ·intro ρ W hR _
        refine ⟨rfl, ?_⟩
        refine Rg.enter_fn (args := #[str ([])]) rfl (by simp only [List.map_toArray, List.map_cons, List.map_nil, Rg.ev]) (by kernel_rfl) ?_
        refine (rtold_b ([]) W).mono ?_
        rintro e_ w9 ⟨rfl, hxx⟩
        exact ⟨_, rfl, rfl, hR.trans' hxx, hxx⟩
       trivial
      case en =>
       intro tm W hR hsz hk
       rw [Rg.fin_eq (ds := [60, 61]) rfl rfl rfl hsz hk]
       have k60 : tm.getD 60 undef = .agg #[.int .u64 nw, .int .u64 s.count, .slice A1 ls.length c1, .slice B s.sess.length d0] := hk 60
       have k61 : tm.getD 61 undef = .agg #[.int .i64 (0), str ([])] := hk 61
       clear hk hsz
       simp only [Rg.putAll, List.setIfInBounds_toArray, List.set_cons_zero, List.set_cons_succ, k60, k61]
       clear k60
       clear k61
       replace hB := hB.ext hR
       replace hR_ := hR_.ext hR
       replace hA := hA.ext hR
       replace hrq := stE.ext hrq hR
       replace hxw := hxw.trans' hR
       have r_0 := (hR_.cell 0).trans rfl
       have r_1 := (hR_.cell 1).trans rfl
       have r_2 := (hR_.cell 2).trans rfl
       have r_3 := (hR_.cell 3).trans rfl
       have rf_0 := hR_.frozen 0
       have rf_1 := hR_.frozen 1
       have rf_2 := hR_.frozen 2
       have rf_3 := hR_.frozen 3
       have ra_0 := (hA.cell 0).trans rfl
       have ra_1 := (hA.cell 1).trans rfl
       have raf_0 := hA.frozen 0
       have raf_1 := hA.frozen 1
       obtain ⟨hF4, hF5, hFr, hFx⟩ := fin_do hR_ hA hxw hgw hrq (e := 0) (tx := [])
       go_wp2
       try simp only [Exit.inBlock, Exit.then]
       refine bodyPost_ret (results_cell_cell rfl _ _ (g + 1 + 1) (g + 1 + 1 + 1) 28 33 #[.int .u64 nw, .int .u64 s.count, .slice A1 ls.length c1, .slice B s.sess.length d0] #[.int .i64 (0), str ([])] (0, 0) (0, 0) _ _ rfl hF4 Tryz.underlying28 rfl (by kernel_rfl) rfl hF5 Tryz.underlying33 rfl (by kernel_rfl)) rfl ?_
       exact ⟨⟨nw, s.count, ls, s.sess⟩, ⟨0, []⟩, _, _, _, _, hide (by rw [← HRR.out]; unfold rdo ldoW; rw [if_pos H4.out]; unfold ltime; rw [if_neg (by have := HT.out; omega), HNW.out, HL.out, ← HQ.out]), rfl, hFr, hFx⟩
 ·have H4 : Hid (¬ c.kind = 4) := hide (by simpa using h4)
  rcases Bool.eq_false_or_eq_true (c.kind == 1) with h1 | h1
  ·have H1 : Hid (c.kind = 1) := hide (by simpa using h1)
   have HQ := hide (fun W (hx : Ext w1 W) => lrmake_b (XQ X g) s A c0 B d0 c W (hXd W hx) (stE.ext hrq hx) hc hcn hll)
   obtain ⟨⟨t, a⟩, hta⟩ : ∃ q, lmakeW lkput s c = q := ⟨_, rfl⟩
   rw [hta] at HQ
   have HTA := hide hta
   clear hta
   have b_0 := ((hB).cell 0).trans rfl
   have b_1 := ((hB).cell 1).trans rfl
   have b_2 := ((hB).cell 2).trans rfl
   have b_3 := ((hB).cell 3).trans rfl
   have k_0 := ((hC).cell 0).trans rfl
   have k_1 := ((hC).cell 1).trans rfl
   have k_2 := ((hC).cell 2).trans rfl
   have k_3 := ((hC).cell 3).trans rfl
   have k_4 := ((hC).cell 4).trans rfl
   have k_5 := ((hC).cell 5).trans rfl
   go_wp2_with fail
   refine (HQ.out _ (Ext.rfl' _)).mono ?_
   rintro e W2 ⟨t_, a_, A1, c1, A2, c2, he_, rfl, hrp, hxe⟩
   obtain ⟨rfl, rfl⟩ := Prod.mk.inj he_.out
   clear he_ b_0 b_1 b_2 b_3 k_0 k_1 k_2 k_3 k_4 k_5
   replace hB := hB.ext hxe
   replace hC := hC.ext hxe
   replace hR_ := hR_.ext hxe
   replace hA := hA.ext hxe
   replace hrq := stE.ext hrq hxe
   replace hxw := hxw.trans' hxe
   clear hxe
   have r_0 := (hR_.cell 0).trans rfl
   have r_1 := (hR_.cell 1).trans rfl
   have r_2 := (hR_.cell 2).trans rfl
   have r_3 := (hR_.cell 3).trans rfl
   have rf_0 := hR_.frozen 0
   have rf_1 := hR_.frozen 1
   have rf_2 := hR_.frozen 2
   have rf_3 := hR_.frozen 3
   have ra_0 := (hA.cell 0).trans rfl
   have ra_1 := (hA.cell 1).trans rfl
   have raf_0 := hA.frozen 0
   have raf_1 := hA.frozen 1
   obtain ⟨hF4, hF5, hFr, hFx⟩ := fin_do hR_ hA hxw hgw hrp (e := a_.err) (tx := a_.text)
   go_wp2
   try simp only [Exit.inBlock, Exit.then]
   refine bodyPost_ret (results_cell_cell rfl _ _ (g + 1 + 1) (g + 1 + 1 + 1) 28 33 #[.int .u64 t_.now, .int .u64 t_.count, .slice A1 t_.links.length c1, .slice A2 t_.sess.length c2] #[.int .i64 (a_.err), str (a_.text)] (0, 0) (0, 0) _ _ rfl hF4 Tryz.underlying28 rfl (by kernel_rfl) rfl hF5 Tryz.underlying33 rfl (by kernel_rfl)) rfl ?_
   exact ⟨t_, a_, _, _, _, _, hide (by rw [← HRR.out]; unfold rdo ldoW; rw [if_neg H4.out, if_pos H1.out]; rw [HTA.out]), rfl, hFr, hFx⟩
  ·have H1 : Hid (¬ c.kind = 1) := hide (by simpa using h1)
   rcases Bool.eq_false_or_eq_true (c.kind == 2) with h2 | h2
   ·have H2 : Hid (c.kind = 2) := hide (by simpa using h2)
    have HQ := hide (fun W (hx : Ext w1 W) => lrname_b (XQ X g) s A c0 B d0 c W (hXd W hx) (stE.ext hrq hx) hc hcn hll)
    obtain ⟨⟨t, a⟩, hta⟩ : ∃ q, lnameW rfind lkput s c = q := ⟨_, rfl⟩
    rw [hta] at HQ
    have HTA := hide hta
    clear hta
    have b_0 := ((hB).cell 0).trans rfl
    have b_1 := ((hB).cell 1).trans rfl
    have b_2 := ((hB).cell 2).trans rfl
    have b_3 := ((hB).cell 3).trans rfl
    have k_0 := ((hC).cell 0).trans rfl
    have k_1 := ((hC).cell 1).trans rfl
    have k_2 := ((hC).cell 2).trans rfl
    have k_3 := ((hC).cell 3).trans rfl
    have k_4 := ((hC).cell 4).trans rfl
    have k_5 := ((hC).cell 5).trans rfl
    go_wp2_with fail
    refine (HQ.out _ (Ext.rfl' _)).mono ?_
    rintro e W2 ⟨t_, a_, A1, c1, A2, c2, he_, rfl, hrp, hxe⟩
    obtain ⟨rfl, rfl⟩ := Prod.mk.inj he_.out
    clear he_ b_0 b_1 b_2 b_3 k_0 k_1 k_2 k_3 k_4 k_5
    replace hB := hB.ext hxe
    replace hC := hC.ext hxe
    replace hR_ := hR_.ext hxe
    replace hA := hA.ext hxe
    replace hrq := stE.ext hrq hxe
    replace hxw := hxw.trans' hxe
    clear hxe
    have r_0 := (hR_.cell 0).trans rfl
    have r_1 := (hR_.cell 1).trans rfl
    have r_2 := (hR_.cell 2).trans rfl
    have r_3 := (hR_.cell 3).trans rfl
    have rf_0 := hR_.frozen 0
    have rf_1 := hR_.frozen 1
    have rf_2 := hR_.frozen 2
    have rf_3 := hR_.frozen 3
    have ra_0 := (hA.cell 0).trans rfl
    have ra_1 := (hA.cell 1).trans rfl
    have raf_0 := hA.frozen 0
    have raf_1 := hA.frozen 1
    obtain ⟨hF4, hF5, hFr, hFx⟩ := fin_do hR_ hA hxw hgw hrp (e := a_.err) (tx := a_.text)
    go_wp2
    try simp only [Exit.inBlock, Exit.then]
    refine bodyPost_ret (results_cell_cell rfl _ _ (g + 1 + 1) (g + 1 + 1 + 1) 28 33 #[.int .u64 t_.now, .int .u64 t_.count, .slice A1 t_.links.length c1, .slice A2 t_.sess.length c2] #[.int .i64 (a_.err), str (a_.text)] (0, 0) (0, 0) _ _ rfl hF4 Tryz.underlying28 rfl (by kernel_rfl) rfl hF5 Tryz.underlying33 rfl (by kernel_rfl)) rfl ?_
    exact ⟨t_, a_, _, _, _, _, hide (by rw [← HRR.out]; unfold rdo ldoW; rw [if_neg H4.out, if_neg H1.out, if_pos H2.out]; rw [HTA.out]), rfl, hFr, hFx⟩
   ·have H2 : Hid (¬ c.kind = 2) := hide (by simpa using h2)
    rcases Bool.eq_false_or_eq_true (c.kind == 3) with h3 | h3
    ·have H3 : Hid (c.kind = 3) := hide (by simpa using h3)
     obtain ⟨⟨y, is⟩, hf⟩ : ∃ q, rfv s.links c.name = q := ⟨_, rfl⟩
     have HF1 := hide (fun W (hx : Ext w W) => lrfind_b X s A c0 (.slice B s.sess.length d0) c.name W (s3.ext hx) (by omega))
     rw [hf] at HF1
     have HF := hide hf
     clear hf
     have b_0 := ((hB).cell 0).trans rfl
     have b_1 := ((hB).cell 1).trans rfl
     have b_2 := ((hB).cell 2).trans rfl
     have b_3 := ((hB).cell 3).trans rfl
     have k_3 := (hC.cell 3).trans rfl
     go_wp2_with fail
     refine (HF1.out _ hxw).mono ?_
     rintro e W2 ⟨rfl, hxe⟩
     clear b_0 b_1 b_2 b_3 k_3
     replace hB := hB.ext hxe
     replace hC := hC.ext hxe
     replace hR_ := hR_.ext hxe
     replace hA := hA.ext hxe
     replace hrq := stE.ext hrq hxe
     replace hxw := hxw.trans' hxe
     clear hxe
     obtain ⟨gx, hgx⟩ : ∃ g_, W2.heap.size = g_ := ⟨_, rfl⟩
     have hL := Blk.new W2 53 (lcells y).toArray
     rw [hgx] at hL
     have hxe : Ext W2 (W2.alloc (.cells (lcells y).toArray 53)) := (Ext.rfl' _).alloc' _
     replace hB := hB.ext hxe
     replace hC := hC.ext hxe
     replace hR_ := hR_.ext hxe
     replace hA := hA.ext hxe
     replace hrq := stE.ext hrq hxe
     replace hxw := hxw.trans' hxe
     go_upto_region 20 with fail
     try rw [hgx]
     clear hgx hxe k_0
     generalize (W2.alloc (.cells (lcells y).toArray 53)) = W3 at *
     cases is with
     | true =>
      have HFS : Hid (rfind s.links c.name = some y) := hide (by
       have := HF.out
       unfold rfv at this
       cases h : rfind s.links c.name with
       | none => rw [h] at this; simp at this
       | some z => rw [h] at this; simp at this; rw [this])
      go_wp2_with fail
      refine Rg.regionT Tryz.checked.mixed 95 4 (by kernel_rfl) [
       (fun x_ _ => x_ = .agg #[.int .u64 s.now, .int .u64 s.count, .slice A s.links.length c0, .slice B s.sess.length d0]),
       (fun x_ _ => x_ = .pointer (some ⟨gx, 1, none⟩)),
       (fun x_ _ => x_ = str y.url),
       (fun x_ _ => x_ = .agg #[.int .i64 (0), str (y.url)])] (fun W => Ext W3 W) Ext rfl rfl rfl
       ?st ((Ext.rfl' W3).drew') ?ob ?en
      case st => exact ⟨fun _ _ _ h _ => h, fun _ _ _ h _ => h, fun _ _ _ h _ => h, fun _ _ _ h _ => h, trivial⟩
      case ob =>
       refine ⟨Rg.at_run [2] rfl ?_, ?_⟩
       ·intro ρ W hR ⟨q2, _⟩
        replace q2 : ρ 2 = .pointer (some ⟨g, 0, none⟩) := q2
        refine ⟨rfl, ?_⟩
        have c0_ : W.cell? ⟨g, 0, none⟩ = some (.int .u64 s.now) := ((hB.ext hR).cell 0).trans rfl
        have c1_ : W.cell? ⟨g, 1, none⟩ = some (.int .u64 s.count) := ((hB.ext hR).cell 1).trans rfl
        have c2_ : W.cell? ⟨g, 2, none⟩ = some (.slice A s.links.length c0) := ((hB.ext hR).cell 2).trans rfl
        have c3_ : W.cell? ⟨g, 3, none⟩ = some (.slice B s.sess.length d0) := ((hB.ext hR).cell 3).trans rfl
        exact Rg.run_ok (v := .agg #[.int .u64 s.now, .int .u64 s.count, .slice A s.links.length c0, .slice B s.sess.length d0]) (by simp [execOp, Rg.ev, go_sem, q2, c0_, c1_, c2_, c3_]) ⟨rfl, hR, Ext.rfl' _⟩
       refine ⟨Rg.at_run [8] rfl ?_, ?_⟩
       ·intro ρ W hR ⟨q8, _⟩
        replace q8 : ρ 8 = .pointer (some ⟨gx, 0, none⟩) := q8
        refine ⟨rfl, ?_⟩
        exact Rg.run_ok (v := .pointer (some ⟨gx, 1, none⟩)) (by simp [execOp, Rg.ev, go_sem, q8]) ⟨rfl, hR, Ext.rfl' _⟩
       refine ⟨Rg.at_run [90] rfl ?_, ?_⟩
       ·intro ρ W hR ⟨q90, _⟩
        replace q90 : ρ 90 = .pointer (some ⟨gx, 1, none⟩) := q90
        refine ⟨rfl, ?_⟩
        have c1_ : W.cell? ⟨gx, 1, none⟩ = some (str y.url) := ((hL.ext hR).cell 1).trans rfl
        exact Rg.run_ok (v := str y.url) (by simp [execOp, Rg.ev, go_sem, q90, c1_]) ⟨rfl, hR, Ext.rfl' _⟩
       refine ⟨Rg.at_run [91] rfl ?_, ?_⟩
       ·intro ρ W hR ⟨q91, _⟩
        replace q91 : ρ 91 = str y.url := q91
        refine ⟨rfl, ?_⟩
        refine Rg.enter_fn (args := #[str (y.url)]) rfl (by simp only [List.map_toArray, List.map_cons, List.map_nil, Rg.ev, q91]) (by kernel_rfl) ?_
        refine (rtold_b (y.url) W).mono ?_
        rintro e_ w9 ⟨rfl, hxx⟩
        exact ⟨_, rfl, rfl, hR.trans' hxx, hxx⟩
       trivial
      case en =>
       intro tm W hR hsz hk
       rw [Rg.fin_eq (ds := [89, 90, 91, 92]) rfl rfl rfl hsz hk]
       have k89 : tm.getD 89 undef = .agg #[.int .u64 s.now, .int .u64 s.count, .slice A s.links.length c0, .slice B s.sess.length d0] := hk 89
       have k90 : tm.getD 90 undef = .pointer (some ⟨gx, 1, none⟩) := hk 90
       have k91 : tm.getD 91 undef = str y.url := hk 91
       have k92 : tm.getD 92 undef = .agg #[.int .i64 (0), str (y.url)] := hk 92
       clear hk hsz
       simp only [Rg.putAll, List.setIfInBounds_toArray, List.set_cons_zero, List.set_cons_succ, k89, k90, k91, k92]
       clear k89
       clear k90
       clear k91
       clear k92
       replace hB := hB.ext hR
       replace hR_ := hR_.ext hR
       replace hA := hA.ext hR
       replace hrq := stE.ext hrq hR
       replace hxw := hxw.trans' hR
       have r_0 := (hR_.cell 0).trans rfl
       have r_1 := (hR_.cell 1).trans rfl
       have r_2 := (hR_.cell 2).trans rfl
       have r_3 := (hR_.cell 3).trans rfl
       have rf_0 := hR_.frozen 0
       have rf_1 := hR_.frozen 1
       have rf_2 := hR_.frozen 2
       have rf_3 := hR_.frozen 3
       have ra_0 := (hA.cell 0).trans rfl
       have ra_1 := (hA.cell 1).trans rfl
       have raf_0 := hA.frozen 0
       have raf_1 := hA.frozen 1
       obtain ⟨hF4, hF5, hFr, hFx⟩ := fin_do hR_ hA hxw hgw hrq (e := 0) (tx := y.url)
       go_wp2
       try simp only [Exit.inBlock, Exit.then]
       refine bodyPost_ret (results_cell_cell rfl _ _ (g + 1 + 1) (g + 1 + 1 + 1) 28 33 #[.int .u64 s.now, .int .u64 s.count, .slice A s.links.length c0, .slice B s.sess.length d0] #[.int .i64 (0), str (y.url)] (0, 0) (0, 0) _ _ rfl hF4 Tryz.underlying28 rfl (by kernel_rfl) rfl hF5 Tryz.underlying33 rfl (by kernel_rfl)) rfl ?_
       exact ⟨s, ⟨0, y.url⟩, _, _, _, _, hide (by rw [← HRR.out]; unfold rdo ldoW; rw [if_neg H4.out, if_neg H1.out, if_neg H2.out, if_pos H3.out]; unfold lfindW; rw [HFS.out]), rfl, hFr, hFx⟩
     | false =>
      have HFN : Hid (rfind s.links c.name = none) := hide (by
       have := HF.out
       unfold rfv at this
       cases h : rfind s.links c.name with
       | none => rfl
       | some z => rw [h] at this; simp at this)
      go_wp2_with fail
      refine Rg.regionT Tryz.checked.mixed 95 2 (by kernel_rfl) [
       (fun x_ _ => x_ = .agg #[.int .u64 s.now, .int .u64 s.count, .slice A s.links.length c0, .slice B s.sess.length d0]),
       (fun x_ _ => x_ = .agg #[.int .i64 (10), str ([])])] (fun W => Ext W3 W) Ext rfl rfl rfl
       ?st ((Ext.rfl' W3).drew') ?ob ?en
      case st => exact ⟨fun _ _ _ h _ => h, fun _ _ _ h _ => h, trivial⟩
      case ob =>
       refine ⟨Rg.at_run [2] rfl ?_, ?_⟩
       ·intro ρ W hR ⟨q2, _⟩
        replace q2 : ρ 2 = .pointer (some ⟨g, 0, none⟩) := q2
        refine ⟨rfl, ?_⟩
        have c0_ : W.cell? ⟨g, 0, none⟩ = some (.int .u64 s.now) := ((hB.ext hR).cell 0).trans rfl
        have c1_ : W.cell? ⟨g, 1, none⟩ = some (.int .u64 s.count) := ((hB.ext hR).cell 1).trans rfl
        have c2_ : W.cell? ⟨g, 2, none⟩ = some (.slice A s.links.length c0) := ((hB.ext hR).cell 2).trans rfl
        have c3_ : W.cell? ⟨g, 3, none⟩ = some (.slice B s.sess.length d0) := ((hB.ext hR).cell 3).trans rfl
        exact Rg.run_ok (v := .agg #[.int .u64 s.now, .int .u64 s.count, .slice A s.links.length c0, .slice B s.sess.length d0]) (by simp [execOp, Rg.ev, go_sem, q2, c0_, c1_, c2_, c3_]) ⟨rfl, hR, Ext.rfl' _⟩
       refine ⟨Rg.at_run [] rfl ?_, ?_⟩
       ·intro ρ W hR _
        refine ⟨rfl, ?_⟩
        refine Rg.enter_fn (args := #[.int .i64 (10)]) rfl (by simp only [List.map_toArray, List.map_cons, List.map_nil, Rg.ev]) (by kernel_rfl) ?_
        refine (rfails_b (10) W).mono ?_
        rintro e_ w9 ⟨rfl, hxx⟩
        exact ⟨_, rfl, rfl, hR.trans' hxx, hxx⟩
       trivial
      case en =>
       intro tm W hR hsz hk
       rw [Rg.fin_eq (ds := [87, 88]) rfl rfl rfl hsz hk]
       have k87 : tm.getD 87 undef = .agg #[.int .u64 s.now, .int .u64 s.count, .slice A s.links.length c0, .slice B s.sess.length d0] := hk 87
       have k88 : tm.getD 88 undef = .agg #[.int .i64 (10), str ([])] := hk 88
       clear hk hsz
       simp only [Rg.putAll, List.setIfInBounds_toArray, List.set_cons_zero, List.set_cons_succ, k87, k88]
       clear k87
       clear k88
       replace hB := hB.ext hR
       replace hR_ := hR_.ext hR
       replace hA := hA.ext hR
       replace hrq := stE.ext hrq hR
       replace hxw := hxw.trans' hR
       have r_0 := (hR_.cell 0).trans rfl
       have r_1 := (hR_.cell 1).trans rfl
       have r_2 := (hR_.cell 2).trans rfl
       have r_3 := (hR_.cell 3).trans rfl
       have rf_0 := hR_.frozen 0
       have rf_1 := hR_.frozen 1
       have rf_2 := hR_.frozen 2
       have rf_3 := hR_.frozen 3
       have ra_0 := (hA.cell 0).trans rfl
       have ra_1 := (hA.cell 1).trans rfl
       have raf_0 := hA.frozen 0
       have raf_1 := hA.frozen 1
       obtain ⟨hF4, hF5, hFr, hFx⟩ := fin_do hR_ hA hxw hgw hrq (e := 10) (tx := [])
       go_wp2
       try simp only [Exit.inBlock, Exit.then]
       refine bodyPost_ret (results_cell_cell rfl _ _ (g + 1 + 1) (g + 1 + 1 + 1) 28 33 #[.int .u64 s.now, .int .u64 s.count, .slice A s.links.length c0, .slice B s.sess.length d0] #[.int .i64 (10), str ([])] (0, 0) (0, 0) _ _ rfl hF4 Tryz.underlying28 rfl (by kernel_rfl) rfl hF5 Tryz.underlying33 rfl (by kernel_rfl)) rfl ?_
       exact ⟨s, ⟨10, []⟩, _, _, _, _, hide (by rw [← HRR.out]; unfold rdo ldoW; rw [if_neg H4.out, if_neg H1.out, if_neg H2.out, if_pos H3.out]; unfold lfindW; rw [HFN.out]), rfl, hFr, hFx⟩
    ·have H3 : Hid (¬ c.kind = 3) := hide (by simpa using h3)
     go_wp2_with fail
     clear k_0
     refine Rg.regionT Tryz.checked.mixed 95 2 (by kernel_rfl) [
      (fun x_ _ => x_ = .agg #[.int .u64 s.now, .int .u64 s.count, .slice A s.links.length c0, .slice B s.sess.length d0]),
      (fun x_ _ => x_ = .agg #[.int .i64 (1), str ([])])] (fun W => Ext w1 W) Ext rfl rfl rfl
      ?st ((Ext.rfl' w1).drew') ?ob ?en
     case st => exact ⟨fun _ _ _ h _ => h, fun _ _ _ h _ => h, trivial⟩
     case ob =>
      refine ⟨Rg.at_run [2] rfl ?_, ?_⟩
      ·intro ρ W hR ⟨q2, _⟩
       replace q2 : ρ 2 = .pointer (some ⟨g, 0, none⟩) := q2
       refine ⟨rfl, ?_⟩
       have c0_ : W.cell? ⟨g, 0, none⟩ = some (.int .u64 s.now) := ((hB.ext hR).cell 0).trans rfl
       have c1_ : W.cell? ⟨g, 1, none⟩ = some (.int .u64 s.count) := ((hB.ext hR).cell 1).trans rfl
       have c2_ : W.cell? ⟨g, 2, none⟩ = some (.slice A s.links.length c0) := ((hB.ext hR).cell 2).trans rfl
       have c3_ : W.cell? ⟨g, 3, none⟩ = some (.slice B s.sess.length d0) := ((hB.ext hR).cell 3).trans rfl
       exact Rg.run_ok (v := .agg #[.int .u64 s.now, .int .u64 s.count, .slice A s.links.length c0, .slice B s.sess.length d0]) (by simp [execOp, Rg.ev, go_sem, q2, c0_, c1_, c2_, c3_]) ⟨rfl, hR, Ext.rfl' _⟩
      refine ⟨Rg.at_run [] rfl ?_, ?_⟩
      ·intro ρ W hR _
       refine ⟨rfl, ?_⟩
       refine Rg.enter_fn (args := #[.int .i64 (1)]) rfl (by simp only [List.map_toArray, List.map_cons, List.map_nil, Rg.ev]) (by kernel_rfl) ?_
       refine (rfails_b (1) W).mono ?_
       rintro e_ w9 ⟨rfl, hxx⟩
       exact ⟨_, rfl, rfl, hR.trans' hxx, hxx⟩
      trivial
     case en =>
      intro tm W hR hsz hk
      rw [Rg.fin_eq (ds := [93, 94]) rfl rfl rfl hsz hk]
      have k93 : tm.getD 93 undef = .agg #[.int .u64 s.now, .int .u64 s.count, .slice A s.links.length c0, .slice B s.sess.length d0] := hk 93
      have k94 : tm.getD 94 undef = .agg #[.int .i64 (1), str ([])] := hk 94
      clear hk hsz
      simp only [Rg.putAll, List.setIfInBounds_toArray, List.set_cons_zero, List.set_cons_succ, k93, k94]
      clear k93
      clear k94
      replace hB := hB.ext hR
      replace hR_ := hR_.ext hR
      replace hA := hA.ext hR
      replace hrq := stE.ext hrq hR
      replace hxw := hxw.trans' hR
      have r_0 := (hR_.cell 0).trans rfl
      have r_1 := (hR_.cell 1).trans rfl
      have r_2 := (hR_.cell 2).trans rfl
      have r_3 := (hR_.cell 3).trans rfl
      have rf_0 := hR_.frozen 0
      have rf_1 := hR_.frozen 1
      have rf_2 := hR_.frozen 2
      have rf_3 := hR_.frozen 3
      have ra_0 := (hA.cell 0).trans rfl
      have ra_1 := (hA.cell 1).trans rfl
      have raf_0 := hA.frozen 0
      have raf_1 := hA.frozen 1
      obtain ⟨hF4, hF5, hFr, hFx⟩ := fin_do hR_ hA hxw hgw hrq (e := 1) (tx := [])
      go_wp2
      try simp only [Exit.inBlock, Exit.then]
      refine bodyPost_ret (results_cell_cell rfl _ _ (g + 1 + 1) (g + 1 + 1 + 1) 28 33 #[.int .u64 s.now, .int .u64 s.count, .slice A s.links.length c0, .slice B s.sess.length d0] #[.int .i64 (1), str ([])] (0, 0) (0, 0) _ _ rfl hF4 Tryz.underlying28 rfl (by kernel_rfl) rfl hF5 Tryz.underlying33 rfl (by kernel_rfl)) rfl ?_
      exact ⟨s, ⟨1, []⟩, _, _, _, _, hide (by rw [← HRR.out]; unfold rdo ldoW; rw [if_neg H4.out, if_neg H1.out, if_neg H2.out, if_neg H3.out]), rfl, hFr, hFx⟩
end Go.Proofs.YtamimdlaclglkaaGreat
