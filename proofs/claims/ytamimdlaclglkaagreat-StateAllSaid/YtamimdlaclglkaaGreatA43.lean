/- A part of the proof of 'StateAll'. -/
import Derived.Test.YtamimdlaclglkaaGreatA37
namespace Go.Proofs.YtamimdlaclglkaaGreat
set_option linter.unusedVariables false
set_option linter.unusedSimpArgs false
set_option linter.unnecessarySimpa false
set_option maxRecDepth 100000
open Go.RowKit
set_option maxHeartbeats 12800000 in
theorem lrmake_b (X : Avoid) (s : St) (A : Option Addr) (c0 : Nat) (B : Option Addr) (d0 : Nat) (c : Cm) (w : World) (hX : ∀ k, X k → k < w.heap.size) (hs : stE.rep w X [.int .u64 s.now, .int .u64 s.count, .slice A s.links.length c0, .slice B s.sess.length d0] s) (hc : c.wide) (hcn : c.name.length ≤ 1000000) (hll : s.links.length ≤ 1000) :
  Calls Tryz.prog 72 #[.agg #[.int .u64 s.now, .int .u64 s.count, .slice A s.links.length c0, .slice B s.sess.length d0], cv c] w fun e w' => RetDo X w w' e (lmakeW lkput s c) := by
 obtain ⟨vl, vs, hcs, s1, s2, s3, s4⟩ := st_rep.1 hs
 simp only [List.cons.injEq, and_true, true_and] at hcs
 obtain ⟨rfl, rfl⟩ := hcs
 obtain ⟨hB, hC, hR_, hA, hxw⟩ := four_al w 28 37 28 33 #[.int .u64 s.now, .int .u64 s.count, .slice A s.links.length c0, .slice B s.sess.length d0] (ccells c) #[.int .u64 0, .int .u64 0, .slice none 0 0, .slice none 0 0] #[.int .i64 0, str []]
 obtain ⟨g, hg⟩ : ∃ g, w.heap.size = g := ⟨_, rfl⟩
 rw [hg] at hB hC hR_ hA
 have hgw : w.heap.size ≤ g := by omega
 have hXl : ∀ k, X k → k < g := fun k hk => by rw [← hg]; exact hX k hk
 have hrq := stE.ext (stE.mono hs (Y := XQ X g) fun k hk h => h.elim id fun h => by omega) hxw
 obtain ⟨r, hr⟩ : ∃ r, lmakeW lkput s c = r := ⟨_, rfl⟩
 rw [hr]
 have HRR := hide hr
 clear hr
 go_enter Tryz.func72, Tryz.ntmps72
 go_upto_region 1 with fail
 generalize ((((w.alloc (.cells #[.int .u64 s.now, .int .u64 s.count, .slice A s.links.length c0, .slice B s.sess.length d0] 28)).alloc (.cells (ccells c) 37)).alloc (.cells #[.int .u64 0, .int .u64 0, .slice none 0 0, .slice none 0 0] 28)).alloc (.cells #[.int .i64 0, str []] 33)) = w1 at *
 try rw [hg]
 obtain ⟨ek, hek⟩ : ∃ ek, lmay c s.now = ek := ⟨_, rfl⟩
 have HB1 := hide (fun W => rbound_b s c (.slice A s.links.length c0) (.slice B s.sess.length d0) W)
 rw [hek] at HB1
 have HEK := hide hek
 clear hek
 have b_0 := ((hB).cell 0).trans rfl
 have b_1 := ((hB).cell 1).trans rfl
 have b_2 := ((hB).cell 2).trans rfl
 have b_3 := ((hB).cell 3).trans rfl
 have k_0 := ((hC).cell 0).trans rfl
 have k_1 := ((hC).cell 1).trans rfl
 have k_2 := ((hC).cell 2).trans rfl
 have k_3 := ((hC).cell 3).trans rfl
 have k_4 := ((hC).cell 4).trans rfl
 have k_5 := ((hC).cell 5).trans rfl
 go_wp2_with fail
 refine (HB1.out _).mono ?_
 rintro e W1 ⟨rfl, hxe⟩
 clear b_0 b_1 b_2 b_3 k_0 k_1 k_2 k_3 k_4 k_5
 replace hB := hB.ext hxe
 replace hC := hC.ext hxe
 replace hR_ := hR_.ext hxe
 replace hA := hA.ext hxe
 replace hrq := stE.ext hrq hxe
 replace hxw := hxw.trans' hxe
 clear hxe
 rcases Bool.eq_false_or_eq_true (ek != 0) with h0 | h0
 ·have HE0 : Hid (lmay c s.now ≠ 0) := hide (by rw [HEK.out]; simpa using h0)
  go_wp2_with fail
  refine Rg.regionT Tryz.checked.mixed 81 3 (by kernel_rfl) [
   (fun x_ _ => x_ = .agg #[.int .u64 s.now, .int .u64 s.count, .slice A s.links.length c0, .slice B s.sess.length d0]),
   (fun x_ _ => x_ = .int .i64 ek),
   (fun x_ _ => x_ = .agg #[.int .i64 (ek), str ([])])] (fun W => Ext W1 W) Ext rfl rfl rfl
   ?st ((Ext.rfl' W1).drew') ?ob ?en
  case st => exact ⟨fun _ _ _ h _ => h, fun _ _ _ h _ => h, fun _ _ _ h _ => h, trivial⟩
  case ob =>
   refine ⟨Rg.at_run [2] rfl ?_, ?_⟩
   ·intro ρ W hR ⟨q2, _⟩
    replace q2 : ρ 2 = .pointer (some ⟨g, 0, none⟩) := q2
    refine ⟨rfl, ?_⟩
    have c0_ : W.cell? ⟨g, 0, none⟩ = some (.int .u64 s.now) := ((hB.ext hR).cell 0).trans rfl
    have c1_ : W.cell? ⟨g, 1, none⟩ = some (.int .u64 s.count) := ((hB.ext hR).cell 1).trans rfl
    have c2_ : W.cell? ⟨g, 2, none⟩ = some (.slice A s.links.length c0) := ((hB.ext hR).cell 2).trans rfl
    have c3_ : W.cell? ⟨g, 3, none⟩ = some (.slice B s.sess.length d0) := ((hB.ext hR).cell 3).trans rfl
    exact Rg.run_ok (v := .agg #[.int .u64 s.now, .int .u64 s.count, .slice A s.links.length c0, .slice B s.sess.length d0]) (by simp [execOp, Rg.ev, go_sem, q2, c0_, c1_, c2_, c3_]) ⟨rfl, hR, Ext.rfl' _⟩
   refine ⟨Rg.at_run [6] rfl ?_, ?_⟩
   ·intro ρ W hR ⟨q6, _⟩
    replace q6 : ρ 6 = .int .i64 ek := q6
    refine ⟨rfl, ?_⟩
    exact Rg.run_ok (v := .int .i64 ek) (by simp [execOp, Rg.ev, go_sem, q6]) ⟨rfl, hR, Ext.rfl' _⟩
   refine ⟨Rg.at_run [16] rfl ?_, ?_⟩
   ·intro ρ W hR ⟨q16, _⟩
    replace q16 : ρ 16 = .int .i64 ek := q16
    refine ⟨rfl, ?_⟩
    refine Rg.enter_fn (args := #[.int .i64 (ek)]) rfl (by simp only [List.map_toArray, List.map_cons, List.map_nil, Rg.ev, q16]) (by kernel_rfl) ?_
    refine (rfails_b (ek) W).mono ?_
    rintro e_ w9 ⟨rfl, hxx⟩
    exact ⟨_, rfl, rfl, hR.trans' hxx, hxx⟩
   trivial
  case en =>
   intro tm W hR hsz hk
   rw [Rg.fin_eq (ds := [15, 16, 17]) rfl rfl rfl hsz hk]
   have k15 : tm.getD 15 undef = .agg #[.int .u64 s.now, .int .u64 s.count, .slice A s.links.length c0, .slice B s.sess.length d0] := hk 15
   have k16 : tm.getD 16 undef = .int .i64 ek := hk 16
   have k17 : tm.getD 17 undef = .agg #[.int .i64 (ek), str ([])] := hk 17
   clear hk hsz
   simp only [Rg.putAll, List.setIfInBounds_toArray, List.set_cons_zero, List.set_cons_succ, k15, k16, k17]
   clear k15
   clear k16
   clear k17
   replace hB := hB.ext hR
   replace hR_ := hR_.ext hR
   replace hA := hA.ext hR
   replace hrq := stE.ext hrq hR
   replace hxw := hxw.trans' hR
   have r_0 := (hR_.cell 0).trans rfl
   have r_1 := (hR_.cell 1).trans rfl
   have r_2 := (hR_.cell 2).trans rfl
   have r_3 := (hR_.cell 3).trans rfl
   have rf_0 := hR_.frozen 0
   have rf_1 := hR_.frozen 1
   have rf_2 := hR_.frozen 2
   have rf_3 := hR_.frozen 3
   have ra_0 := (hA.cell 0).trans rfl
   have ra_1 := (hA.cell 1).trans rfl
   have raf_0 := hA.frozen 0
   have raf_1 := hA.frozen 1
   obtain ⟨hF4, hF5, hFr, hFx⟩ := fin_do hR_ hA hxw hgw hrq (e := ek) (tx := [])
   go_wp2
   try simp only [Exit.inBlock, Exit.then]
   refine bodyPost_ret (results_cell_cell rfl _ _ (g + 1 + 1) (g + 1 + 1 + 1) 28 33 #[.int .u64 s.now, .int .u64 s.count, .slice A s.links.length c0, .slice B s.sess.length d0] #[.int .i64 (ek), str ([])] (0, 0) (0, 0) _ _ rfl hF4 Tryz.underlying28 rfl (by kernel_rfl) rfl hF5 Tryz.underlying33 rfl (by kernel_rfl)) rfl ?_
   exact ⟨s, ⟨ek, []⟩, _, _, _, _, hide (by rw [← HRR.out]; unfold lmakeW; rw [if_pos HE0.out, HEK.out]), rfl, hFr, hFx⟩
 ·have HE0 : Hid (¬ lmay c s.now ≠ 0) := hide (by rw [HEK.out]; simpa using h0)
  go_wp2_with fail
  go_loopw [7] (fun i wr => ∃ k : Nat, k ≤ s.links.length ∧ i = .int .i64 k ∧ Hid (∀ (j : Nat) (y : Ln), j < k → s.links[j]? = some y → (y.made && lown c y) = false) ∧ Ext W1 wr) (fun i _ => (s.links.length - intOf i).toNat)
  case atStart => exact ⟨0, by omega, rfl, hide (fun j y h => by omega), Ext.rfl' _⟩
  case round =>
   obtain ⟨k, hk, rfl, hno, hxr⟩ := hrel
   have hxr0 := hxr
   replace hB := hB.ext hxr
   replace hC := hC.ext hxr
   replace hR_ := hR_.ext hxr
   replace hA := hA.ext hxr
   replace hrq := stE.ext hrq hxr
   replace hxw := hxw.trans' hxr
   clear hxr
   have hk0 : (0 : Int) ≤ k := by omega
   have b_2 := (hB.cell 2).trans rfl
   by_cases hlt : (k : Int) < s.links.length
   ·obtain ⟨ad, y, rfl, hyk, hbp, p0, p1, p2, p3, -⟩ := ln_at (s3.ext hxw) (k := k) (by omega)
    obtain ⟨gx, hgx⟩ : ∃ g_, wr.heap.size = g_ := ⟨_, rfl⟩
    have hL := Blk.new wr 53 (lcells y).toArray
    rw [hgx] at hL
    have hxe : Ext wr (wr.alloc (.cells (lcells y).toArray 53)) := (Ext.rfl' _).alloc' _
    replace hxr0 := hxr0.trans' hxe
    have HNEXT : ((y.made && lown c y) = false) → Hid (∀ (j : Nat) (z : Ln), j < k + 1 → s.links[j]? = some z → (z.made && lown c z) = false) := fun hf => hide (fun j z hj hz => by
     rcases Nat.lt_or_ge j k with h | h
     ·exact hno.out j z h hz
     ·obtain rfl : j = k := by omega
      obtain rfl := Option.some.inj (hz.symm.trans hyk.out)
      exact hf)
    replace hB := hB.ext hxe
    replace hC := hC.ext hxe
    replace hR_ := hR_.ext hxe
    replace hA := hA.ext hxe
    replace hrq := stE.ext hrq hxe
    replace hxw := hxw.trans' hxe
    go_upto_region 8 with fail
    try rw [hgx]
    clear hgx hxe b_2 p0 p1 p2 p3
    generalize (wr.alloc (.cells (lcells y).toArray 53)) = W3 at *
    have y_1 := (hL.cell 1).trans rfl
    have y_2 := (hL.cell 2).trans rfl
    have y_3 : W3.cell? ⟨gx, 3, none⟩ = some (.bool y.made) := (hL.cell 3).trans rfl
    have k_4 := (hC.cell 4).trans rfl
    have k_5 := (hC.cell 5).trans rfl
    have HYK := hide hyk.out
    rcases Bool.eq_false_or_eq_true y.made with hm | hm
    ·rw [hm] at y_3
     have HM := hide hm
     clear hm
     rcases Bool.eq_false_or_eq_true (y.url == c.url) with hu | hu
     ·rcases Bool.eq_false_or_eq_true (y.till == c.till) with ht | ht
      ·have HO : Hid ((y.made && lown c y) = true) := hide (by unfold lown; simp at hu ht; simp [HM.out, hu, ht])
       clear HNEXT
       go_wp2_with fail
       clear y_1 y_2 y_3 k_4 k_5
       have HFS : Hid (s.links.find? (fun x => x.made && lown c x) = some y) := hide (by
        rw [List.find?_eq_some_iff_getElem]
        obtain ⟨h4, h5⟩ := List.getElem?_eq_some_iff.1 HYK.out
        refine ⟨HO.out, k, h4, h5, fun j hj => ?_⟩
        have := hno.out j _ hj (List.getElem?_eq_getElem (by omega))
        simp [this])
       refine Rg.regionT Tryz.checked.mixed 81 4 (by kernel_rfl) [
        (fun x_ _ => x_ = .agg #[.int .u64 s.now, .int .u64 s.count, .slice (some ad) s.links.length c0, .slice B s.sess.length d0]),
        (fun x_ _ => x_ = .pointer (some ⟨gx, 0, none⟩)),
        (fun x_ _ => x_ = str y.name),
        (fun x_ _ => x_ = .agg #[.int .i64 (0), str (y.name)])] (fun W => Ext W3 W) Ext rfl rfl rfl
        ?st ((Ext.rfl' W3).drew') ?ob ?en
       case st => exact ⟨fun _ _ _ h _ => h, fun _ _ _ h _ => h, fun _ _ _ h _ => h, fun _ _ _ h _ => h, trivial⟩
       case ob =>
        refine ⟨Rg.at_run [2] rfl ?_, ?_⟩
        ·intro ρ W hR ⟨q2, _⟩
         replace q2 : ρ 2 = .pointer (some ⟨g, 0, none⟩) := q2
         refine ⟨rfl, ?_⟩
         have c0_ : W.cell? ⟨g, 0, none⟩ = some (.int .u64 s.now) := ((hB.ext hR).cell 0).trans rfl
         have c1_ : W.cell? ⟨g, 1, none⟩ = some (.int .u64 s.count) := ((hB.ext hR).cell 1).trans rfl
         have c2_ : W.cell? ⟨g, 2, none⟩ = some (.slice (some ad) s.links.length c0) := ((hB.ext hR).cell 2).trans rfl
         have c3_ : W.cell? ⟨g, 3, none⟩ = some (.slice B s.sess.length d0) := ((hB.ext hR).cell 3).trans rfl
         exact Rg.run_ok (v := .agg #[.int .u64 s.now, .int .u64 s.count, .slice (some ad) s.links.length c0, .slice B s.sess.length d0]) (by simp [execOp, Rg.ev, go_sem, q2, c0_, c1_, c2_, c3_]) ⟨rfl, hR, Ext.rfl' _⟩
        refine ⟨Rg.at_run [8] rfl ?_, ?_⟩
        ·intro ρ W hR ⟨q8, _⟩
         replace q8 : ρ 8 = .pointer (some ⟨gx, 0, none⟩) := q8
         refine ⟨rfl, ?_⟩
         exact Rg.run_ok (v := .pointer (some ⟨gx, 0, none⟩)) (by simp [execOp, Rg.ev, go_sem, q8]) ⟨rfl, hR, Ext.rfl' _⟩
        refine ⟨Rg.at_run [47] rfl ?_, ?_⟩
        ·intro ρ W hR ⟨q47, _⟩
         replace q47 : ρ 47 = .pointer (some ⟨gx, 0, none⟩) := q47
         refine ⟨rfl, ?_⟩
         have c0_ : W.cell? ⟨gx, 0, none⟩ = some (str y.name) := ((hL.ext hR).cell 0).trans rfl
         exact Rg.run_ok (v := str y.name) (by simp [execOp, Rg.ev, go_sem, q47, c0_]) ⟨rfl, hR, Ext.rfl' _⟩
        refine ⟨Rg.at_run [48] rfl ?_, ?_⟩
        ·intro ρ W hR ⟨q48, _⟩
         replace q48 : ρ 48 = str y.name := q48
         refine ⟨rfl, ?_⟩
         refine Rg.enter_fn (args := #[str (y.name)]) rfl (by simp only [List.map_toArray, List.map_cons, List.map_nil, Rg.ev, q48]) (by kernel_rfl) ?_
         refine (rtold_b (y.name) W).mono ?_
         rintro e_ w9 ⟨rfl, hxx⟩
         exact ⟨_, rfl, rfl, hR.trans' hxx, hxx⟩
        trivial
       case en =>
        intro tm W hR hsz hk
        rw [Rg.fin_eq (ds := [46, 47, 48, 49]) rfl rfl rfl hsz hk]
        have k46 : tm.getD 46 undef = .agg #[.int .u64 s.now, .int .u64 s.count, .slice (some ad) s.links.length c0, .slice B s.sess.length d0] := hk 46
        have k47 : tm.getD 47 undef = .pointer (some ⟨gx, 0, none⟩) := hk 47
        have k48 : tm.getD 48 undef = str y.name := hk 48
        have k49 : tm.getD 49 undef = .agg #[.int .i64 (0), str (y.name)] := hk 49
        clear hk hsz
        simp only [Rg.putAll, List.setIfInBounds_toArray, List.set_cons_zero, List.set_cons_succ, k46, k47, k48, k49]
        clear k46
        clear k47
        clear k48
        clear k49
        replace hB := hB.ext hR
        replace hR_ := hR_.ext hR
        replace hA := hA.ext hR
        replace hrq := stE.ext hrq hR
        replace hxw := hxw.trans' hR
        have r_0 := (hR_.cell 0).trans rfl
        have r_1 := (hR_.cell 1).trans rfl
        have r_2 := (hR_.cell 2).trans rfl
        have r_3 := (hR_.cell 3).trans rfl
        have rf_0 := hR_.frozen 0
        have rf_1 := hR_.frozen 1
        have rf_2 := hR_.frozen 2
        have rf_3 := hR_.frozen 3
        have ra_0 := (hA.cell 0).trans rfl
        have ra_1 := (hA.cell 1).trans rfl
        have raf_0 := hA.frozen 0
        have raf_1 := hA.frozen 1
        obtain ⟨hF4, hF5, hFr, hFx⟩ := fin_do hR_ hA hxw hgw hrq (e := 0) (tx := y.name)
        go_wp2
        try simp only [Exit.inBlock, Exit.then]
        refine bodyPost_ret (results_cell_cell rfl _ _ (g + 1 + 1) (g + 1 + 1 + 1) 28 33 #[.int .u64 s.now, .int .u64 s.count, .slice (some ad) s.links.length c0, .slice B s.sess.length d0] #[.int .i64 (0), str (y.name)] (0, 0) (0, 0) _ _ rfl hF4 Tryz.underlying28 rfl (by kernel_rfl) rfl hF5 Tryz.underlying33 rfl (by kernel_rfl)) rfl ?_
        exact ⟨s, ⟨0, y.name⟩, _, _, _, _, hide (by rw [← HRR.out]; unfold lmakeW; rw [if_neg HE0.out, HFS.out]), rfl, hFr, hFx⟩
      ·have HNX := HNEXT (by unfold lown; simp at ht; simp [ht])
       clear HNEXT
       go_wp2_with fail
       go_roundw
       case rel => exact ⟨k + 1, by omega, by go_num, HNX, hxr0⟩
       case measure => simp [intOf]; omega
     ·have HNX := HNEXT (by unfold lown; simp at hu; simp [hu])
      clear HNEXT
      go_wp2_with fail
      go_roundw
      case rel => exact ⟨k + 1, by omega, by go_num, HNX, hxr0⟩
      case measure => simp [intOf]; omega
    ·have HNX := HNEXT (by rw [hm]; rfl)
     clear HNEXT
     rw [hm] at y_3
     clear hm
     go_wp2_with fail
     go_roundw
     case rel => exact ⟨k + 1, by omega, by go_num, HNX, hxr0⟩
     case measure => simp [intOf]; omega
   ·obtain rfl : k = s.links.length := by omega
    have HFN : Hid (s.links.find? (fun x => x.made && lown c x) = none) := hide (by
     rw [List.find?_eq_none]
     intro x hx
     obtain ⟨j, hj⟩ := List.mem_iff_getElem?.1 hx
     have := hno.out j x (List.getElem?_eq_some_iff.1 hj).1 hj
     simp [this])
    have b_1 := (hB.cell 1).trans rfl
    have hc0 := s2.1
    have hc1 := s2.2
    obtain ⟨on, hon⟩ : ∃ q, ocode s.count.toNat = q := ⟨_, rfl⟩
    have HCO := hide (fun W => rcode_b s.count W ⟨hc0, hc1⟩)
    rw [hon] at HCO
    obtain ⟨nm, ec⟩ := on
    have HON := hide hon
    clear hno hon
    go_wp2_with fail
    refine (HCO.out _).mono ?_
    rintro e W2 ⟨nm2, ec2, hne2, rfl, hxe⟩
    obtain ⟨rfl, rfl⟩ := Prod.mk.inj hne2.out
    clear b_1 b_2 hne2
    replace hB := hB.ext hxe
    replace hC := hC.ext hxe
    replace hR_ := hR_.ext hxe
    replace hA := hA.ext hxe
    replace hrq := stE.ext hrq hxe
    replace hxw := hxw.trans' hxe
    clear hxe
    have b_2 := (hB.cell 2).trans rfl
    rcases Bool.eq_false_or_eq_true (decide ((40 : Int) ≤ s.links.length)) with hm | hm
    ·have HM : Hid (238328 ≤ s.count ∨ 40 ≤ s.links.length) := hide (.inr (by have := of_decide_eq_true hm; omega))
     go_wp2_with fail
     clear b_2
     refine Rg.regionT Tryz.checked.mixed 81 2 (by kernel_rfl) [
      (fun x_ _ => x_ = .agg #[.int .u64 s.now, .int .u64 s.count, .slice A s.links.length c0, .slice B s.sess.length d0]),
      (fun x_ _ => x_ = .agg #[.int .i64 (12), str ([])])] (fun W => Ext W2 W) Ext rfl rfl rfl
      ?st ((Ext.rfl' W2).drew') ?ob ?en
     case st => exact ⟨fun _ _ _ h _ => h, fun _ _ _ h _ => h, trivial⟩
     case ob =>
      refine ⟨Rg.at_run [2] rfl ?_, ?_⟩
      ·intro ρ W hR ⟨q2, _⟩
       replace q2 : ρ 2 = .pointer (some ⟨g, 0, none⟩) := q2
       refine ⟨rfl, ?_⟩
       have c0_ : W.cell? ⟨g, 0, none⟩ = some (.int .u64 s.now) := ((hB.ext hR).cell 0).trans rfl
       have c1_ : W.cell? ⟨g, 1, none⟩ = some (.int .u64 s.count) := ((hB.ext hR).cell 1).trans rfl
       have c2_ : W.cell? ⟨g, 2, none⟩ = some (.slice A s.links.length c0) := ((hB.ext hR).cell 2).trans rfl
       have c3_ : W.cell? ⟨g, 3, none⟩ = some (.slice B s.sess.length d0) := ((hB.ext hR).cell 3).trans rfl
       exact Rg.run_ok (v := .agg #[.int .u64 s.now, .int .u64 s.count, .slice A s.links.length c0, .slice B s.sess.length d0]) (by simp [execOp, Rg.ev, go_sem, q2, c0_, c1_, c2_, c3_]) ⟨rfl, hR, Ext.rfl' _⟩
      refine ⟨Rg.at_run [] rfl ?_, ?_⟩
      ·intro ρ W hR _
       refine ⟨rfl, ?_⟩
       refine Rg.enter_fn (args := #[.int .i64 (12)]) rfl (by simp only [List.map_toArray, List.map_cons, List.map_nil, Rg.ev]) (by kernel_rfl) ?_
       refine (rfails_b (12) W).mono ?_
       rintro e_ w9 ⟨rfl, hxx⟩
       exact ⟨_, rfl, rfl, hR.trans' hxx, hxx⟩
      trivial
     case en =>
      intro tm W hR hsz hk
      rw [Rg.fin_eq (ds := [64, 65]) rfl rfl rfl hsz hk]
      have k64 : tm.getD 64 undef = .agg #[.int .u64 s.now, .int .u64 s.count, .slice A s.links.length c0, .slice B s.sess.length d0] := hk 64
      have k65 : tm.getD 65 undef = .agg #[.int .i64 (12), str ([])] := hk 65
      clear hk hsz
      simp only [Rg.putAll, List.setIfInBounds_toArray, List.set_cons_zero, List.set_cons_succ, k64, k65]
      clear k64
      clear k65
      replace hB := hB.ext hR
      replace hR_ := hR_.ext hR
      replace hA := hA.ext hR
      replace hrq := stE.ext hrq hR
      replace hxw := hxw.trans' hR
      have r_0 := (hR_.cell 0).trans rfl
      have r_1 := (hR_.cell 1).trans rfl
      have r_2 := (hR_.cell 2).trans rfl
      have r_3 := (hR_.cell 3).trans rfl
      have rf_0 := hR_.frozen 0
      have rf_1 := hR_.frozen 1
      have rf_2 := hR_.frozen 2
      have rf_3 := hR_.frozen 3
      have ra_0 := (hA.cell 0).trans rfl
      have ra_1 := (hA.cell 1).trans rfl
      have raf_0 := hA.frozen 0
      have raf_1 := hA.frozen 1
      obtain ⟨hF4, hF5, hFr, hFx⟩ := fin_do hR_ hA hxw hgw hrq (e := 12) (tx := [])
      go_wp2
      try simp only [Exit.inBlock, Exit.then]
      refine bodyPost_ret (results_cell_cell rfl _ _ (g + 1 + 1) (g + 1 + 1 + 1) 28 33 #[.int .u64 s.now, .int .u64 s.count, .slice A s.links.length c0, .slice B s.sess.length d0] #[.int .i64 (12), str ([])] (0, 0) (0, 0) _ _ rfl hF4 Tryz.underlying28 rfl (by kernel_rfl) rfl hF5 Tryz.underlying33 rfl (by kernel_rfl)) rfl ?_
      exact ⟨s, ⟨12, []⟩, _, _, _, _, hide (by rw [← HRR.out]; unfold lmakeW; rw [if_neg HE0.out, HFN.out]; simp only; rw [if_pos HM.out]), rfl, hFr, hFx⟩
    ·by_cases hcn2 : 238328 ≤ s.count
     ·have HM : Hid (238328 ≤ s.count ∨ 40 ≤ s.links.length) := hide (.inl hcn2)
      obtain ⟨rfl, rfl⟩ : nm2 = [] ∧ ec2 = 12 := by
       have := HON.out
       unfold ocode at this
       rw [if_pos (by omega)] at this
       have := Prod.mk.inj this
       exact ⟨this.1.symm, this.2.symm⟩
      go_wp2_with fail
      clear b_2
      refine Rg.regionT Tryz.checked.mixed 81 2 (by kernel_rfl) [
       (fun x_ _ => x_ = .agg #[.int .u64 s.now, .int .u64 s.count, .slice A s.links.length c0, .slice B s.sess.length d0]),
       (fun x_ _ => x_ = .agg #[.int .i64 (12), str ([])])] (fun W => Ext W2 W) Ext rfl rfl rfl
       ?st ((Ext.rfl' W2).drew') ?ob ?en
      case st => exact ⟨fun _ _ _ h _ => h, fun _ _ _ h _ => h, trivial⟩
      case ob =>
       refine ⟨Rg.at_run [2] rfl ?_, ?_⟩
       ·intro ρ W hR ⟨q2, _⟩
        replace q2 : ρ 2 = .pointer (some ⟨g, 0, none⟩) := q2
        refine ⟨rfl, ?_⟩
        have c0_ : W.cell? ⟨g, 0, none⟩ = some (.int .u64 s.now) := ((hB.ext hR).cell 0).trans rfl
        have c1_ : W.cell? ⟨g, 1, none⟩ = some (.int .u64 s.count) := ((hB.ext hR).cell 1).trans rfl
        have c2_ : W.cell? ⟨g, 2, none⟩ = some (.slice A s.links.length c0) := ((hB.ext hR).cell 2).trans rfl
        have c3_ : W.cell? ⟨g, 3, none⟩ = some (.slice B s.sess.length d0) := ((hB.ext hR).cell 3).trans rfl
        exact Rg.run_ok (v := .agg #[.int .u64 s.now, .int .u64 s.count, .slice A s.links.length c0, .slice B s.sess.length d0]) (by simp [execOp, Rg.ev, go_sem, q2, c0_, c1_, c2_, c3_]) ⟨rfl, hR, Ext.rfl' _⟩
       refine ⟨Rg.at_run [] rfl ?_, ?_⟩
       ·intro ρ W hR _
        refine ⟨rfl, ?_⟩
        refine Rg.enter_fn (args := #[.int .i64 (12)]) rfl (by simp only [List.map_toArray, List.map_cons, List.map_nil, Rg.ev]) (by kernel_rfl) ?_
        refine (rfails_b (12) W).mono ?_
        rintro e_ w9 ⟨rfl, hxx⟩
        exact ⟨_, rfl, rfl, hR.trans' hxx, hxx⟩
       trivial
      case en =>
       intro tm W hR hsz hk
       rw [Rg.fin_eq (ds := [64, 65]) rfl rfl rfl hsz hk]
       have k64 : tm.getD 64 undef = .agg #[.int .u64 s.now, .int .u64 s.count, .slice A s.links.length c0, .slice B s.sess.length d0] := hk 64
       have k65 : tm.getD 65 undef = .agg #[.int .i64 (12), str ([])] := hk 65
       clear hk hsz
       simp only [Rg.putAll, List.setIfInBounds_toArray, List.set_cons_zero, List.set_cons_succ, k64, k65]
       clear k64
       clear k65
       replace hB := hB.ext hR
       replace hR_ := hR_.ext hR
       replace hA := hA.ext hR
       replace hrq := stE.ext hrq hR
       replace hxw := hxw.trans' hR
       have r_0 := (hR_.cell 0).trans rfl
       have r_1 := (hR_.cell 1).trans rfl
       have r_2 := (hR_.cell 2).trans rfl
       have r_3 := (hR_.cell 3).trans rfl
       have rf_0 := hR_.frozen 0
       have rf_1 := hR_.frozen 1
       have rf_2 := hR_.frozen 2
       have rf_3 := hR_.frozen 3
       have ra_0 := (hA.cell 0).trans rfl
       have ra_1 := (hA.cell 1).trans rfl
       have raf_0 := hA.frozen 0
       have raf_1 := hA.frozen 1
       obtain ⟨hF4, hF5, hFr, hFx⟩ := fin_do hR_ hA hxw hgw hrq (e := 12) (tx := [])
       go_wp2
       try simp only [Exit.inBlock, Exit.then]
       refine bodyPost_ret (results_cell_cell rfl _ _ (g + 1 + 1) (g + 1 + 1 + 1) 28 33 #[.int .u64 s.now, .int .u64 s.count, .slice A s.links.length c0, .slice B s.sess.length d0] #[.int .i64 (12), str ([])] (0, 0) (0, 0) _ _ rfl hF4 Tryz.underlying28 rfl (by kernel_rfl) rfl hF5 Tryz.underlying33 rfl (by kernel_rfl)) rfl ?_
       exact ⟨s, ⟨12, []⟩, _, _, _, _, hide (by rw [← HRR.out]; unfold lmakeW; rw [if_neg HE0.out, HFN.out]; simp only; rw [if_pos HM.out]), rfl, hFr, hFx⟩
     ·have HM : Hid (¬ (238328 ≤ s.count ∨ 40 ≤ s.links.length)) := hide (fun h => h.elim hcn2 fun h => by have := of_decide_eq_false hm; omega)
      obtain ⟨rfl, rfl⟩ : nm2 = code3 s.count.toNat ∧ ec2 = 0 := by
       have := HON.out
       rw [ocode_lt _ (by omega)] at this
       have := Prod.mk.inj this
       exact ⟨this.1.symm, this.2.symm⟩
      obtain ⟨cn, hcn_⟩ : ∃ q, code3 s.count.toNat = q := ⟨_, rfl⟩
      have hcnl : cn.length = 3 := by rw [← hcn_]; rfl
      rw [hcn_]
      have HCN := hide hcn_
      clear hcn_ HON HCO
      obtain ⟨lk, hlk⟩ : ∃ l, l = lkput s.links ⟨cn, c.url, c.till, true⟩ := ⟨_, rfl⟩
      have HLK := hide hlk
      clear hlk
      have HPUT := hide (fun W (hR : Ext W2 W) => lrput_b (XQ X g) s A c0 B d0 ⟨cn, c.url, c.till, true⟩ W (fun k hk => Nat.lt_of_lt_of_le (hk.elim (fun h => by have := hXl k h; have := hA.lt; omega) fun h => by have := hA.lt; omega) hR.size) (stE.ext hrq hR) (by simp only [maxLen]; omega) hc.u1 ⟨hc.t0, hc.t1⟩ (by omega))
      have hwr : IntKind.u64.wrap (s.count + 1) = s.count + 1 := IntWalk.u64_in _ ⟨by omega, by omega⟩
      clear b_2
      have b_0 := ((hB).cell 0).trans rfl
      have b_1 := ((hB).cell 1).trans rfl
      have b_2 := ((hB).cell 2).trans rfl
      have b_3 := ((hB).cell 3).trans rfl
      have k_0 := ((hC).cell 0).trans rfl
      have k_1 := ((hC).cell 1).trans rfl
      have k_2 := ((hC).cell 2).trans rfl
      have k_3 := ((hC).cell 3).trans rfl
      have k_4 := ((hC).cell 4).trans rfl
      have k_5 := ((hC).cell 5).trans rfl
      go_wp2_with fail
      refine (HPUT.out _ (Ext.rfl' _)).mono ?_
      rintro e W4 ⟨l_, A1, c1, hl_, rfl, hrp, hxe⟩
      obtain rfl : l_ = lk := hl_.out.trans HLK.out.symm
      clear b_0 b_1 b_2 b_3 k_0 k_1 k_2 k_3 k_4 k_5
      replace hB := hB.ext hxe
      replace hC := hC.ext hxe
      replace hR_ := hR_.ext hxe
      replace hA := hA.ext hxe
      replace hrq := stE.ext hrq hxe
      replace hxw := hxw.trans' hxe
      clear hxe
      have b_0 := ((hB).cell 0).trans rfl
      have b_1 := ((hB).cell 1).trans rfl
      have b_2 := ((hB).cell 2).trans rfl
      have b_3 := ((hB).cell 3).trans rfl
      have bf_0 := hB.frozen 0
      have bf_1 := hB.frozen 1
      have bf_2 := hB.frozen 2
      have bf_3 := hB.frozen 3
      have hcg : Chg [g] W4 _ := ((Chg.refl [g] W4).four (g := g) (by simp) (.int .u64 s.now) (.int .u64 s.count) (.slice A1 l_.length c1) (.slice B s.sess.length d0)).set (p := ⟨g, 1, none⟩) (by simp) (.int .u64 (s.count + 1))
      have hB5 := (Blk.four hB (.int .u64 s.now) (.int .u64 s.count) (.slice A1 l_.length c1) (.slice B s.sess.length d0)).set_ 1 (.int .u64 (s.count + 1))
      have hC5 := hC.chg hcg (by simp)
      have hR5 := hR_.chg hcg (by simp; omega)
      have hA5 := hA.chg hcg (by simp; omega)
      have hx5 := hxw.then_ hcg (by simp; omega)
      have hrp5 := stE.chg hrp hcg (fun j hj _ => by have := List.mem_singleton.1 hj; exact .inr (by omega))
      go_upto_region 15 with fail
      generalize (((((W4.setCell ⟨g, 0, none⟩ (.int .u64 s.now)).setCell ⟨g, 1, none⟩ (.int .u64 s.count)).setCell ⟨g, 2, none⟩ (.slice A1 l_.length c1)).setCell ⟨g, 3, none⟩ (.slice B s.sess.length d0)).setCell ⟨g, 1, none⟩ (.int .u64 (s.count + 1))) = W5 at *
      clear hcg hB hC hR_ hA hxw hrq hrp b_0 b_1 b_2 b_3 bf_0 bf_1 bf_2 bf_3
      obtain ⟨hB, hC, hR_, hA, hxw⟩ := And.intro hB5 (And.intro hC5 (And.intro hR5 (And.intro hA5 hx5)))
      obtain ⟨vl, vs, hcs, q1, q2, q3, q4⟩ := st_rep.1 hrp5
      simp only [List.cons.injEq, and_true, true_and] at hcs
      obtain ⟨rfl, rfl⟩ := hcs
      have hrq : stE.rep W5 (XQ X g) [.int .u64 s.now, .int .u64 (s.count + 1), .slice A1 l_.length c1, .slice B s.sess.length d0] ⟨s.now, s.count + 1, l_, s.sess⟩ := st_rep.2 ⟨_, _, rfl, q1, ⟨by show 0 ≤ s.count + 1; omega, by show s.count + 1 ≤ _; omega⟩, q3, q4⟩
      clear hB5 hC5 hR5 hA5 hx5 hrp5 q1 q2 q3 q4
      refine Rg.regionT Tryz.checked.mixed 81 3 (by kernel_rfl) [
       (fun x_ _ => x_ = .agg #[.int .u64 s.now, .int .u64 (s.count + 1), .slice A1 l_.length c1, .slice B s.sess.length d0]),
       (fun x_ _ => x_ = str cn),
       (fun x_ _ => x_ = .agg #[.int .i64 (0), str (cn)])] (fun W => Ext W5 W) Ext rfl rfl rfl
       ?st ((Ext.rfl' W5).drew') ?ob ?en
      case st => exact ⟨fun _ _ _ h _ => h, fun _ _ _ h _ => h, fun _ _ _ h _ => h, trivial⟩
      case ob =>
       refine ⟨Rg.at_run [2] rfl ?_, ?_⟩
       ·intro ρ W hR ⟨q2, _⟩
        replace q2 : ρ 2 = .pointer (some ⟨g, 0, none⟩) := q2
        refine ⟨rfl, ?_⟩
        have c0_ : W.cell? ⟨g, 0, none⟩ = some (.int .u64 s.now) := ((hB.ext hR).cell 0).trans rfl
        have c1_ : W.cell? ⟨g, 1, none⟩ = some (.int .u64 (s.count + 1)) := ((hB.ext hR).cell 1).trans rfl
        have c2_ : W.cell? ⟨g, 2, none⟩ = some (.slice A1 l_.length c1) := ((hB.ext hR).cell 2).trans rfl
        have c3_ : W.cell? ⟨g, 3, none⟩ = some (.slice B s.sess.length d0) := ((hB.ext hR).cell 3).trans rfl
        exact Rg.run_ok (v := .agg #[.int .u64 s.now, .int .u64 (s.count + 1), .slice A1 l_.length c1, .slice B s.sess.length d0]) (by simp [execOp, Rg.ev, go_sem, q2, c0_, c1_, c2_, c3_]) ⟨rfl, hR, Ext.rfl' _⟩
       refine ⟨Rg.at_run [9] rfl ?_, ?_⟩
       ·intro ρ W hR ⟨q9, _⟩
        replace q9 : ρ 9 = str cn := q9
        refine ⟨rfl, ?_⟩
        exact Rg.run_ok (v := str cn) (by simp [execOp, Rg.ev, go_sem, q9]) ⟨rfl, hR, Ext.rfl' _⟩
       refine ⟨Rg.at_run [79] rfl ?_, ?_⟩
       ·intro ρ W hR ⟨q79, _⟩
        replace q79 : ρ 79 = str cn := q79
        refine ⟨rfl, ?_⟩
        refine Rg.enter_fn (args := #[str (cn)]) rfl (by simp only [List.map_toArray, List.map_cons, List.map_nil, Rg.ev, q79]) (by kernel_rfl) ?_
        refine (rtold_b (cn) W).mono ?_
        rintro e_ w9 ⟨rfl, hxx⟩
        exact ⟨_, rfl, rfl, hR.trans' hxx, hxx⟩
       trivial
      case en =>
       intro tm W hR hsz hk
       rw [Rg.fin_eq (ds := [78, 79, 80]) rfl rfl rfl hsz hk]
       have k78 : tm.getD 78 undef = .agg #[.int .u64 s.now, .int .u64 (s.count + 1), .slice A1 l_.length c1, .slice B s.sess.length d0] := hk 78
       have k79 : tm.getD 79 undef = str cn := hk 79
       have k80 : tm.getD 80 undef = .agg #[.int .i64 (0), str (cn)] := hk 80
       clear hk hsz
       simp only [Rg.putAll, List.setIfInBounds_toArray, List.set_cons_zero, List.set_cons_succ, k78, k79, k80]
       clear k78
       clear k79
       clear k80
       replace hB := hB.ext hR
       replace hR_ := hR_.ext hR
       replace hA := hA.ext hR
       replace hrq := stE.ext hrq hR
       replace hxw := hxw.trans' hR
       have r_0 := (hR_.cell 0).trans rfl
       have r_1 := (hR_.cell 1).trans rfl
       have r_2 := (hR_.cell 2).trans rfl
       have r_3 := (hR_.cell 3).trans rfl
       have rf_0 := hR_.frozen 0
       have rf_1 := hR_.frozen 1
       have rf_2 := hR_.frozen 2
       have rf_3 := hR_.frozen 3
       have ra_0 := (hA.cell 0).trans rfl
       have ra_1 := (hA.cell 1).trans rfl
       have raf_0 := hA.frozen 0
       have raf_1 := hA.frozen 1
       obtain ⟨hF4, hF5, hFr, hFx⟩ := fin_do hR_ hA hxw hgw hrq (e := 0) (tx := cn)
       go_wp2
       try simp only [Exit.inBlock, Exit.then]
       refine bodyPost_ret (results_cell_cell rfl _ _ (g + 1 + 1) (g + 1 + 1 + 1) 28 33 #[.int .u64 s.now, .int .u64 (s.count + 1), .slice A1 l_.length c1, .slice B s.sess.length d0] #[.int .i64 (0), str (cn)] (0, 0) (0, 0) _ _ rfl hF4 Tryz.underlying28 rfl (by kernel_rfl) rfl hF5 Tryz.underlying33 rfl (by kernel_rfl)) rfl ?_
       exact ⟨⟨s.now, s.count + 1, l_, s.sess⟩, ⟨0, cn⟩, _, _, _, _, hide (by rw [← HRR.out]; unfold lmakeW; rw [if_neg HE0.out, HFN.out]; simp only; rw [if_neg HM.out, HCN.out, HLK.out]), rfl, hFr, hFx⟩
end Go.Proofs.YtamimdlaclglkaaGreat
