/- A part of the proof of 'StateAll'. -/
import Derived.Test.YtamimdlaclglkaaGreatA37
namespace Go.Proofs.YtamimdlaclglkaaGreat
set_option linter.unusedVariables false
set_option linter.unusedSimpArgs false
set_option linter.unnecessarySimpa false
set_option maxRecDepth 100000
open Go.RowKit
set_option maxHeartbeats 12800000 in
theorem lrname_b (X : Avoid) (s : St) (A : Option Addr) (c0 : Nat) (B : Option Addr) (d0 : Nat) (c : Cm) (w : World) (hX : ∀ k, X k → k < w.heap.size) (hs : stE.rep w X [.int .u64 s.now, .int .u64 s.count, .slice A s.links.length c0, .slice B s.sess.length d0] s) (hc : c.wide) (hcn : c.name.length ≤ 1000000) (hll : s.links.length ≤ 1000) :
  Calls Tryz.prog 73 #[.agg #[.int .u64 s.now, .int .u64 s.count, .slice A s.links.length c0, .slice B s.sess.length d0], cv c] w fun e w' => RetDo X w w' e (lnameW rfind lkput s c) := by
 obtain ⟨vl, vs, hcs, s1, s2, s3, s4⟩ := st_rep.1 hs
 simp only [List.cons.injEq, and_true, true_and] at hcs
 obtain ⟨rfl, rfl⟩ := hcs
 obtain ⟨hB, hC, hR_, hA, hxw⟩ := four_al w 28 37 28 33 #[.int .u64 s.now, .int .u64 s.count, .slice A s.links.length c0, .slice B s.sess.length d0] (ccells c) #[.int .u64 0, .int .u64 0, .slice none 0 0, .slice none 0 0] #[.int .i64 0, str []]
 obtain ⟨g, hg⟩ : ∃ g, w.heap.size = g := ⟨_, rfl⟩
 rw [hg] at hB hC hR_ hA
 have hgw : w.heap.size ≤ g := by omega
 have hXl : ∀ k, X k → k < g := fun k hk => by rw [← hg]; exact hX k hk
 have hrq := stE.ext (stE.mono hs (Y := XQ X g) fun k hk h => h.elim id fun h => by omega) hxw
 obtain ⟨r, hr⟩ : ∃ r, lnameW rfind lkput s c = r := ⟨_, rfl⟩
 rw [hr]
 have HRR := hide hr
 clear hr
 go_enter Tryz.func73, Tryz.ntmps73
 go_upto_region 1 with fail
 generalize ((((w.alloc (.cells #[.int .u64 s.now, .int .u64 s.count, .slice A s.links.length c0, .slice B s.sess.length d0] 28)).alloc (.cells (ccells c) 37)).alloc (.cells #[.int .u64 0, .int .u64 0, .slice none 0 0, .slice none 0 0] 28)).alloc (.cells #[.int .i64 0, str []] 33)) = w1 at *
 try rw [hg]
 obtain ⟨al, hal⟩ : ∃ al, isAlias c.name = al := ⟨_, rfl⟩
 have HAL := hide hal
 have HA1 := hide (fun W => ralias_b ⟨c.name.toArray⟩ W (by simp [ByteArray.size]; omega))
 change Hid (∀ W, Calls Tryz.prog 104 #[str c.name] W fun e w' => e = .returned (.bool (isAlias c.name)) ∧ W = w') at HA1
 rw [hal] at HA1
 clear hal
 have c_3 := (hC.cell 3).trans rfl
 go_wp2_with fail
 refine (HA1.out _).mono ?_
 rintro e W1 ⟨rfl, hW1⟩
 subst hW1
 clear c_3
 cases al with
 | false =>
  go_wp2_with fail
  refine Rg.regionT Tryz.checked.mixed 73 2 (by kernel_rfl) [
   (fun x_ _ => x_ = .agg #[.int .u64 s.now, .int .u64 s.count, .slice A s.links.length c0, .slice B s.sess.length d0]),
   (fun x_ _ => x_ = .agg #[.int .i64 (9), str ([])])] (fun W => Ext w1 W) Ext rfl rfl rfl
   ?st ((Ext.rfl' w1).drew') ?ob ?en
  case st => exact ⟨fun _ _ _ h _ => h, fun _ _ _ h _ => h, trivial⟩
  case ob =>
   refine ⟨Rg.at_run [2] rfl ?_, ?_⟩
   ·intro ρ W hR ⟨q2, _⟩
    replace q2 : ρ 2 = .pointer (some ⟨g, 0, none⟩) := q2
    refine ⟨rfl, ?_⟩
    have c0_ : W.cell? ⟨g, 0, none⟩ = some (.int .u64 s.now) := ((hB.ext hR).cell 0).trans rfl
    have c1_ : W.cell? ⟨g, 1, none⟩ = some (.int .u64 s.count) := ((hB.ext hR).cell 1).trans rfl
    have c2_ : W.cell? ⟨g, 2, none⟩ = some (.slice A s.links.length c0) := ((hB.ext hR).cell 2).trans rfl
    have c3_ : W.cell? ⟨g, 3, none⟩ = some (.slice B s.sess.length d0) := ((hB.ext hR).cell 3).trans rfl
    exact Rg.run_ok (v := .agg #[.int .u64 s.now, .int .u64 s.count, .slice A s.links.length c0, .slice B s.sess.length d0]) (by simp [execOp, Rg.ev, go_sem, q2, c0_, c1_, c2_, c3_]) ⟨rfl, hR, Ext.rfl' _⟩
   refine ⟨Rg.at_run [] rfl ?_, ?_⟩
   ·intro ρ W hR _
    refine ⟨rfl, ?_⟩
    refine Rg.enter_fn (args := #[.int .i64 (9)]) rfl (by simp only [List.map_toArray, List.map_cons, List.map_nil, Rg.ev]) (by kernel_rfl) ?_
    refine (rfails_b (9) W).mono ?_
    rintro e_ w9 ⟨rfl, hxx⟩
    exact ⟨_, rfl, rfl, hR.trans' hxx, hxx⟩
   trivial
  case en =>
   intro tm W hR hsz hk
   rw [Rg.fin_eq (ds := [13, 14]) rfl rfl rfl hsz hk]
   have k13 : tm.getD 13 undef = .agg #[.int .u64 s.now, .int .u64 s.count, .slice A s.links.length c0, .slice B s.sess.length d0] := hk 13
   have k14 : tm.getD 14 undef = .agg #[.int .i64 (9), str ([])] := hk 14
   clear hk hsz
   simp only [Rg.putAll, List.setIfInBounds_toArray, List.set_cons_zero, List.set_cons_succ, k13, k14]
   clear k13
   clear k14
   replace hB := hB.ext hR
   replace hR_ := hR_.ext hR
   replace hA := hA.ext hR
   replace hrq := stE.ext hrq hR
   replace hxw := hxw.trans' hR
   have r_0 := (hR_.cell 0).trans rfl
   have r_1 := (hR_.cell 1).trans rfl
   have r_2 := (hR_.cell 2).trans rfl
   have r_3 := (hR_.cell 3).trans rfl
   have rf_0 := hR_.frozen 0
   have rf_1 := hR_.frozen 1
   have rf_2 := hR_.frozen 2
   have rf_3 := hR_.frozen 3
   have ra_0 := (hA.cell 0).trans rfl
   have ra_1 := (hA.cell 1).trans rfl
   have raf_0 := hA.frozen 0
   have raf_1 := hA.frozen 1
   obtain ⟨hF4, hF5, hFr, hFx⟩ := fin_do hR_ hA hxw hgw hrq (e := 9) (tx := [])
   go_wp2
   try simp only [Exit.inBlock, Exit.then]
   refine bodyPost_ret (results_cell_cell rfl _ _ (g + 1 + 1) (g + 1 + 1 + 1) 28 33 #[.int .u64 s.now, .int .u64 s.count, .slice A s.links.length c0, .slice B s.sess.length d0] #[.int .i64 (9), str ([])] (0, 0) (0, 0) _ _ rfl hF4 Tryz.underlying28 rfl (by kernel_rfl) rfl hF5 Tryz.underlying33 rfl (by kernel_rfl)) rfl ?_
   exact ⟨s, ⟨9, []⟩, _, _, _, _, hide (by rw [← HRR.out]; unfold lnameW; rw [if_pos HAL.out]), rfl, hFr, hFx⟩
 | true =>
  obtain ⟨ek, hek⟩ : ∃ ek, lmay c s.now = ek := ⟨_, rfl⟩
  have HB1 := hide (fun W => rbound_b s c (.slice A s.links.length c0) (.slice B s.sess.length d0) W)
  rw [hek] at HB1
  have HEK := hide hek
  clear hek
  have b_0 := ((hB).cell 0).trans rfl
  have b_1 := ((hB).cell 1).trans rfl
  have b_2 := ((hB).cell 2).trans rfl
  have b_3 := ((hB).cell 3).trans rfl
  have k_0 := ((hC).cell 0).trans rfl
  have k_1 := ((hC).cell 1).trans rfl
  have k_2 := ((hC).cell 2).trans rfl
  have k_3 := ((hC).cell 3).trans rfl
  have k_4 := ((hC).cell 4).trans rfl
  have k_5 := ((hC).cell 5).trans rfl
  go_wp2_with fail
  refine (HB1.out _).mono ?_
  rintro e W1 ⟨rfl, hxe⟩
  clear b_0 b_1 b_2 b_3 k_0 k_1 k_2 k_3 k_4 k_5
  replace hB := hB.ext hxe
  replace hC := hC.ext hxe
  replace hR_ := hR_.ext hxe
  replace hA := hA.ext hxe
  replace hrq := stE.ext hrq hxe
  replace hxw := hxw.trans' hxe
  clear hxe
  rcases Bool.eq_false_or_eq_true (ek != 0) with h0 | h0
  ·have HE0 : Hid (lmay c s.now ≠ 0) := hide (by rw [HEK.out]; simpa using h0)
   go_wp2_with fail
   refine Rg.regionT Tryz.checked.mixed 73 3 (by kernel_rfl) [
    (fun x_ _ => x_ = .agg #[.int .u64 s.now, .int .u64 s.count, .slice A s.links.length c0, .slice B s.sess.length d0]),
    (fun x_ _ => x_ = .int .i64 ek),
    (fun x_ _ => x_ = .agg #[.int .i64 (ek), str ([])])] (fun W => Ext W1 W) Ext rfl rfl rfl
    ?st ((Ext.rfl' W1).drew') ?ob ?en
   case st => exact ⟨fun _ _ _ h _ => h, fun _ _ _ h _ => h, fun _ _ _ h _ => h, trivial⟩
   case ob =>
    refine ⟨Rg.at_run [2] rfl ?_, ?_⟩
    ·intro ρ W hR ⟨q2, _⟩
     replace q2 : ρ 2 = .pointer (some ⟨g, 0, none⟩) := q2
     refine ⟨rfl, ?_⟩
     have c0_ : W.cell? ⟨g, 0, none⟩ = some (.int .u64 s.now) := ((hB.ext hR).cell 0).trans rfl
     have c1_ : W.cell? ⟨g, 1, none⟩ = some (.int .u64 s.count) := ((hB.ext hR).cell 1).trans rfl
     have c2_ : W.cell? ⟨g, 2, none⟩ = some (.slice A s.links.length c0) := ((hB.ext hR).cell 2).trans rfl
     have c3_ : W.cell? ⟨g, 3, none⟩ = some (.slice B s.sess.length d0) := ((hB.ext hR).cell 3).trans rfl
     exact Rg.run_ok (v := .agg #[.int .u64 s.now, .int .u64 s.count, .slice A s.links.length c0, .slice B s.sess.length d0]) (by simp [execOp, Rg.ev, go_sem, q2, c0_, c1_, c2_, c3_]) ⟨rfl, hR, Ext.rfl' _⟩
    refine ⟨Rg.at_run [6] rfl ?_, ?_⟩
    ·intro ρ W hR ⟨q6, _⟩
     replace q6 : ρ 6 = .int .i64 ek := q6
     refine ⟨rfl, ?_⟩
     exact Rg.run_ok (v := .int .i64 ek) (by simp [execOp, Rg.ev, go_sem, q6]) ⟨rfl, hR, Ext.rfl' _⟩
    refine ⟨Rg.at_run [21] rfl ?_, ?_⟩
    ·intro ρ W hR ⟨q21, _⟩
     replace q21 : ρ 21 = .int .i64 ek := q21
     refine ⟨rfl, ?_⟩
     refine Rg.enter_fn (args := #[.int .i64 (ek)]) rfl (by simp only [List.map_toArray, List.map_cons, List.map_nil, Rg.ev, q21]) (by kernel_rfl) ?_
     refine (rfails_b (ek) W).mono ?_
     rintro e_ w9 ⟨rfl, hxx⟩
     exact ⟨_, rfl, rfl, hR.trans' hxx, hxx⟩
    trivial
   case en =>
    intro tm W hR hsz hk
    rw [Rg.fin_eq (ds := [20, 21, 22]) rfl rfl rfl hsz hk]
    have k20 : tm.getD 20 undef = .agg #[.int .u64 s.now, .int .u64 s.count, .slice A s.links.length c0, .slice B s.sess.length d0] := hk 20
    have k21 : tm.getD 21 undef = .int .i64 ek := hk 21
    have k22 : tm.getD 22 undef = .agg #[.int .i64 (ek), str ([])] := hk 22
    clear hk hsz
    simp only [Rg.putAll, List.setIfInBounds_toArray, List.set_cons_zero, List.set_cons_succ, k20, k21, k22]
    clear k20
    clear k21
    clear k22
    replace hB := hB.ext hR
    replace hR_ := hR_.ext hR
    replace hA := hA.ext hR
    replace hrq := stE.ext hrq hR
    replace hxw := hxw.trans' hR
    have r_0 := (hR_.cell 0).trans rfl
    have r_1 := (hR_.cell 1).trans rfl
    have r_2 := (hR_.cell 2).trans rfl
    have r_3 := (hR_.cell 3).trans rfl
    have rf_0 := hR_.frozen 0
    have rf_1 := hR_.frozen 1
    have rf_2 := hR_.frozen 2
    have rf_3 := hR_.frozen 3
    have ra_0 := (hA.cell 0).trans rfl
    have ra_1 := (hA.cell 1).trans rfl
    have raf_0 := hA.frozen 0
    have raf_1 := hA.frozen 1
    obtain ⟨hF4, hF5, hFr, hFx⟩ := fin_do hR_ hA hxw hgw hrq (e := ek) (tx := [])
    go_wp2
    try simp only [Exit.inBlock, Exit.then]
    refine bodyPost_ret (results_cell_cell rfl _ _ (g + 1 + 1) (g + 1 + 1 + 1) 28 33 #[.int .u64 s.now, .int .u64 s.count, .slice A s.links.length c0, .slice B s.sess.length d0] #[.int .i64 (ek), str ([])] (0, 0) (0, 0) _ _ rfl hF4 Tryz.underlying28 rfl (by kernel_rfl) rfl hF5 Tryz.underlying33 rfl (by kernel_rfl)) rfl ?_
    exact ⟨s, ⟨ek, []⟩, _, _, _, _, hide (by rw [← HRR.out]; unfold lnameW; rw [if_neg (by simp [HAL.out]), if_pos HE0.out, HEK.out]), rfl, hFr, hFx⟩
  ·have HE0 : Hid (¬ lmay c s.now ≠ 0) := hide (by rw [HEK.out]; simpa using h0)
   obtain ⟨⟨y, is⟩, hf⟩ : ∃ q, rfv s.links c.name = q := ⟨_, rfl⟩
   have HF1 := hide (fun W (hx : Ext w W) => lrfind_b X s A c0 (.slice B s.sess.length d0) c.name W (s3.ext hx) (by omega))
   rw [hf] at HF1
   have HF := hide hf
   clear hf
   have b_0 := ((hB).cell 0).trans rfl
   have b_1 := ((hB).cell 1).trans rfl
   have b_2 := ((hB).cell 2).trans rfl
   have b_3 := ((hB).cell 3).trans rfl
   have k_3 := (hC.cell 3).trans rfl
   go_wp2_with fail
   refine (HF1.out _ hxw).mono ?_
   rintro e W2 ⟨rfl, hxe⟩
   clear b_0 b_1 b_2 b_3 k_3
   replace hB := hB.ext hxe
   replace hC := hC.ext hxe
   replace hR_ := hR_.ext hxe
   replace hA := hA.ext hxe
   replace hrq := stE.ext hrq hxe
   replace hxw := hxw.trans' hxe
   clear hxe
   obtain ⟨gx, hgx⟩ : ∃ g_, W2.heap.size = g_ := ⟨_, rfl⟩
   have hL := Blk.new W2 53 (lcells y).toArray
   rw [hgx] at hL
   have hxe : Ext W2 (W2.alloc (.cells (lcells y).toArray 53)) := (Ext.rfl' _).alloc' _
   replace hB := hB.ext hxe
   replace hC := hC.ext hxe
   replace hR_ := hR_.ext hxe
   replace hA := hA.ext hxe
   replace hrq := stE.ext hrq hxe
   replace hxw := hxw.trans' hxe
   go_upto_region 7 with fail
   try rw [hgx]
   clear hgx hxe
   generalize (W2.alloc (.cells (lcells y).toArray 53)) = W3 at *
   have y_1 := (hL.cell 1).trans rfl
   have y_2 := (hL.cell 2).trans rfl
   have k_4 := (hC.cell 4).trans rfl
   have k_5 := (hC.cell 5).trans rfl
   cases is with
   | true =>
    have HFS : Hid (rfind s.links c.name = some y) := hide (by
     have := HF.out
     unfold rfv at this
     cases h : rfind s.links c.name with
     | none => rw [h] at this; simp at this
     | some z => rw [h] at this; simp at this; rw [this])
    rcases Bool.eq_false_or_eq_true (y.url == c.url) with hu | hu
    ·rcases Bool.eq_false_or_eq_true (y.till == c.till) with ht | ht
     ·have HO : Hid (lown c y = true) := hide (by unfold lown; simp at hu ht; simp [hu, ht])
      go_wp2_with fail
      clear y_1 y_2 k_4 k_5
      refine Rg.regionT Tryz.checked.mixed 73 4 (by kernel_rfl) [
       (fun x_ _ => x_ = .agg #[.int .u64 s.now, .int .u64 s.count, .slice A s.links.length c0, .slice B s.sess.length d0]),
       (fun x_ _ => x_ = .pointer (some ⟨(g + 1), 3, none⟩)),
       (fun x_ _ => x_ = str c.name),
       (fun x_ _ => x_ = .agg #[.int .i64 (0), str (c.name)])] (fun W => Ext W3 W) Ext rfl rfl rfl
       ?st ((Ext.rfl' W3).drew') ?ob ?en
      case st => exact ⟨fun _ _ _ h _ => h, fun _ _ _ h _ => h, fun _ _ _ h _ => h, fun _ _ _ h _ => h, trivial⟩
      case ob =>
       refine ⟨Rg.at_run [2] rfl ?_, ?_⟩
       ·intro ρ W hR ⟨q2, _⟩
        replace q2 : ρ 2 = .pointer (some ⟨g, 0, none⟩) := q2
        refine ⟨rfl, ?_⟩
        have c0_ : W.cell? ⟨g, 0, none⟩ = some (.int .u64 s.now) := ((hB.ext hR).cell 0).trans rfl
        have c1_ : W.cell? ⟨g, 1, none⟩ = some (.int .u64 s.count) := ((hB.ext hR).cell 1).trans rfl
        have c2_ : W.cell? ⟨g, 2, none⟩ = some (.slice A s.links.length c0) := ((hB.ext hR).cell 2).trans rfl
        have c3_ : W.cell? ⟨g, 3, none⟩ = some (.slice B s.sess.length d0) := ((hB.ext hR).cell 3).trans rfl
        exact Rg.run_ok (v := .agg #[.int .u64 s.now, .int .u64 s.count, .slice A s.links.length c0, .slice B s.sess.length d0]) (by simp [execOp, Rg.ev, go_sem, q2, c0_, c1_, c2_, c3_]) ⟨rfl, hR, Ext.rfl' _⟩
       refine ⟨Rg.at_run [3] rfl ?_, ?_⟩
       ·intro ρ W hR ⟨q3, _⟩
        replace q3 : ρ 3 = .pointer (some ⟨(g + 1), 0, none⟩) := q3
        refine ⟨rfl, ?_⟩
        exact Rg.run_ok (v := .pointer (some ⟨(g + 1), 3, none⟩)) (by simp [execOp, Rg.ev, go_sem, q3]) ⟨rfl, hR, Ext.rfl' _⟩
       refine ⟨Rg.at_run [47] rfl ?_, ?_⟩
       ·intro ρ W hR ⟨q47, _⟩
        replace q47 : ρ 47 = .pointer (some ⟨(g + 1), 3, none⟩) := q47
        refine ⟨rfl, ?_⟩
        have c3_ : W.cell? ⟨(g + 1), 3, none⟩ = some (str c.name) := ((hC.ext hR).cell 3).trans rfl
        exact Rg.run_ok (v := str c.name) (by simp [execOp, Rg.ev, go_sem, q47, c3_]) ⟨rfl, hR, Ext.rfl' _⟩
       refine ⟨Rg.at_run [48] rfl ?_, ?_⟩
       ·intro ρ W hR ⟨q48, _⟩
        replace q48 : ρ 48 = str c.name := q48
        refine ⟨rfl, ?_⟩
        refine Rg.enter_fn (args := #[str (c.name)]) rfl (by simp only [List.map_toArray, List.map_cons, List.map_nil, Rg.ev, q48]) (by kernel_rfl) ?_
        refine (rtold_b (c.name) W).mono ?_
        rintro e_ w9 ⟨rfl, hxx⟩
        exact ⟨_, rfl, rfl, hR.trans' hxx, hxx⟩
       trivial
      case en =>
       intro tm W hR hsz hk
       rw [Rg.fin_eq (ds := [46, 47, 48, 49]) rfl rfl rfl hsz hk]
       have k46 : tm.getD 46 undef = .agg #[.int .u64 s.now, .int .u64 s.count, .slice A s.links.length c0, .slice B s.sess.length d0] := hk 46
       have k47 : tm.getD 47 undef = .pointer (some ⟨(g + 1), 3, none⟩) := hk 47
       have k48 : tm.getD 48 undef = str c.name := hk 48
       have k49 : tm.getD 49 undef = .agg #[.int .i64 (0), str (c.name)] := hk 49
       clear hk hsz
       simp only [Rg.putAll, List.setIfInBounds_toArray, List.set_cons_zero, List.set_cons_succ, k46, k47, k48, k49]
       clear k46
       clear k47
       clear k48
       clear k49
       replace hB := hB.ext hR
       replace hR_ := hR_.ext hR
       replace hA := hA.ext hR
       replace hrq := stE.ext hrq hR
       replace hxw := hxw.trans' hR
       have r_0 := (hR_.cell 0).trans rfl
       have r_1 := (hR_.cell 1).trans rfl
       have r_2 := (hR_.cell 2).trans rfl
       have r_3 := (hR_.cell 3).trans rfl
       have rf_0 := hR_.frozen 0
       have rf_1 := hR_.frozen 1
       have rf_2 := hR_.frozen 2
       have rf_3 := hR_.frozen 3
       have ra_0 := (hA.cell 0).trans rfl
       have ra_1 := (hA.cell 1).trans rfl
       have raf_0 := hA.frozen 0
       have raf_1 := hA.frozen 1
       obtain ⟨hF4, hF5, hFr, hFx⟩ := fin_do hR_ hA hxw hgw hrq (e := 0) (tx := c.name)
       go_wp2
       try simp only [Exit.inBlock, Exit.then]
       refine bodyPost_ret (results_cell_cell rfl _ _ (g + 1 + 1) (g + 1 + 1 + 1) 28 33 #[.int .u64 s.now, .int .u64 s.count, .slice A s.links.length c0, .slice B s.sess.length d0] #[.int .i64 (0), str (c.name)] (0, 0) (0, 0) _ _ rfl hF4 Tryz.underlying28 rfl (by kernel_rfl) rfl hF5 Tryz.underlying33 rfl (by kernel_rfl)) rfl ?_
       exact ⟨s, ⟨0, c.name⟩, _, _, _, _, hide (by rw [← HRR.out]; unfold lnameW; rw [if_neg (by simp [HAL.out]), if_neg HE0.out, HFS.out]; simp only; rw [if_pos HO.out]), rfl, hFr, hFx⟩
     ·have HO : Hid (lown c y = false) := hide (by unfold lown; simp at ht; simp [ht])
      go_wp2_with fail
      clear y_1 y_2 k_4 k_5
      refine Rg.regionT Tryz.checked.mixed 73 2 (by kernel_rfl) [
       (fun x_ _ => x_ = .agg #[.int .u64 s.now, .int .u64 s.count, .slice A s.links.length c0, .slice B s.sess.length d0]),
       (fun x_ _ => x_ = .agg #[.int .i64 (11), str ([])])] (fun W => Ext W3 W) Ext rfl rfl rfl
       ?st ((Ext.rfl' W3).drew') ?ob ?en
      case st => exact ⟨fun _ _ _ h _ => h, fun _ _ _ h _ => h, trivial⟩
      case ob =>
       refine ⟨Rg.at_run [2] rfl ?_, ?_⟩
       ·intro ρ W hR ⟨q2, _⟩
        replace q2 : ρ 2 = .pointer (some ⟨g, 0, none⟩) := q2
        refine ⟨rfl, ?_⟩
        have c0_ : W.cell? ⟨g, 0, none⟩ = some (.int .u64 s.now) := ((hB.ext hR).cell 0).trans rfl
        have c1_ : W.cell? ⟨g, 1, none⟩ = some (.int .u64 s.count) := ((hB.ext hR).cell 1).trans rfl
        have c2_ : W.cell? ⟨g, 2, none⟩ = some (.slice A s.links.length c0) := ((hB.ext hR).cell 2).trans rfl
        have c3_ : W.cell? ⟨g, 3, none⟩ = some (.slice B s.sess.length d0) := ((hB.ext hR).cell 3).trans rfl
        exact Rg.run_ok (v := .agg #[.int .u64 s.now, .int .u64 s.count, .slice A s.links.length c0, .slice B s.sess.length d0]) (by simp [execOp, Rg.ev, go_sem, q2, c0_, c1_, c2_, c3_]) ⟨rfl, hR, Ext.rfl' _⟩
       refine ⟨Rg.at_run [] rfl ?_, ?_⟩
       ·intro ρ W hR _
        refine ⟨rfl, ?_⟩
        refine Rg.enter_fn (args := #[.int .i64 (11)]) rfl (by simp only [List.map_toArray, List.map_cons, List.map_nil, Rg.ev]) (by kernel_rfl) ?_
        refine (rfails_b (11) W).mono ?_
        rintro e_ w9 ⟨rfl, hxx⟩
        exact ⟨_, rfl, rfl, hR.trans' hxx, hxx⟩
       trivial
      case en =>
       intro tm W hR hsz hk
       rw [Rg.fin_eq (ds := [52, 53]) rfl rfl rfl hsz hk]
       have k52 : tm.getD 52 undef = .agg #[.int .u64 s.now, .int .u64 s.count, .slice A s.links.length c0, .slice B s.sess.length d0] := hk 52
       have k53 : tm.getD 53 undef = .agg #[.int .i64 (11), str ([])] := hk 53
       clear hk hsz
       simp only [Rg.putAll, List.setIfInBounds_toArray, List.set_cons_zero, List.set_cons_succ, k52, k53]
       clear k52
       clear k53
       replace hB := hB.ext hR
       replace hR_ := hR_.ext hR
       replace hA := hA.ext hR
       replace hrq := stE.ext hrq hR
       replace hxw := hxw.trans' hR
       have r_0 := (hR_.cell 0).trans rfl
       have r_1 := (hR_.cell 1).trans rfl
       have r_2 := (hR_.cell 2).trans rfl
       have r_3 := (hR_.cell 3).trans rfl
       have rf_0 := hR_.frozen 0
       have rf_1 := hR_.frozen 1
       have rf_2 := hR_.frozen 2
       have rf_3 := hR_.frozen 3
       have ra_0 := (hA.cell 0).trans rfl
       have ra_1 := (hA.cell 1).trans rfl
       have raf_0 := hA.frozen 0
       have raf_1 := hA.frozen 1
       obtain ⟨hF4, hF5, hFr, hFx⟩ := fin_do hR_ hA hxw hgw hrq (e := 11) (tx := [])
       go_wp2
       try simp only [Exit.inBlock, Exit.then]
       refine bodyPost_ret (results_cell_cell rfl _ _ (g + 1 + 1) (g + 1 + 1 + 1) 28 33 #[.int .u64 s.now, .int .u64 s.count, .slice A s.links.length c0, .slice B s.sess.length d0] #[.int .i64 (11), str ([])] (0, 0) (0, 0) _ _ rfl hF4 Tryz.underlying28 rfl (by kernel_rfl) rfl hF5 Tryz.underlying33 rfl (by kernel_rfl)) rfl ?_
       exact ⟨s, ⟨11, []⟩, _, _, _, _, hide (by rw [← HRR.out]; unfold lnameW; rw [if_neg (by simp [HAL.out]), if_neg HE0.out, HFS.out]; simp only; rw [if_neg (by simp [HO.out])]), rfl, hFr, hFx⟩
    ·have HO : Hid (lown c y = false) := hide (by unfold lown; simp at hu; simp [hu])
     go_wp2_with fail
     clear y_1 y_2 k_4 k_5
     refine Rg.regionT Tryz.checked.mixed 73 2 (by kernel_rfl) [
      (fun x_ _ => x_ = .agg #[.int .u64 s.now, .int .u64 s.count, .slice A s.links.length c0, .slice B s.sess.length d0]),
      (fun x_ _ => x_ = .agg #[.int .i64 (11), str ([])])] (fun W => Ext W3 W) Ext rfl rfl rfl
      ?st ((Ext.rfl' W3).drew') ?ob ?en
     case st => exact ⟨fun _ _ _ h _ => h, fun _ _ _ h _ => h, trivial⟩
     case ob =>
      refine ⟨Rg.at_run [2] rfl ?_, ?_⟩
      ·intro ρ W hR ⟨q2, _⟩
       replace q2 : ρ 2 = .pointer (some ⟨g, 0, none⟩) := q2
       refine ⟨rfl, ?_⟩
       have c0_ : W.cell? ⟨g, 0, none⟩ = some (.int .u64 s.now) := ((hB.ext hR).cell 0).trans rfl
       have c1_ : W.cell? ⟨g, 1, none⟩ = some (.int .u64 s.count) := ((hB.ext hR).cell 1).trans rfl
       have c2_ : W.cell? ⟨g, 2, none⟩ = some (.slice A s.links.length c0) := ((hB.ext hR).cell 2).trans rfl
       have c3_ : W.cell? ⟨g, 3, none⟩ = some (.slice B s.sess.length d0) := ((hB.ext hR).cell 3).trans rfl
       exact Rg.run_ok (v := .agg #[.int .u64 s.now, .int .u64 s.count, .slice A s.links.length c0, .slice B s.sess.length d0]) (by simp [execOp, Rg.ev, go_sem, q2, c0_, c1_, c2_, c3_]) ⟨rfl, hR, Ext.rfl' _⟩
      refine ⟨Rg.at_run [] rfl ?_, ?_⟩
      ·intro ρ W hR _
       refine ⟨rfl, ?_⟩
       refine Rg.enter_fn (args := #[.int .i64 (11)]) rfl (by simp only [List.map_toArray, List.map_cons, List.map_nil, Rg.ev]) (by kernel_rfl) ?_
       refine (rfails_b (11) W).mono ?_
       rintro e_ w9 ⟨rfl, hxx⟩
       exact ⟨_, rfl, rfl, hR.trans' hxx, hxx⟩
      trivial
     case en =>
      intro tm W hR hsz hk
      rw [Rg.fin_eq (ds := [52, 53]) rfl rfl rfl hsz hk]
      have k52 : tm.getD 52 undef = .agg #[.int .u64 s.now, .int .u64 s.count, .slice A s.links.length c0, .slice B s.sess.length d0] := hk 52
      have k53 : tm.getD 53 undef = .agg #[.int .i64 (11), str ([])] := hk 53
      clear hk hsz
      simp only [Rg.putAll, List.setIfInBounds_toArray, List.set_cons_zero, List.set_cons_succ, k52, k53]
      clear k52
      clear k53
      replace hB := hB.ext hR
      replace hR_ := hR_.ext hR
      replace hA := hA.ext hR
      replace hrq := stE.ext hrq hR
      replace hxw := hxw.trans' hR
      have r_0 := (hR_.cell 0).trans rfl
      have r_1 := (hR_.cell 1).trans rfl
      have r_2 := (hR_.cell 2).trans rfl
      have r_3 := (hR_.cell 3).trans rfl
      have rf_0 := hR_.frozen 0
      have rf_1 := hR_.frozen 1
      have rf_2 := hR_.frozen 2
      have rf_3 := hR_.frozen 3
      have ra_0 := (hA.cell 0).trans rfl
      have ra_1 := (hA.cell 1).trans rfl
      have raf_0 := hA.frozen 0
      have raf_1 := hA.frozen 1
      obtain ⟨hF4, hF5, hFr, hFx⟩ := fin_do hR_ hA hxw hgw hrq (e := 11) (tx := [])
      go_wp2
      try simp only [Exit.inBlock, Exit.then]
      refine bodyPost_ret (results_cell_cell rfl _ _ (g + 1 + 1) (g + 1 + 1 + 1) 28 33 #[.int .u64 s.now, .int .u64 s.count, .slice A s.links.length c0, .slice B s.sess.length d0] #[.int .i64 (11), str ([])] (0, 0) (0, 0) _ _ rfl hF4 Tryz.underlying28 rfl (by kernel_rfl) rfl hF5 Tryz.underlying33 rfl (by kernel_rfl)) rfl ?_
      exact ⟨s, ⟨11, []⟩, _, _, _, _, hide (by rw [← HRR.out]; unfold lnameW; rw [if_neg (by simp [HAL.out]), if_neg HE0.out, HFS.out]; simp only; rw [if_neg (by simp [HO.out])]), rfl, hFr, hFx⟩
   | false =>
    have HFN : Hid (rfind s.links c.name = none) := hide (by
     have := HF.out
     unfold rfv at this
     cases h : rfind s.links c.name with
     | none => rfl
     | some z => rw [h] at this; simp at this)
    have b_2 := (hB.cell 2).trans rfl
    rcases Bool.eq_false_or_eq_true (decide ((40 : Int) ≤ s.links.length)) with hm | hm
    ·have HM : Hid (40 ≤ s.links.length) := hide (by have := of_decide_eq_true hm; omega)
     go_wp2_with fail
     clear y_1 y_2 k_4 k_5 b_2
     refine Rg.regionT Tryz.checked.mixed 73 2 (by kernel_rfl) [
      (fun x_ _ => x_ = .agg #[.int .u64 s.now, .int .u64 s.count, .slice A s.links.length c0, .slice B s.sess.length d0]),
      (fun x_ _ => x_ = .agg #[.int .i64 (12), str ([])])] (fun W => Ext W3 W) Ext rfl rfl rfl
      ?st ((Ext.rfl' W3).drew') ?ob ?en
     case st => exact ⟨fun _ _ _ h _ => h, fun _ _ _ h _ => h, trivial⟩
     case ob =>
      refine ⟨Rg.at_run [2] rfl ?_, ?_⟩
      ·intro ρ W hR ⟨q2, _⟩
       replace q2 : ρ 2 = .pointer (some ⟨g, 0, none⟩) := q2
       refine ⟨rfl, ?_⟩
       have c0_ : W.cell? ⟨g, 0, none⟩ = some (.int .u64 s.now) := ((hB.ext hR).cell 0).trans rfl
       have c1_ : W.cell? ⟨g, 1, none⟩ = some (.int .u64 s.count) := ((hB.ext hR).cell 1).trans rfl
       have c2_ : W.cell? ⟨g, 2, none⟩ = some (.slice A s.links.length c0) := ((hB.ext hR).cell 2).trans rfl
       have c3_ : W.cell? ⟨g, 3, none⟩ = some (.slice B s.sess.length d0) := ((hB.ext hR).cell 3).trans rfl
       exact Rg.run_ok (v := .agg #[.int .u64 s.now, .int .u64 s.count, .slice A s.links.length c0, .slice B s.sess.length d0]) (by simp [execOp, Rg.ev, go_sem, q2, c0_, c1_, c2_, c3_]) ⟨rfl, hR, Ext.rfl' _⟩
      refine ⟨Rg.at_run [] rfl ?_, ?_⟩
      ·intro ρ W hR _
       refine ⟨rfl, ?_⟩
       refine Rg.enter_fn (args := #[.int .i64 (12)]) rfl (by simp only [List.map_toArray, List.map_cons, List.map_nil, Rg.ev]) (by kernel_rfl) ?_
       refine (rfails_b (12) W).mono ?_
       rintro e_ w9 ⟨rfl, hxx⟩
       exact ⟨_, rfl, rfl, hR.trans' hxx, hxx⟩
      trivial
     case en =>
      intro tm W hR hsz hk
      rw [Rg.fin_eq (ds := [59, 60]) rfl rfl rfl hsz hk]
      have k59 : tm.getD 59 undef = .agg #[.int .u64 s.now, .int .u64 s.count, .slice A s.links.length c0, .slice B s.sess.length d0] := hk 59
      have k60 : tm.getD 60 undef = .agg #[.int .i64 (12), str ([])] := hk 60
      clear hk hsz
      simp only [Rg.putAll, List.setIfInBounds_toArray, List.set_cons_zero, List.set_cons_succ, k59, k60]
      clear k59
      clear k60
      replace hB := hB.ext hR
      replace hR_ := hR_.ext hR
      replace hA := hA.ext hR
      replace hrq := stE.ext hrq hR
      replace hxw := hxw.trans' hR
      have r_0 := (hR_.cell 0).trans rfl
      have r_1 := (hR_.cell 1).trans rfl
      have r_2 := (hR_.cell 2).trans rfl
      have r_3 := (hR_.cell 3).trans rfl
      have rf_0 := hR_.frozen 0
      have rf_1 := hR_.frozen 1
      have rf_2 := hR_.frozen 2
      have rf_3 := hR_.frozen 3
      have ra_0 := (hA.cell 0).trans rfl
      have ra_1 := (hA.cell 1).trans rfl
      have raf_0 := hA.frozen 0
      have raf_1 := hA.frozen 1
      obtain ⟨hF4, hF5, hFr, hFx⟩ := fin_do hR_ hA hxw hgw hrq (e := 12) (tx := [])
      go_wp2
      try simp only [Exit.inBlock, Exit.then]
      refine bodyPost_ret (results_cell_cell rfl _ _ (g + 1 + 1) (g + 1 + 1 + 1) 28 33 #[.int .u64 s.now, .int .u64 s.count, .slice A s.links.length c0, .slice B s.sess.length d0] #[.int .i64 (12), str ([])] (0, 0) (0, 0) _ _ rfl hF4 Tryz.underlying28 rfl (by kernel_rfl) rfl hF5 Tryz.underlying33 rfl (by kernel_rfl)) rfl ?_
      exact ⟨s, ⟨12, []⟩, _, _, _, _, hide (by rw [← HRR.out]; unfold lnameW; rw [if_neg (by simp [HAL.out]), if_neg HE0.out, HFN.out]; simp only; rw [if_pos HM.out]), rfl, hFr, hFx⟩
    ·have HM : Hid (¬ 40 ≤ s.links.length) := hide (by have := of_decide_eq_false hm; omega)
     obtain ⟨lk, hlk⟩ : ∃ l, l = lkput s.links ⟨c.name, c.url, c.till, false⟩ := ⟨_, rfl⟩
     have HLK := hide hlk
     clear hlk
     have HPUT := hide (fun W (hR : Ext W3 W) => lrput_b (XQ X g) s A c0 B d0 ⟨c.name, c.url, c.till, false⟩ W (fun k hk => Nat.lt_of_lt_of_le (hk.elim (fun h => by have := hXl k h; have := hA.lt; omega) fun h => by have := hA.lt; omega) hR.size) (stE.ext hrq hR) hc.n1 hc.u1 ⟨hc.t0, hc.t1⟩ (by omega))
     go_wp2_with fail
     clear y_1 y_2 k_4 k_5 b_2
     refine Rg.regionT Tryz.checked.mixed 73 12 (by kernel_rfl) [
      (fun x_ _ => x_ = .agg #[.int .u64 s.now, .int .u64 s.count, .slice A s.links.length c0, .slice B s.sess.length d0]),
      (fun x_ _ => x_ = .pointer (some ⟨(g + 1), 3, none⟩)),
      (fun x_ _ => x_ = str c.name),
      (fun x_ _ => x_ = .pointer (some ⟨(g + 1), 4, none⟩)),
      (fun x_ _ => x_ = str c.url),
      (fun x_ _ => x_ = .pointer (some ⟨(g + 1), 5, none⟩)),
      (fun x_ _ => x_ = .int .u64 c.till),
      (fun x_ _ => x_ = .agg #[str c.name, str c.url, .int .u64 c.till, .bool false]),
      (fun v W => ∃ A1 c1, v = .agg #[.int .u64 s.now, .int .u64 s.count, .slice A1 lk.length c1, .slice B s.sess.length d0] ∧ stE.rep W (XQ X g) [.int .u64 s.now, .int .u64 s.count, .slice A1 lk.length c1, .slice B s.sess.length d0] ⟨s.now, s.count, lk, s.sess⟩),
      (fun x_ _ => x_ = .pointer (some ⟨(g + 1), 3, none⟩)),
      (fun x_ _ => x_ = str c.name),
      (fun x_ _ => x_ = .agg #[.int .i64 0, str c.name])] (fun W => Ext W3 W) Ext rfl rfl rfl
      ?st ((Ext.rfl' W3).drew') ?ob ?en
     case st => exact ⟨fun _ _ _ h _ => h, fun _ _ _ h _ => h, fun _ _ _ h _ => h, fun _ _ _ h _ => h, fun _ _ _ h _ => h, fun _ _ _ h _ => h, fun _ _ _ h _ => h, fun _ _ _ h _ => h, fun _ _ _ ⟨a1_, a2_, h1_, h2_⟩ hx => ⟨a1_, a2_, h1_, stE.ext h2_ hx⟩, fun _ _ _ h _ => h, fun _ _ _ h _ => h, fun _ _ _ h _ => h, trivial⟩
     case ob =>
      refine ⟨Rg.at_run [2] rfl ?_, ?_⟩
      ·intro ρ W hR ⟨q2, _⟩
       replace q2 : ρ 2 = .pointer (some ⟨g, 0, none⟩) := q2
       refine ⟨rfl, ?_⟩
       have c0_ : W.cell? ⟨g, 0, none⟩ = some (.int .u64 s.now) := ((hB.ext hR).cell 0).trans rfl
       have c1_ : W.cell? ⟨g, 1, none⟩ = some (.int .u64 s.count) := ((hB.ext hR).cell 1).trans rfl
       have c2_ : W.cell? ⟨g, 2, none⟩ = some (.slice A s.links.length c0) := ((hB.ext hR).cell 2).trans rfl
       have c3_ : W.cell? ⟨g, 3, none⟩ = some (.slice B s.sess.length d0) := ((hB.ext hR).cell 3).trans rfl
       exact Rg.run_ok (v := .agg #[.int .u64 s.now, .int .u64 s.count, .slice A s.links.length c0, .slice B s.sess.length d0]) (by simp [execOp, Rg.ev, go_sem, q2, c0_, c1_, c2_, c3_]) ⟨rfl, hR, Ext.rfl' _⟩
      refine ⟨Rg.at_run [3] rfl ?_, ?_⟩
      ·intro ρ W hR ⟨q3, _⟩
       replace q3 : ρ 3 = .pointer (some ⟨(g + 1), 0, none⟩) := q3
       refine ⟨rfl, ?_⟩
       exact Rg.run_ok (v := .pointer (some ⟨(g + 1), 3, none⟩)) (by simp [execOp, Rg.ev, go_sem, q3]) ⟨rfl, hR, Ext.rfl' _⟩
      refine ⟨Rg.at_run [62] rfl ?_, ?_⟩
      ·intro ρ W hR ⟨q62, _⟩
       replace q62 : ρ 62 = .pointer (some ⟨(g + 1), 3, none⟩) := q62
       refine ⟨rfl, ?_⟩
       have c3_ : W.cell? ⟨(g + 1), 3, none⟩ = some (str c.name) := ((hC.ext hR).cell 3).trans rfl
       exact Rg.run_ok (v := str c.name) (by simp [execOp, Rg.ev, go_sem, q62, c3_]) ⟨rfl, hR, Ext.rfl' _⟩
      refine ⟨Rg.at_run [3] rfl ?_, ?_⟩
      ·intro ρ W hR ⟨q3, _⟩
       replace q3 : ρ 3 = .pointer (some ⟨(g + 1), 0, none⟩) := q3
       refine ⟨rfl, ?_⟩
       exact Rg.run_ok (v := .pointer (some ⟨(g + 1), 4, none⟩)) (by simp [execOp, Rg.ev, go_sem, q3]) ⟨rfl, hR, Ext.rfl' _⟩
      refine ⟨Rg.at_run [64] rfl ?_, ?_⟩
      ·intro ρ W hR ⟨q64, _⟩
       replace q64 : ρ 64 = .pointer (some ⟨(g + 1), 4, none⟩) := q64
       refine ⟨rfl, ?_⟩
       have c4_ : W.cell? ⟨(g + 1), 4, none⟩ = some (str c.url) := ((hC.ext hR).cell 4).trans rfl
       exact Rg.run_ok (v := str c.url) (by simp [execOp, Rg.ev, go_sem, q64, c4_]) ⟨rfl, hR, Ext.rfl' _⟩
      refine ⟨Rg.at_run [3] rfl ?_, ?_⟩
      ·intro ρ W hR ⟨q3, _⟩
       replace q3 : ρ 3 = .pointer (some ⟨(g + 1), 0, none⟩) := q3
       refine ⟨rfl, ?_⟩
       exact Rg.run_ok (v := .pointer (some ⟨(g + 1), 5, none⟩)) (by simp [execOp, Rg.ev, go_sem, q3]) ⟨rfl, hR, Ext.rfl' _⟩
      refine ⟨Rg.at_run [66] rfl ?_, ?_⟩
      ·intro ρ W hR ⟨q66, _⟩
       replace q66 : ρ 66 = .pointer (some ⟨(g + 1), 5, none⟩) := q66
       refine ⟨rfl, ?_⟩
       have c5_ : W.cell? ⟨(g + 1), 5, none⟩ = some (.int .u64 c.till) := ((hC.ext hR).cell 5).trans rfl
       exact Rg.run_ok (v := .int .u64 c.till) (by simp [execOp, Rg.ev, go_sem, q66, c5_]) ⟨rfl, hR, Ext.rfl' _⟩
      refine ⟨Rg.at_run [63, 65, 67] rfl ?_, ?_⟩
      ·intro ρ W hR ⟨q63, q65, q67, _⟩
       replace q63 : ρ 63 = str c.name := q63
       replace q65 : ρ 65 = str c.url := q65
       replace q67 : ρ 67 = .int .u64 c.till := q67
       refine ⟨rfl, ?_⟩
       exact Rg.run_ok (v := .agg #[str c.name, str c.url, .int .u64 c.till, .bool false]) (by simp [execOp, Rg.ev, go_sem, q63, q65, q67]) ⟨rfl, hR, Ext.rfl' _⟩
      refine ⟨Rg.at_run [61, 68] rfl ?_, ?_⟩
      ·intro ρ W hR ⟨q61, q68, _⟩
       replace q61 : ρ 61 = .agg #[.int .u64 s.now, .int .u64 s.count, .slice A s.links.length c0, .slice B s.sess.length d0] := q61
       replace q68 : ρ 68 = .agg #[str c.name, str c.url, .int .u64 c.till, .bool false] := q68
       refine ⟨rfl, ?_⟩
       refine Rg.enter_fn (args := #[.agg #[.int .u64 s.now, .int .u64 s.count, .slice A s.links.length c0, .slice B s.sess.length d0], .agg #[str c.name, str c.url, .int .u64 c.till, .bool false]]) rfl (by simp only [List.map_toArray, List.map_cons, List.map_nil, Rg.ev, q61, q68]) (by kernel_rfl) ?_
       refine (HPUT.out W hR).mono ?_
       rintro e_ w9 ⟨l_, A1, c1, hl_, rfl, hr_, hxx⟩
       obtain rfl : l_ = lk := hl_.out.trans HLK.out.symm
       exact ⟨_, rfl, ⟨A1, c1, rfl, hr_⟩, hR.trans' hxx, hxx⟩
      refine ⟨Rg.at_run [3] rfl ?_, ?_⟩
      ·intro ρ W hR ⟨q3, _⟩
       replace q3 : ρ 3 = .pointer (some ⟨(g + 1), 0, none⟩) := q3
       refine ⟨rfl, ?_⟩
       exact Rg.run_ok (v := .pointer (some ⟨(g + 1), 3, none⟩)) (by simp [execOp, Rg.ev, go_sem, q3]) ⟨rfl, hR, Ext.rfl' _⟩
      refine ⟨Rg.at_run [70] rfl ?_, ?_⟩
      ·intro ρ W hR ⟨q70, _⟩
       replace q70 : ρ 70 = .pointer (some ⟨(g + 1), 3, none⟩) := q70
       refine ⟨rfl, ?_⟩
       have c3_ : W.cell? ⟨(g + 1), 3, none⟩ = some (str c.name) := ((hC.ext hR).cell 3).trans rfl
       exact Rg.run_ok (v := str c.name) (by simp [execOp, Rg.ev, go_sem, q70, c3_]) ⟨rfl, hR, Ext.rfl' _⟩
      refine ⟨Rg.at_run [71] rfl ?_, ?_⟩
      ·intro ρ W hR ⟨q71, _⟩
       replace q71 : ρ 71 = str c.name := q71
       refine ⟨rfl, ?_⟩
       refine Rg.enter_fn (args := #[str c.name]) rfl (by simp only [List.map_toArray, List.map_cons, List.map_nil, Rg.ev, q71]) (by kernel_rfl) ?_
       refine (rtold_b c.name W).mono ?_
       rintro e_ w9 ⟨rfl, hxx⟩
       exact ⟨_, rfl, rfl, hR.trans' hxx, hxx⟩
      trivial
     case en =>
      intro tm W hR hsz hk
      rw [Rg.fin_eq (ds := [61, 62, 63, 64, 65, 66, 67, 68, 69, 70, 71, 72]) rfl rfl rfl hsz hk]
      have k61 : tm.getD 61 undef = .agg #[.int .u64 s.now, .int .u64 s.count, .slice A s.links.length c0, .slice B s.sess.length d0] := hk 61
      have k62 : tm.getD 62 undef = .pointer (some ⟨(g + 1), 3, none⟩) := hk 62
      have k63 : tm.getD 63 undef = str c.name := hk 63
      have k64 : tm.getD 64 undef = .pointer (some ⟨(g + 1), 4, none⟩) := hk 64
      have k65 : tm.getD 65 undef = str c.url := hk 65
      have k66 : tm.getD 66 undef = .pointer (some ⟨(g + 1), 5, none⟩) := hk 66
      have k67 : tm.getD 67 undef = .int .u64 c.till := hk 67
      have k68 : tm.getD 68 undef = .agg #[str c.name, str c.url, .int .u64 c.till, .bool false] := hk 68
      have k69 : (fun v W => ∃ A1 c1, v = .agg #[.int .u64 s.now, .int .u64 s.count, .slice A1 lk.length c1, .slice B s.sess.length d0] ∧ stE.rep W (XQ X g) [.int .u64 s.now, .int .u64 s.count, .slice A1 lk.length c1, .slice B s.sess.length d0] ⟨s.now, s.count, lk, s.sess⟩) (tm.getD 69 undef) W := hk 69
      have k70 : tm.getD 70 undef = .pointer (some ⟨(g + 1), 3, none⟩) := hk 70
      have k71 : tm.getD 71 undef = str c.name := hk 71
      have k72 : tm.getD 72 undef = .agg #[.int .i64 0, str c.name] := hk 72
      clear hk hsz
      simp only [Rg.putAll, List.setIfInBounds_toArray, List.set_cons_zero, List.set_cons_succ, k61, k62, k63, k64, k65, k66, k67, k68, k70, k71, k72]
      clear k61
      clear k62
      clear k63
      clear k64
      clear k65
      clear k66
      clear k67
      clear k68
      generalize tm.getD 69 undef = u69 at *
      clear k70
      clear k71
      clear k72
      obtain ⟨A1, c1, rfl, hrp⟩ := k69
      replace hB := hB.ext hR
      replace hR_ := hR_.ext hR
      replace hA := hA.ext hR
      replace hxw := hxw.trans' hR
      have r_0 := (hR_.cell 0).trans rfl
      have r_1 := (hR_.cell 1).trans rfl
      have r_2 := (hR_.cell 2).trans rfl
      have r_3 := (hR_.cell 3).trans rfl
      have rf_0 := hR_.frozen 0
      have rf_1 := hR_.frozen 1
      have rf_2 := hR_.frozen 2
      have rf_3 := hR_.frozen 3
      have ra_0 := (hA.cell 0).trans rfl
      have ra_1 := (hA.cell 1).trans rfl
      have raf_0 := hA.frozen 0
      have raf_1 := hA.frozen 1
      obtain ⟨hF4, hF5, hFr, hFx⟩ := fin_do hR_ hA hxw hgw hrp (e := 0) (tx := c.name)
      go_wp2
      try simp only [Exit.inBlock, Exit.then]
      refine bodyPost_ret (results_cell_cell rfl _ _ (g + 1 + 1) (g + 1 + 1 + 1) 28 33 #[.int .u64 s.now, .int .u64 s.count, .slice A1 lk.length c1, .slice B s.sess.length d0] #[.int .i64 (0), str (c.name)] (0, 0) (0, 0) _ _ rfl hF4 Tryz.underlying28 rfl (by kernel_rfl) rfl hF5 Tryz.underlying33 rfl (by kernel_rfl)) rfl ?_
      exact ⟨⟨s.now, s.count, lk, s.sess⟩, ⟨0, c.name⟩, _, _, _, _, hide (by rw [← HRR.out]; unfold lnameW; rw [if_neg (by simp [HAL.out]), if_neg HE0.out, HFN.out]; simp only; rw [if_neg HM.out, HLK.out]), rfl, hFr, hFx⟩
end Go.Proofs.YtamimdlaclglkaaGreat
