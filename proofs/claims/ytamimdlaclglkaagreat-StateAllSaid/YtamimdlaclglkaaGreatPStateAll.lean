/- A part of the proof of 'StateAll'. -/
import Derived.Test.YtamimdlaclglkaaGreatA46
import Derived.Test.YtamimdlaclglkaaGreatA39
import Derived.Test.YtamimdlaclglkaaGreatA40
import Derived.Test.YtamimdlaclglkaaGreatA21
import Derived.Test.YtamimdlaclglkaaGreatA37
import Derived.Test.YtamimdlaclglkaaGreatA2
namespace Go.Proofs.YtamimdlaclglkaaGreat
set_option linter.unusedVariables false
set_option linter.unusedSimpArgs false
set_option linter.unnecessarySimpa false
set_option maxRecDepth 100000
open Go.RowKit
theorem AskC.cmok_ {c : Cm} (h : AskC c) : CmOk c := ⟨by have := h.url; omega, by have := h.name; omega⟩
set_option maxHeartbeats 12800000 in
theorem stateAll_walk (x : Value) (b : Bytes) (w : World) (hx : Bs w x b) :
  Calls Tryz.prog 3 #[x] w fun e w' => e = .returned (.bool true) ∧ Ext w w' := by
 obtain ⟨Ax, cx, rfl, -, -, -⟩ := id hx
 go_enter Tryz.func3, Tryz.ntmps3
 go_wp2_with fail
 refine (begun20_b w).mono ?_
 rintro e w1 ⟨rfl, hx1⟩
 by_cases h1 : (150 : Int) < b.length
 ·go_wp2_with fail
  go_ret
  exact ⟨rfl, hx1⟩
 have HB := hide h1
 obtain ⟨hS, hT, hz⟩ := two_al w1 28 28 #[.int .u64 0, .int .u64 0, .slice none 0 0, .slice none 0 0] #[.int .u64 0, .int .u64 0, .slice none 0 0, .slice none 0 0]
 obtain ⟨g1, hg⟩ : ∃ g_, w1.heap.size = g_ := ⟨_, rfl⟩
 rw [hg] at hS hT
 obtain ⟨g2, hg2⟩ : ∃ g_, g1 + 1 = g_ := ⟨_, rfl⟩
 rw [hg2] at hT
 have hx2 := hx1.trans' hz
 have hw1 : w.heap.size ≤ g1 := by have := hx1.size; omega
 go_upto_region 6 with fail
 try rw [hg]
 try rw [hg2]
 clear hg hz
 generalize ((w1.alloc (.cells #[.int .u64 0, .int .u64 0, .slice none 0 0, .slice none 0 0] 28)).alloc (.cells #[.int .u64 0, .int .u64 0, .slice none 0 0, .slice none 0 0] 28)) = w2 at *
 go_wp2_with fail
 refine (asked_b _ b 40 _ (hx.ext hx2) (by have := HB.out; omega) (by omega)).mono ?_
 rintro e w0 ⟨l, A, c, hpc, hlen, rfl, hown, hx3⟩
 have HPC := hide hpc
 clear hpc
 replace hS := hS.ext hx3
 replace hT := hT.ext hx3
 go_wp2_with fail
 go_loopw [6] (fun i wr => ∃ (k : Nat) (s : St) (A1 : Option Addr) (c1 : Nat) (B1 : Option Addr) (d1 : Nat) (A2 : Option Addr) (c2 : Nat) (B2 : Option Addr) (d2 : Nat), k ≤ l.length ∧ i = .int .i64 k ∧ Blk wr g1 28 #[.int .u64 s.now, .int .u64 s.count, .slice A1 s.links.length c1, .slice B1 s.sess.length d1] ∧ Blk wr g2 28 #[.int .u64 s.now, .int .u64 s.count, .slice A2 s.links.length c2, .slice B2 s.sess.length d2] ∧
   stE.rep wr noneAt [.int .u64 s.now, .int .u64 s.count, .slice A1 s.links.length c1, .slice B1 s.sess.length d1] s ∧ stE.rep wr noneAt [.int .u64 s.now, .int .u64 s.count, .slice A2 s.links.length c2, .slice B2 s.sess.length d2] s ∧ SInv s ∧ Hid (s = (sall z0S (l.take k)).1) ∧ Own 37 cmE w2 wr noneAt (.slice A l.length c) l ∧ Ext w wr) (fun i _ => (l.length - intOf i).toNat)
 case atStart => exact ⟨0, z0S, none, 0, none, 0, none, 0, none, 0, by omega, rfl, hS, hT, z0_rep _ _, z0_rep _ _, sinv0, hide rfl, hown, hx2.trans' hx3⟩
 case round =>
  clear hS hT
  obtain ⟨k, s, A1, c1, B1, d1, A2, c2, B2, d2, hkl, rfl, hS, hT, hrS, hrT, hi, hse, hown, hxr⟩ := hrel
  by_cases hlt : k < l.length
  ·obtain ⟨ga, hg⟩ : ∃ g_, wr.heap.size = g_ := ⟨_, rfl⟩
   obtain ⟨hA, hB, hz⟩ := two_al wr 33 33 #[.int .i64 0, str []] #[.int .i64 0, str []]
   rw [hg] at hA hB
   obtain ⟨gb, hgb⟩ : ∃ g_, ga + 1 = g_ := ⟨_, rfl⟩
   rw [hgb] at hB
   have o1 : g2 < ga := by have := hT.lt; omega
   have o2 : w.heap.size ≤ ga := by have := hxr.size; omega
   have m1 : ¬ g1 = ga := by omega
   have m2 : ¬ ga = g1 := by omega
   have m3 : ¬ g1 = gb := by omega
   have m4 : ¬ gb = g1 := by omega
   have m5 : ¬ g2 = ga := by omega
   have m6 : ¬ ga = g2 := by omega
   have m7 : ¬ g2 = gb := by omega
   have m8 : ¬ gb = g2 := by omega
   have m9 : ¬ ga = gb := by omega
   have m10 : ¬ gb = ga := by omega
   replace hS := hS.ext hz
   replace hT := hT.ext hz
   replace hrS := stE.ext hrS hz
   replace hrT := stE.ext hrT hz
   replace hown := hown.ext hz
   replace hxr := hxr.trans' hz
   go_upto_region 11 with fail
   try rw [hg]
   try rw [hgb]
   clear hz hg
   generalize ((wr.alloc (.cells #[.int .i64 0, str []] 33)).alloc (.cells #[.int .i64 0, str []] 33)) = w3 at *
   obtain ⟨ad, m, rfl, hm, hbk, p0, p1, p2, p3, p4, p5, hmw⟩ := cm_at hown.sl hlt
   have HC : Hid (AskC m) := hide (HPC.out m (List.mem_of_getElem? hm.out))
   have HD := hide (fun W (hx : Ext w3 W) => sapply_b noneAt s _ m W (fun _ h => h.elim) (stE.ext hrS hx) hi HC.out.wide (by have := HC.out.url; omega) (by have := HC.out.name; omega))
   have HD2 := hide (fun W A c B d hs => rapply_b s A c B d m W hs hi HC.out.wide (by have := HC.out.url; omega) (by have := HC.out.name; omega))
   have hi1 := hi.step (c := m) HC.out.t0 ⟨HC.out.s0, by have := HC.out.s1; omega⟩ (by have := HC.out.name; omega)
   have hse1 : (sapply s m).1 = (sall z0S (l.take (k + 1))).1 := by rw [take_snocS hm.out, sall_snoc z0S m _ z0S, ← hse.out]
   obtain ⟨⟨t, a⟩, hta⟩ : ∃ r, sapply s m = r := ⟨_, rfl⟩
   rw [hta] at HD HD2 hi1 hse1
   simp only at hi1 hse1
   clear hta
   have hb1 : (0 : Int) ≤ k := by omega
   have hb2 : (k : Int) < l.length := by omega
   have HLT := hide hlt
   have HS1 := hide hse1
   have HI1 := hide hi1
   clear hse1 hi1 hlt
   go_cut [] (fun wx => ∃ A3 c3 B3 d3, Blk wx g1 28 #[.int .u64 t.now, .int .u64 t.count, .slice A3 t.links.length c3, .slice B3 t.sess.length d3] ∧ Blk wx g2 28 #[.int .u64 s.now, .int .u64 s.count, .slice A2 s.links.length c2, .slice B2 s.sess.length d2] ∧ Blk wx ga 33 #[.int .i64 a.err, str a.text] ∧ Blk wx gb 33 #[.int .i64 0, str []] ∧ stE.rep wx noneAt [.int .u64 t.now, .int .u64 t.count, .slice A3 t.links.length c3, .slice B3 t.sess.length d3] t ∧ stE.rep wx noneAt [.int .u64 s.now, .int .u64 s.count, .slice A2 s.links.length c2, .slice B2 s.sess.length d2] s ∧ Own 37 cmE w2 wx noneAt (.slice (some ad) l.length c) l ∧ Ext w wx)
   case first =>
    refine Rg.regionX Tryz.checked.mixed 67 9 8 32 _ _ (by rfl) (by rfl) (by kernel_rfl) [
     (fun x_ _ => x_ = .agg #[.int .u64 s.now, .int .u64 s.count, .slice A1 s.links.length c1, .slice B1 s.sess.length d1]),
     (fun x_ _ => x_ = .slice (some ad) l.length c),
     (fun x_ _ => x_ = .int .i64 k),
     (fun x_ _ => x_ = .pointer (some (ad.add (k * 6)))),
     (fun x_ _ => x_ = .agg #[.int .i64 m.kind, .int .i64 m.client, .int .u64 m.seq, str m.name, str m.url, .int .u64 m.till]),
     (fun v W => ∃ A9 c9 B9 d9, v = .tuple #[.agg #[.int .u64 t.now, .int .u64 t.count, .slice A9 t.links.length c9, .slice B9 t.sess.length d9], .agg #[.int .i64 a.err, str a.text]] ∧ stE.rep W noneAt [.int .u64 t.now, .int .u64 t.count, .slice A9 t.links.length c9, .slice B9 t.sess.length d9] t),
     (fun v W => ∃ A9 c9 B9 d9, v = .tuple #[.agg #[.int .u64 t.now, .int .u64 t.count, .slice A9 t.links.length c9, .slice B9 t.sess.length d9], .agg #[.int .i64 a.err, str a.text]] ∧ stE.rep W noneAt [.int .u64 t.now, .int .u64 t.count, .slice A9 t.links.length c9, .slice B9 t.sess.length d9] t),
     (fun v W => ∃ A9 c9 B9 d9, v = .agg #[.int .u64 t.now, .int .u64 t.count, .slice A9 t.links.length c9, .slice B9 t.sess.length d9] ∧ stE.rep W noneAt [.int .u64 t.now, .int .u64 t.count, .slice A9 t.links.length c9, .slice B9 t.sess.length d9] t),
     (fun x_ _ => x_ = .agg #[.int .i64 a.err, str a.text])] (fun W => Ext w3 W) Ext rfl rfl rfl
     ?st ((Ext.rfl' w3).drew') ?ob ?en ?en2
    case st => exact ⟨fun _ _ _ h _ => h, fun _ _ _ h _ => h, fun _ _ _ h _ => h, fun _ _ _ h _ => h, fun _ _ _ h _ => h, fun _ _ _ ⟨a1_, a2_, a3_, a4_, h1_, h2_⟩ hx => ⟨a1_, a2_, a3_, a4_, h1_, stE.ext h2_ hx⟩, fun _ _ _ ⟨a1_, a2_, a3_, a4_, h1_, h2_⟩ hx => ⟨a1_, a2_, a3_, a4_, h1_, stE.ext h2_ hx⟩, fun _ _ _ ⟨a1_, a2_, a3_, a4_, h1_, h2_⟩ hx => ⟨a1_, a2_, a3_, a4_, h1_, stE.ext h2_ hx⟩, fun _ _ _ h _ => h, trivial⟩
    case ob =>
     refine ⟨Rg.at_run [3] rfl ?_, ?_⟩
     ·intro ρ W hR ⟨q3, _⟩
      replace q3 : ρ 3 = .pointer (some ⟨g1, 0, none⟩) := q3
      refine ⟨rfl, ?_⟩
      have c0_ : W.cell? ⟨g1, 0, none⟩ = some (.int .u64 s.now) := ((hS.ext hR).cell 0).trans rfl
      have c1_ : W.cell? ⟨g1, 1, none⟩ = some (.int .u64 s.count) := ((hS.ext hR).cell 1).trans rfl
      have c2_ : W.cell? ⟨g1, 2, none⟩ = some (.slice A1 s.links.length c1) := ((hS.ext hR).cell 2).trans rfl
      have c3_ : W.cell? ⟨g1, 3, none⟩ = some (.slice B1 s.sess.length d1) := ((hS.ext hR).cell 3).trans rfl
      exact Rg.run_ok (v := .agg #[.int .u64 s.now, .int .u64 s.count, .slice A1 s.links.length c1, .slice B1 s.sess.length d1]) (by simp [execOp, Rg.ev, go_sem, q3, c0_, c1_, c2_, c3_]) ⟨rfl, hR, Ext.rfl' _⟩
     refine ⟨Rg.at_run [5] rfl ?_, ?_⟩
     ·intro ρ W hR ⟨q5, _⟩
      replace q5 : ρ 5 = .slice (some ad) l.length c := q5
      refine ⟨rfl, ?_⟩
      exact Rg.run_ok (v := .slice (some ad) l.length c) (by simp [execOp, Rg.ev, go_sem, q5]) ⟨rfl, hR, Ext.rfl' _⟩
     refine ⟨Rg.at_run [6] rfl ?_, ?_⟩
     ·intro ρ W hR ⟨q6, _⟩
      replace q6 : ρ 6 = .int .i64 k := q6
      refine ⟨rfl, ?_⟩
      exact Rg.run_ok (v := .int .i64 k) (by simp [execOp, Rg.ev, go_sem, q6]) ⟨rfl, hR, Ext.rfl' _⟩
     refine ⟨Rg.at_run [26, 27] rfl ?_, ?_⟩
     ·intro ρ W hR ⟨q26, q27, _⟩
      replace q26 : ρ 26 = .slice (some ad) l.length c := q26
      replace q27 : ρ 27 = .int .i64 k := q27
      refine ⟨rfl, ?_⟩
      exact Rg.run_ok (v := .pointer (some (ad.add (k * 6)))) (by simp [execOp, Rg.ev, go_sem, q26, q27, hb1, hb2]) ⟨rfl, hR, Ext.rfl' _⟩
     refine ⟨Rg.at_run [28] rfl ?_, ?_⟩
     ·intro ρ W hR ⟨q28, _⟩
      replace q28 : ρ 28 = .pointer (some (ad.add (k * 6))) := q28
      refine ⟨rfl, ?_⟩
      have hab_ : (ad.add (k * 6)).block < w3.heap.size := by rw [block_of_add]; exact hbk
      have c0_ : W.cell? (ad.add (k * 6)) = some (.int .i64 m.kind) := (hR.cell (p := (ad.add (k * 6))) hab_).trans p0
      have c1_ : W.cell? ⟨(ad.add (k * 6)).block, (ad.add (k * 6)).off + 1, none⟩ = some (.int .i64 m.client) := (hR.cell (p := ⟨(ad.add (k * 6)).block, (ad.add (k * 6)).off + 1, none⟩) hab_).trans p1
      have c2_ : W.cell? ⟨(ad.add (k * 6)).block, (ad.add (k * 6)).off + 2, none⟩ = some (.int .u64 m.seq) := (hR.cell (p := ⟨(ad.add (k * 6)).block, (ad.add (k * 6)).off + 2, none⟩) hab_).trans p2
      have c3_ : W.cell? ⟨(ad.add (k * 6)).block, (ad.add (k * 6)).off + 3, none⟩ = some (str m.name) := (hR.cell (p := ⟨(ad.add (k * 6)).block, (ad.add (k * 6)).off + 3, none⟩) hab_).trans p3
      have c4_ : W.cell? ⟨(ad.add (k * 6)).block, (ad.add (k * 6)).off + 4, none⟩ = some (str m.url) := (hR.cell (p := ⟨(ad.add (k * 6)).block, (ad.add (k * 6)).off + 4, none⟩) hab_).trans p4
      have c5_ : W.cell? ⟨(ad.add (k * 6)).block, (ad.add (k * 6)).off + 5, none⟩ = some (.int .u64 m.till) := (hR.cell (p := ⟨(ad.add (k * 6)).block, (ad.add (k * 6)).off + 5, none⟩) hab_).trans p5
      exact Rg.run_ok (v := .agg #[.int .i64 m.kind, .int .i64 m.client, .int .u64 m.seq, str m.name, str m.url, .int .u64 m.till]) (by simp [execOp, Rg.ev, go_sem, q28, c0_, c1_, c2_, c3_, c4_, c5_]) ⟨rfl, hR, Ext.rfl' _⟩
     refine ⟨Rg.at_run [25, 29] rfl ?_, ?_⟩
     ·intro ρ W hR ⟨q25, q29, _⟩
      replace q25 : ρ 25 = .agg #[.int .u64 s.now, .int .u64 s.count, .slice A1 s.links.length c1, .slice B1 s.sess.length d1] := q25
      replace q29 : ρ 29 = .agg #[.int .i64 m.kind, .int .i64 m.client, .int .u64 m.seq, str m.name, str m.url, .int .u64 m.till] := q29
      refine ⟨rfl, ?_⟩
      refine Rg.enter_fn (args := #[.agg #[.int .u64 s.now, .int .u64 s.count, .slice A1 s.links.length c1, .slice B1 s.sess.length d1], .agg #[.int .i64 m.kind, .int .i64 m.client, .int .u64 m.seq, str m.name, str m.url, .int .u64 m.till]]) rfl (by simp only [List.map_toArray, List.map_cons, List.map_nil, Rg.ev, q25, q29]) (by kernel_rfl) ?_
      refine (HD.out W hR).mono ?_
      rintro e_ w9 ⟨t_, a_, A9, c9, B9, d9, h1_, rfl, h2_, hxx⟩
      obtain ⟨rfl, rfl⟩ := Prod.mk.inj h1_.out
      exact ⟨_, rfl, ⟨A9, c9, B9, d9, rfl, h2_⟩, hR.trans' hxx, hxx⟩
     refine ⟨Rg.at_run [30] rfl ?_, ?_⟩
     ·intro ρ W hR ⟨q30, _⟩
      replace q30 : (fun v W => ∃ A9 c9 B9 d9, v = .tuple #[.agg #[.int .u64 t.now, .int .u64 t.count, .slice A9 t.links.length c9, .slice B9 t.sess.length d9], .agg #[.int .i64 a.err, str a.text]] ∧ stE.rep W noneAt [.int .u64 t.now, .int .u64 t.count, .slice A9 t.links.length c9, .slice B9 t.sess.length d9] t) (ρ 30) W := q30
      refine ⟨rfl, ?_⟩
      exact Rg.run_ok (by simp [execOp, Rg.ev, go_sem] <;> rfl) ⟨q30, hR, Ext.rfl' _⟩
     refine ⟨Rg.at_run [24] rfl ?_, ?_⟩
     ·intro ρ W hR ⟨q24, _⟩
      replace q24 : (fun v W => ∃ A9 c9 B9 d9, v = .tuple #[.agg #[.int .u64 t.now, .int .u64 t.count, .slice A9 t.links.length c9, .slice B9 t.sess.length d9], .agg #[.int .i64 a.err, str a.text]] ∧ stE.rep W noneAt [.int .u64 t.now, .int .u64 t.count, .slice A9 t.links.length c9, .slice B9 t.sess.length d9] t) (ρ 24) W := q24
      refine ⟨rfl, ?_⟩
      obtain ⟨A9, c9, B9, d9, hv_, hr_⟩ := q24
      exact Rg.run_ok (v := .agg #[.int .u64 t.now, .int .u64 t.count, .slice A9 t.links.length c9, .slice B9 t.sess.length d9]) (by simp [execOp, Rg.ev, go_sem, hv_]) ⟨⟨A9, c9, B9, d9, rfl, hr_⟩, hR, Ext.rfl' _⟩
     refine ⟨Rg.at_run [24] rfl ?_, ?_⟩
     ·intro ρ W hR ⟨q24, _⟩
      replace q24 : (fun v W => ∃ A9 c9 B9 d9, v = .tuple #[.agg #[.int .u64 t.now, .int .u64 t.count, .slice A9 t.links.length c9, .slice B9 t.sess.length d9], .agg #[.int .i64 a.err, str a.text]] ∧ stE.rep W noneAt [.int .u64 t.now, .int .u64 t.count, .slice A9 t.links.length c9, .slice B9 t.sess.length d9] t) (ρ 24) W := q24
      refine ⟨rfl, ?_⟩
      obtain ⟨A9, c9, B9, d9, hv_, hr_⟩ := q24
      exact Rg.run_ok (v := .agg #[.int .i64 a.err, str a.text]) (by simp [execOp, Rg.ev, go_sem, hv_]) ⟨rfl, hR, Ext.rfl' _⟩
     trivial
    case en =>
     intro tm W hR hsz hk
     rw [Rg.fin_eq (ds := [25, 26, 27, 28, 29, 30, 24, 31, 32]) rfl rfl rfl hsz hk]
     have k24 : (fun v W => ∃ A9 c9 B9 d9, v = .tuple #[.agg #[.int .u64 t.now, .int .u64 t.count, .slice A9 t.links.length c9, .slice B9 t.sess.length d9], .agg #[.int .i64 a.err, str a.text]] ∧ stE.rep W noneAt [.int .u64 t.now, .int .u64 t.count, .slice A9 t.links.length c9, .slice B9 t.sess.length d9] t) (tm.getD 24 undef) W := hk 24
     have k25 : tm.getD 25 undef = .agg #[.int .u64 s.now, .int .u64 s.count, .slice A1 s.links.length c1, .slice B1 s.sess.length d1] := hk 25
     have k26 : tm.getD 26 undef = .slice (some ad) l.length c := hk 26
     have k27 : tm.getD 27 undef = .int .i64 k := hk 27
     have k28 : tm.getD 28 undef = .pointer (some (ad.add (k * 6))) := hk 28
     have k29 : tm.getD 29 undef = .agg #[.int .i64 m.kind, .int .i64 m.client, .int .u64 m.seq, str m.name, str m.url, .int .u64 m.till] := hk 29
     have k30 : (fun v W => ∃ A9 c9 B9 d9, v = .tuple #[.agg #[.int .u64 t.now, .int .u64 t.count, .slice A9 t.links.length c9, .slice B9 t.sess.length d9], .agg #[.int .i64 a.err, str a.text]] ∧ stE.rep W noneAt [.int .u64 t.now, .int .u64 t.count, .slice A9 t.links.length c9, .slice B9 t.sess.length d9] t) (tm.getD 30 undef) W := hk 30
     have k31 : (fun v W => ∃ A9 c9 B9 d9, v = .agg #[.int .u64 t.now, .int .u64 t.count, .slice A9 t.links.length c9, .slice B9 t.sess.length d9] ∧ stE.rep W noneAt [.int .u64 t.now, .int .u64 t.count, .slice A9 t.links.length c9, .slice B9 t.sess.length d9] t) (tm.getD 31 undef) W := hk 31
     have k32 : tm.getD 32 undef = .agg #[.int .i64 a.err, str a.text] := hk 32
     clear hk hsz
     simp only [Rg.putAll, List.setIfInBounds_toArray, List.set_cons_zero, List.set_cons_succ, k25, k26, k27, k28, k29, k32]
     generalize tm.getD 24 undef = u24 at *
     clear k25
     clear k26
     clear k27
     clear k28
     clear k29
     generalize tm.getD 30 undef = u30 at *
     generalize tm.getD 31 undef = u31 at *
     clear k32
     clear k24 k30
     obtain ⟨A9, c9, B9, d9, rfl, hrep1⟩ := k31
     replace hS := hS.ext hR
     replace hT := hT.ext hR
     replace hA := hA.ext hR
     replace hB := hB.ext hR
     replace hown := hown.ext hR
     replace hrS := stE.ext hrS hR
     replace hrT := stE.ext hrT hR
     replace hxr := hxr.trans' hR
     have l0 := (hS.cell 0).trans rfl
     have n0_ := hS.frozen 0
     have l1 := (hS.cell 1).trans rfl
     have n1_ := hS.frozen 1
     have l2 := (hS.cell 2).trans rfl
     have n2_ := hS.frozen 2
     have l3 := (hS.cell 3).trans rfl
     have n3_ := hS.frozen 3
     have a0 := (hA.cell 0).trans rfl
     have b0 := hA.frozen 0
     have a1 := (hA.cell 1).trans rfl
     have b1 := hA.frozen 1
     have hcg : Chg [g1] W _ := (Chg.refl [g1] W).four (g := g1) (by simp) (.int .u64 t.now) (.int .u64 t.count) (.slice A9 t.links.length c9) (.slice B9 t.sess.length d9)
     have hX1 := Blk.four hS (.int .u64 t.now) (.int .u64 t.count) (.slice A9 t.links.length c9) (.slice B9 t.sess.length d9)
     have hY1 := Blk.two_ (hA.chg hcg (by simp; omega)) (.int .i64 a.err) (str a.text)
     have hc2 : Chg [ga] _ _ := (Chg.refl [ga] ((((W.setCell ⟨g1, 0, none⟩ (.int .u64 t.now)).setCell ⟨g1, 1, none⟩ (.int .u64 t.count)).setCell ⟨g1, 2, none⟩ (.slice A9 t.links.length c9)).setCell ⟨g1, 3, none⟩ (.slice B9 t.sess.length d9))).two_ (g := ga) (by simp) (.int .i64 a.err) (str a.text)
     have hX2 := hX1.chg hc2 (by simp; omega)
     have hT2 := (hT.chg hcg (by simp; omega)).chg hc2 (by simp; omega)
     have hB2 := (hB.chg hcg (by simp; omega)).chg hc2 (by simp; omega)
     have hrN := stE.mono (stE.chg (stE.chg (st_apartS (st_apartS hrep1 hS (nos4' _ _ _ _ _ _ _ _)) hA (nos2 0 [])) hcg (fun j hj _ => .inl (.inr (by simpa using hj)))) hc2 (fun j hj _ => .inr (by simpa using hj))) (Y := noneAt) (fun _ _ h => h.elim)
     have hrO := stE.mono (stE.chg (stE.chg (st_apartS (st_apartS hrT hS (nos4' _ _ _ _ _ _ _ _)) hA (nos2 0 [])) hcg (fun j hj _ => .inl (.inr (by simpa using hj)))) hc2 (fun j hj _ => .inr (by simpa using hj))) (Y := noneAt) (fun _ _ h => h.elim)
     have hown2 := (hown.chgT hS (by decide) hcg (fun h => cm_any h)).chgT (hA.chg hcg (by simp; omega)) (by decide) hc2 (fun h => cm_any h)
     have hx2 := (hxr.then_ hcg (by simp; omega)).then_ hc2 (by simp; omega)
     go_wp2_with fail
     go_meet
     case rel => exact ⟨A9, c9, B9, d9, hX2, hT2, hY1, hB2, hrN, hrO, hown2, hx2⟩
    case en2 =>
     intro tm W hR hsz hk
     rw [Rg.fin_eqX (ds := [25, 26, 27, 28, 29, 30, 24, 31, 32]) rfl (by decide) rfl rfl hsz hk]
     have k24 : (fun v W => ∃ A9 c9 B9 d9, v = .tuple #[.agg #[.int .u64 t.now, .int .u64 t.count, .slice A9 t.links.length c9, .slice B9 t.sess.length d9], .agg #[.int .i64 a.err, str a.text]] ∧ stE.rep W noneAt [.int .u64 t.now, .int .u64 t.count, .slice A9 t.links.length c9, .slice B9 t.sess.length d9] t) (tm.getD 24 undef) W := hk 24
     have k25 : tm.getD 25 undef = .agg #[.int .u64 s.now, .int .u64 s.count, .slice A1 s.links.length c1, .slice B1 s.sess.length d1] := hk 25
     have k26 : tm.getD 26 undef = .slice (some ad) l.length c := hk 26
     have k27 : tm.getD 27 undef = .int .i64 k := hk 27
     have k28 : tm.getD 28 undef = .pointer (some (ad.add (k * 6))) := hk 28
     have k29 : tm.getD 29 undef = .agg #[.int .i64 m.kind, .int .i64 m.client, .int .u64 m.seq, str m.name, str m.url, .int .u64 m.till] := hk 29
     have k30 : (fun v W => ∃ A9 c9 B9 d9, v = .tuple #[.agg #[.int .u64 t.now, .int .u64 t.count, .slice A9 t.links.length c9, .slice B9 t.sess.length d9], .agg #[.int .i64 a.err, str a.text]] ∧ stE.rep W noneAt [.int .u64 t.now, .int .u64 t.count, .slice A9 t.links.length c9, .slice B9 t.sess.length d9] t) (tm.getD 30 undef) W := hk 30
     have k31 : (fun v W => ∃ A9 c9 B9 d9, v = .agg #[.int .u64 t.now, .int .u64 t.count, .slice A9 t.links.length c9, .slice B9 t.sess.length d9] ∧ stE.rep W noneAt [.int .u64 t.now, .int .u64 t.count, .slice A9 t.links.length c9, .slice B9 t.sess.length d9] t) (tm.getD 31 undef) W := hk 31
     clear hk hsz
     simp only [Rg.putAll, List.setIfInBounds_toArray, List.set_cons_zero, List.set_cons_succ, k25, k26, k27, k28, k29]
     generalize tm.getD 24 undef = u24 at *
     clear k25
     clear k26
     clear k27
     clear k28
     clear k29
     generalize tm.getD 30 undef = u30 at *
     generalize tm.getD 31 undef = u31 at *
     generalize tm.getD 32 undef = u32 at *
     clear k30
     obtain ⟨A9, c9, B9, d9, rfl, hrep1⟩ := k31
     replace hS := hS.ext hR
     replace hT := hT.ext hR
     replace hA := hA.ext hR
     replace hB := hB.ext hR
     replace hown := hown.ext hR
     replace hrS := stE.ext hrS hR
     replace hrT := stE.ext hrT hR
     replace hxr := hxr.trans' hR
     have l0 := (hS.cell 0).trans rfl
     have n0_ := hS.frozen 0
     have l1 := (hS.cell 1).trans rfl
     have n1_ := hS.frozen 1
     have l2 := (hS.cell 2).trans rfl
     have n2_ := hS.frozen 2
     have l3 := (hS.cell 3).trans rfl
     have n3_ := hS.frozen 3
     have a0 := (hA.cell 0).trans rfl
     have b0 := hA.frozen 0
     have a1 := (hA.cell 1).trans rfl
     have b1 := hA.frozen 1
     have hcg : Chg [g1] W _ := (Chg.refl [g1] W).four (g := g1) (by simp) (.int .u64 t.now) (.int .u64 t.count) (.slice A9 t.links.length c9) (.slice B9 t.sess.length d9)
     have hX1 := Blk.four hS (.int .u64 t.now) (.int .u64 t.count) (.slice A9 t.links.length c9) (.slice B9 t.sess.length d9)
     have hY1 := Blk.two_ (hA.chg hcg (by simp; omega)) (.int .i64 a.err) (str a.text)
     have hc2 : Chg [ga] _ _ := (Chg.refl [ga] ((((W.setCell ⟨g1, 0, none⟩ (.int .u64 t.now)).setCell ⟨g1, 1, none⟩ (.int .u64 t.count)).setCell ⟨g1, 2, none⟩ (.slice A9 t.links.length c9)).setCell ⟨g1, 3, none⟩ (.slice B9 t.sess.length d9))).two_ (g := ga) (by simp) (.int .i64 a.err) (str a.text)
     have hX2 := hX1.chg hc2 (by simp; omega)
     have hT2 := (hT.chg hcg (by simp; omega)).chg hc2 (by simp; omega)
     have hB2 := (hB.chg hcg (by simp; omega)).chg hc2 (by simp; omega)
     have hrN := stE.mono (stE.chg (stE.chg (st_apartS (st_apartS hrep1 hS (nos4' _ _ _ _ _ _ _ _)) hA (nos2 0 [])) hcg (fun j hj _ => .inl (.inr (by simpa using hj)))) hc2 (fun j hj _ => .inr (by simpa using hj))) (Y := noneAt) (fun _ _ h => h.elim)
     have hrO := stE.mono (stE.chg (stE.chg (st_apartS (st_apartS hrT hS (nos4' _ _ _ _ _ _ _ _)) hA (nos2 0 [])) hcg (fun j hj _ => .inl (.inr (by simpa using hj)))) hc2 (fun j hj _ => .inr (by simpa using hj))) (Y := noneAt) (fun _ _ h => h.elim)
     have hown2 := (hown.chgT hS (by decide) hcg (fun h => cm_any h)).chgT (hA.chg hcg (by simp; omega)) (by decide) hc2 (fun h => cm_any h)
     have hx2 := (hxr.then_ hcg (by simp; omega)).then_ hc2 (by simp; omega)
     obtain ⟨A8, c8, B8, d8, hv_, -⟩ := k24
     rw [hv_]
     clear hv_
     simp only [List.drop_succ_cons, List.drop_zero]
     go_wp2_with fail
     go_meet
     case rel => exact ⟨A9, c9, B9, d9, hX2, hT2, hY1, hB2, hrN, hrO, hown2, hx2⟩
   case rest =>
    clear hS hT hA hB hrS hrT hown p0 p1 p2 p3 p4 p5 hbk HD hxr
    obtain ⟨A3, c3, B3, d3, hS, hT, hA, hB, hrS, hrT, hown, hxr⟩ := hcut
    generalize wc = w5 at *
    obtain ⟨ad', m', had, hm', hbk, p0, p1, p2, p3, p4, p5, -⟩ := cm_at hown.sl HLT.out
    obtain rfl := Option.some.inj had
    obtain rfl : m = m' := Option.some.inj (hm.out.symm.trans hm'.out)
    have HD3 := hide (fun W (hx : Ext w5 W) => HD2.out W A2 c2 B2 d2 (stE.ext hrT hx))
    go_upto_region 12 with fail
    go_cut [] (fun wx => ∃ A4 c4 B4 d4, Blk wx g1 28 #[.int .u64 t.now, .int .u64 t.count, .slice A3 t.links.length c3, .slice B3 t.sess.length d3] ∧ Blk wx g2 28 #[.int .u64 t.now, .int .u64 t.count, .slice A4 t.links.length c4, .slice B4 t.sess.length d4] ∧ Blk wx ga 33 #[.int .i64 a.err, str a.text] ∧ Blk wx gb 33 #[.int .i64 a.err, str a.text] ∧ stE.rep wx noneAt [.int .u64 t.now, .int .u64 t.count, .slice A3 t.links.length c3, .slice B3 t.sess.length d3] t ∧ stE.rep wx noneAt [.int .u64 t.now, .int .u64 t.count, .slice A4 t.links.length c4, .slice B4 t.sess.length d4] t ∧ Own 37 cmE w2 wx noneAt (.slice (some ad) l.length c) l ∧ Ext w wx)
    case first =>
     refine Rg.regionX Tryz.checked.mixed 67 9 8 41 _ _ (by rfl) (by rfl) (by kernel_rfl) [
      (fun x_ _ => x_ = .agg #[.int .u64 s.now, .int .u64 s.count, .slice A2 s.links.length c2, .slice B2 s.sess.length d2]),
      (fun x_ _ => x_ = .slice (some ad) l.length c),
      (fun x_ _ => x_ = .int .i64 k),
      (fun x_ _ => x_ = .pointer (some (ad.add (k * 6)))),
      (fun x_ _ => x_ = .agg #[.int .i64 m.kind, .int .i64 m.client, .int .u64 m.seq, str m.name, str m.url, .int .u64 m.till]),
      (fun v W => ∃ A9 c9 B9 d9, v = .tuple #[.agg #[.int .u64 t.now, .int .u64 t.count, .slice A9 t.links.length c9, .slice B9 t.sess.length d9], .agg #[.int .i64 a.err, str a.text]] ∧ stE.rep W noneAt [.int .u64 t.now, .int .u64 t.count, .slice A9 t.links.length c9, .slice B9 t.sess.length d9] t),
      (fun v W => ∃ A9 c9 B9 d9, v = .tuple #[.agg #[.int .u64 t.now, .int .u64 t.count, .slice A9 t.links.length c9, .slice B9 t.sess.length d9], .agg #[.int .i64 a.err, str a.text]] ∧ stE.rep W noneAt [.int .u64 t.now, .int .u64 t.count, .slice A9 t.links.length c9, .slice B9 t.sess.length d9] t),
      (fun v W => ∃ A9 c9 B9 d9, v = .agg #[.int .u64 t.now, .int .u64 t.count, .slice A9 t.links.length c9, .slice B9 t.sess.length d9] ∧ stE.rep W noneAt [.int .u64 t.now, .int .u64 t.count, .slice A9 t.links.length c9, .slice B9 t.sess.length d9] t),
      (fun x_ _ => x_ = .agg #[.int .i64 a.err, str a.text])] (fun W => Ext w5 W) Ext rfl rfl rfl
      ?st ((Ext.rfl' w5).drew') ?ob ?en ?en2
     case st => exact ⟨fun _ _ _ h _ => h, fun _ _ _ h _ => h, fun _ _ _ h _ => h, fun _ _ _ h _ => h, fun _ _ _ h _ => h, fun _ _ _ ⟨a1_, a2_, a3_, a4_, h1_, h2_⟩ hx => ⟨a1_, a2_, a3_, a4_, h1_, stE.ext h2_ hx⟩, fun _ _ _ ⟨a1_, a2_, a3_, a4_, h1_, h2_⟩ hx => ⟨a1_, a2_, a3_, a4_, h1_, stE.ext h2_ hx⟩, fun _ _ _ ⟨a1_, a2_, a3_, a4_, h1_, h2_⟩ hx => ⟨a1_, a2_, a3_, a4_, h1_, stE.ext h2_ hx⟩, fun _ _ _ h _ => h, trivial⟩
     case ob =>
      refine ⟨Rg.at_run [4] rfl ?_, ?_⟩
      ·intro ρ W hR ⟨q4, _⟩
       replace q4 : ρ 4 = .pointer (some ⟨g2, 0, none⟩) := q4
       refine ⟨rfl, ?_⟩
       have c0_ : W.cell? ⟨g2, 0, none⟩ = some (.int .u64 s.now) := ((hT.ext hR).cell 0).trans rfl
       have c1_ : W.cell? ⟨g2, 1, none⟩ = some (.int .u64 s.count) := ((hT.ext hR).cell 1).trans rfl
       have c2_ : W.cell? ⟨g2, 2, none⟩ = some (.slice A2 s.links.length c2) := ((hT.ext hR).cell 2).trans rfl
       have c3_ : W.cell? ⟨g2, 3, none⟩ = some (.slice B2 s.sess.length d2) := ((hT.ext hR).cell 3).trans rfl
       exact Rg.run_ok (v := .agg #[.int .u64 s.now, .int .u64 s.count, .slice A2 s.links.length c2, .slice B2 s.sess.length d2]) (by simp [execOp, Rg.ev, go_sem, q4, c0_, c1_, c2_, c3_]) ⟨rfl, hR, Ext.rfl' _⟩
      refine ⟨Rg.at_run [5] rfl ?_, ?_⟩
      ·intro ρ W hR ⟨q5, _⟩
       replace q5 : ρ 5 = .slice (some ad) l.length c := q5
       refine ⟨rfl, ?_⟩
       exact Rg.run_ok (v := .slice (some ad) l.length c) (by simp [execOp, Rg.ev, go_sem, q5]) ⟨rfl, hR, Ext.rfl' _⟩
      refine ⟨Rg.at_run [6] rfl ?_, ?_⟩
      ·intro ρ W hR ⟨q6, _⟩
       replace q6 : ρ 6 = .int .i64 k := q6
       refine ⟨rfl, ?_⟩
       exact Rg.run_ok (v := .int .i64 k) (by simp [execOp, Rg.ev, go_sem, q6]) ⟨rfl, hR, Ext.rfl' _⟩
      refine ⟨Rg.at_run [35, 36] rfl ?_, ?_⟩
      ·intro ρ W hR ⟨q35, q36, _⟩
       replace q35 : ρ 35 = .slice (some ad) l.length c := q35
       replace q36 : ρ 36 = .int .i64 k := q36
       refine ⟨rfl, ?_⟩
       exact Rg.run_ok (v := .pointer (some (ad.add (k * 6)))) (by simp [execOp, Rg.ev, go_sem, q35, q36, hb1, hb2]) ⟨rfl, hR, Ext.rfl' _⟩
      refine ⟨Rg.at_run [37] rfl ?_, ?_⟩
      ·intro ρ W hR ⟨q37, _⟩
       replace q37 : ρ 37 = .pointer (some (ad.add (k * 6))) := q37
       refine ⟨rfl, ?_⟩
       have hab_ : (ad.add (k * 6)).block < w5.heap.size := by rw [block_of_add]; exact hbk
       have c0_ : W.cell? (ad.add (k * 6)) = some (.int .i64 m.kind) := (hR.cell (p := (ad.add (k * 6))) hab_).trans p0
       have c1_ : W.cell? ⟨(ad.add (k * 6)).block, (ad.add (k * 6)).off + 1, none⟩ = some (.int .i64 m.client) := (hR.cell (p := ⟨(ad.add (k * 6)).block, (ad.add (k * 6)).off + 1, none⟩) hab_).trans p1
       have c2_ : W.cell? ⟨(ad.add (k * 6)).block, (ad.add (k * 6)).off + 2, none⟩ = some (.int .u64 m.seq) := (hR.cell (p := ⟨(ad.add (k * 6)).block, (ad.add (k * 6)).off + 2, none⟩) hab_).trans p2
       have c3_ : W.cell? ⟨(ad.add (k * 6)).block, (ad.add (k * 6)).off + 3, none⟩ = some (str m.name) := (hR.cell (p := ⟨(ad.add (k * 6)).block, (ad.add (k * 6)).off + 3, none⟩) hab_).trans p3
       have c4_ : W.cell? ⟨(ad.add (k * 6)).block, (ad.add (k * 6)).off + 4, none⟩ = some (str m.url) := (hR.cell (p := ⟨(ad.add (k * 6)).block, (ad.add (k * 6)).off + 4, none⟩) hab_).trans p4
       have c5_ : W.cell? ⟨(ad.add (k * 6)).block, (ad.add (k * 6)).off + 5, none⟩ = some (.int .u64 m.till) := (hR.cell (p := ⟨(ad.add (k * 6)).block, (ad.add (k * 6)).off + 5, none⟩) hab_).trans p5
       exact Rg.run_ok (v := .agg #[.int .i64 m.kind, .int .i64 m.client, .int .u64 m.seq, str m.name, str m.url, .int .u64 m.till]) (by simp [execOp, Rg.ev, go_sem, q37, c0_, c1_, c2_, c3_, c4_, c5_]) ⟨rfl, hR, Ext.rfl' _⟩
      refine ⟨Rg.at_run [34, 38] rfl ?_, ?_⟩
      ·intro ρ W hR ⟨q34, q38, _⟩
       replace q34 : ρ 34 = .agg #[.int .u64 s.now, .int .u64 s.count, .slice A2 s.links.length c2, .slice B2 s.sess.length d2] := q34
       replace q38 : ρ 38 = .agg #[.int .i64 m.kind, .int .i64 m.client, .int .u64 m.seq, str m.name, str m.url, .int .u64 m.till] := q38
       refine ⟨rfl, ?_⟩
       refine Rg.enter_fn (args := #[.agg #[.int .u64 s.now, .int .u64 s.count, .slice A2 s.links.length c2, .slice B2 s.sess.length d2], .agg #[.int .i64 m.kind, .int .i64 m.client, .int .u64 m.seq, str m.name, str m.url, .int .u64 m.till]]) rfl (by simp only [List.map_toArray, List.map_cons, List.map_nil, Rg.ev, q34, q38]) (by kernel_rfl) ?_
       refine (HD3.out W hR).mono ?_
       rintro e_ w9 ⟨t_, a_, A9, c9, B9, d9, h1_, rfl, h2_, hxx⟩
       obtain ⟨rfl, rfl⟩ := Prod.mk.inj h1_.out
       exact ⟨_, rfl, ⟨A9, c9, B9, d9, rfl, h2_⟩, hR.trans' hxx, hxx⟩
      refine ⟨Rg.at_run [39] rfl ?_, ?_⟩
      ·intro ρ W hR ⟨q39, _⟩
       replace q39 : (fun v W => ∃ A9 c9 B9 d9, v = .tuple #[.agg #[.int .u64 t.now, .int .u64 t.count, .slice A9 t.links.length c9, .slice B9 t.sess.length d9], .agg #[.int .i64 a.err, str a.text]] ∧ stE.rep W noneAt [.int .u64 t.now, .int .u64 t.count, .slice A9 t.links.length c9, .slice B9 t.sess.length d9] t) (ρ 39) W := q39
       refine ⟨rfl, ?_⟩
       exact Rg.run_ok (by simp [execOp, Rg.ev, go_sem] <;> rfl) ⟨q39, hR, Ext.rfl' _⟩
      refine ⟨Rg.at_run [33] rfl ?_, ?_⟩
      ·intro ρ W hR ⟨q33, _⟩
       replace q33 : (fun v W => ∃ A9 c9 B9 d9, v = .tuple #[.agg #[.int .u64 t.now, .int .u64 t.count, .slice A9 t.links.length c9, .slice B9 t.sess.length d9], .agg #[.int .i64 a.err, str a.text]] ∧ stE.rep W noneAt [.int .u64 t.now, .int .u64 t.count, .slice A9 t.links.length c9, .slice B9 t.sess.length d9] t) (ρ 33) W := q33
       refine ⟨rfl, ?_⟩
       obtain ⟨A9, c9, B9, d9, hv_, hr_⟩ := q33
       exact Rg.run_ok (v := .agg #[.int .u64 t.now, .int .u64 t.count, .slice A9 t.links.length c9, .slice B9 t.sess.length d9]) (by simp [execOp, Rg.ev, go_sem, hv_]) ⟨⟨A9, c9, B9, d9, rfl, hr_⟩, hR, Ext.rfl' _⟩
      refine ⟨Rg.at_run [33] rfl ?_, ?_⟩
      ·intro ρ W hR ⟨q33, _⟩
       replace q33 : (fun v W => ∃ A9 c9 B9 d9, v = .tuple #[.agg #[.int .u64 t.now, .int .u64 t.count, .slice A9 t.links.length c9, .slice B9 t.sess.length d9], .agg #[.int .i64 a.err, str a.text]] ∧ stE.rep W noneAt [.int .u64 t.now, .int .u64 t.count, .slice A9 t.links.length c9, .slice B9 t.sess.length d9] t) (ρ 33) W := q33
       refine ⟨rfl, ?_⟩
       obtain ⟨A9, c9, B9, d9, hv_, hr_⟩ := q33
       exact Rg.run_ok (v := .agg #[.int .i64 a.err, str a.text]) (by simp [execOp, Rg.ev, go_sem, hv_]) ⟨rfl, hR, Ext.rfl' _⟩
      trivial
     case en =>
      intro tm W hR hsz hk
      rw [Rg.fin_eq (ds := [34, 35, 36, 37, 38, 39, 33, 40, 41]) rfl rfl rfl hsz hk]
      have k33 : (fun v W => ∃ A9 c9 B9 d9, v = .tuple #[.agg #[.int .u64 t.now, .int .u64 t.count, .slice A9 t.links.length c9, .slice B9 t.sess.length d9], .agg #[.int .i64 a.err, str a.text]] ∧ stE.rep W noneAt [.int .u64 t.now, .int .u64 t.count, .slice A9 t.links.length c9, .slice B9 t.sess.length d9] t) (tm.getD 33 undef) W := hk 33
      have k34 : tm.getD 34 undef = .agg #[.int .u64 s.now, .int .u64 s.count, .slice A2 s.links.length c2, .slice B2 s.sess.length d2] := hk 34
      have k35 : tm.getD 35 undef = .slice (some ad) l.length c := hk 35
      have k36 : tm.getD 36 undef = .int .i64 k := hk 36
      have k37 : tm.getD 37 undef = .pointer (some (ad.add (k * 6))) := hk 37
      have k38 : tm.getD 38 undef = .agg #[.int .i64 m.kind, .int .i64 m.client, .int .u64 m.seq, str m.name, str m.url, .int .u64 m.till] := hk 38
      have k39 : (fun v W => ∃ A9 c9 B9 d9, v = .tuple #[.agg #[.int .u64 t.now, .int .u64 t.count, .slice A9 t.links.length c9, .slice B9 t.sess.length d9], .agg #[.int .i64 a.err, str a.text]] ∧ stE.rep W noneAt [.int .u64 t.now, .int .u64 t.count, .slice A9 t.links.length c9, .slice B9 t.sess.length d9] t) (tm.getD 39 undef) W := hk 39
      have k40 : (fun v W => ∃ A9 c9 B9 d9, v = .agg #[.int .u64 t.now, .int .u64 t.count, .slice A9 t.links.length c9, .slice B9 t.sess.length d9] ∧ stE.rep W noneAt [.int .u64 t.now, .int .u64 t.count, .slice A9 t.links.length c9, .slice B9 t.sess.length d9] t) (tm.getD 40 undef) W := hk 40
      have k41 : tm.getD 41 undef = .agg #[.int .i64 a.err, str a.text] := hk 41
      clear hk hsz
      simp only [Rg.putAll, List.setIfInBounds_toArray, List.set_cons_zero, List.set_cons_succ, k34, k35, k36, k37, k38, k41]
      generalize tm.getD 33 undef = u33 at *
      clear k34
      clear k35
      clear k36
      clear k37
      clear k38
      generalize tm.getD 39 undef = u39 at *
      generalize tm.getD 40 undef = u40 at *
      clear k41
      clear k33 k39
      obtain ⟨A9, c9, B9, d9, rfl, hrep1⟩ := k40
      replace hS := hS.ext hR
      replace hT := hT.ext hR
      replace hA := hA.ext hR
      replace hB := hB.ext hR
      replace hown := hown.ext hR
      replace hrS := stE.ext hrS hR
      replace hrT := stE.ext hrT hR
      replace hxr := hxr.trans' hR
      have l0 := (hT.cell 0).trans rfl
      have n0_ := hT.frozen 0
      have l1 := (hT.cell 1).trans rfl
      have n1_ := hT.frozen 1
      have l2 := (hT.cell 2).trans rfl
      have n2_ := hT.frozen 2
      have l3 := (hT.cell 3).trans rfl
      have n3_ := hT.frozen 3
      have a0 := (hB.cell 0).trans rfl
      have b0 := hB.frozen 0
      have a1 := (hB.cell 1).trans rfl
      have b1 := hB.frozen 1
      have hcg : Chg [g2] W _ := (Chg.refl [g2] W).four (g := g2) (by simp) (.int .u64 t.now) (.int .u64 t.count) (.slice A9 t.links.length c9) (.slice B9 t.sess.length d9)
      have hX1 := Blk.four hT (.int .u64 t.now) (.int .u64 t.count) (.slice A9 t.links.length c9) (.slice B9 t.sess.length d9)
      have hY1 := Blk.two_ (hB.chg hcg (by simp; omega)) (.int .i64 a.err) (str a.text)
      have hc2 : Chg [gb] _ _ := (Chg.refl [gb] ((((W.setCell ⟨g2, 0, none⟩ (.int .u64 t.now)).setCell ⟨g2, 1, none⟩ (.int .u64 t.count)).setCell ⟨g2, 2, none⟩ (.slice A9 t.links.length c9)).setCell ⟨g2, 3, none⟩ (.slice B9 t.sess.length d9))).two_ (g := gb) (by simp) (.int .i64 a.err) (str a.text)
      have hX2 := hX1.chg hc2 (by simp; omega)
      have hS2 := (hS.chg hcg (by simp; omega)).chg hc2 (by simp; omega)
      have hA2 := (hA.chg hcg (by simp; omega)).chg hc2 (by simp; omega)
      have hrN := stE.mono (stE.chg (stE.chg (st_apartS (st_apartS hrep1 hT (nos4' _ _ _ _ _ _ _ _)) hB (nos2 0 [])) hcg (fun j hj _ => .inl (.inr (by simpa using hj)))) hc2 (fun j hj _ => .inr (by simpa using hj))) (Y := noneAt) (fun _ _ h => h.elim)
      have hrO := stE.mono (stE.chg (stE.chg (st_apartS (st_apartS hrS hT (nos4' _ _ _ _ _ _ _ _)) hB (nos2 0 [])) hcg (fun j hj _ => .inl (.inr (by simpa using hj)))) hc2 (fun j hj _ => .inr (by simpa using hj))) (Y := noneAt) (fun _ _ h => h.elim)
      have hown2 := (hown.chgT hT (by decide) hcg (fun h => cm_any h)).chgT (hB.chg hcg (by simp; omega)) (by decide) hc2 (fun h => cm_any h)
      have hx2 := (hxr.then_ hcg (by simp; omega)).then_ hc2 (by simp; omega)
      go_wp2_with fail
      go_meet
      case rel => exact ⟨A9, c9, B9, d9, hS2, hX2, hA2, hY1, hrO, hrN, hown2, hx2⟩
     case en2 =>
      intro tm W hR hsz hk
      rw [Rg.fin_eqX (ds := [34, 35, 36, 37, 38, 39, 33, 40, 41]) rfl (by decide) rfl rfl hsz hk]
      have k33 : (fun v W => ∃ A9 c9 B9 d9, v = .tuple #[.agg #[.int .u64 t.now, .int .u64 t.count, .slice A9 t.links.length c9, .slice B9 t.sess.length d9], .agg #[.int .i64 a.err, str a.text]] ∧ stE.rep W noneAt [.int .u64 t.now, .int .u64 t.count, .slice A9 t.links.length c9, .slice B9 t.sess.length d9] t) (tm.getD 33 undef) W := hk 33
      have k34 : tm.getD 34 undef = .agg #[.int .u64 s.now, .int .u64 s.count, .slice A2 s.links.length c2, .slice B2 s.sess.length d2] := hk 34
      have k35 : tm.getD 35 undef = .slice (some ad) l.length c := hk 35
      have k36 : tm.getD 36 undef = .int .i64 k := hk 36
      have k37 : tm.getD 37 undef = .pointer (some (ad.add (k * 6))) := hk 37
      have k38 : tm.getD 38 undef = .agg #[.int .i64 m.kind, .int .i64 m.client, .int .u64 m.seq, str m.name, str m.url, .int .u64 m.till] := hk 38
      have k39 : (fun v W => ∃ A9 c9 B9 d9, v = .tuple #[.agg #[.int .u64 t.now, .int .u64 t.count, .slice A9 t.links.length c9, .slice B9 t.sess.length d9], .agg #[.int .i64 a.err, str a.text]] ∧ stE.rep W noneAt [.int .u64 t.now, .int .u64 t.count, .slice A9 t.links.length c9, .slice B9 t.sess.length d9] t) (tm.getD 39 undef) W := hk 39
      have k40 : (fun v W => ∃ A9 c9 B9 d9, v = .agg #[.int .u64 t.now, .int .u64 t.count, .slice A9 t.links.length c9, .slice B9 t.sess.length d9] ∧ stE.rep W noneAt [.int .u64 t.now, .int .u64 t.count, .slice A9 t.links.length c9, .slice B9 t.sess.length d9] t) (tm.getD 40 undef) W := hk 40
      clear hk hsz
      simp only [Rg.putAll, List.setIfInBounds_toArray, List.set_cons_zero, List.set_cons_succ, k34, k35, k36, k37, k38]
      generalize tm.getD 33 undef = u33 at *
      clear k34
      clear k35
      clear k36
      clear k37
      clear k38
      generalize tm.getD 39 undef = u39 at *
      generalize tm.getD 40 undef = u40 at *
      generalize tm.getD 41 undef = u41 at *
      clear k39
      obtain ⟨A9, c9, B9, d9, rfl, hrep1⟩ := k40
      replace hS := hS.ext hR
      replace hT := hT.ext hR
      replace hA := hA.ext hR
      replace hB := hB.ext hR
      replace hown := hown.ext hR
      replace hrS := stE.ext hrS hR
      replace hrT := stE.ext hrT hR
      replace hxr := hxr.trans' hR
      have l0 := (hT.cell 0).trans rfl
      have n0_ := hT.frozen 0
      have l1 := (hT.cell 1).trans rfl
      have n1_ := hT.frozen 1
      have l2 := (hT.cell 2).trans rfl
      have n2_ := hT.frozen 2
      have l3 := (hT.cell 3).trans rfl
      have n3_ := hT.frozen 3
      have a0 := (hB.cell 0).trans rfl
      have b0 := hB.frozen 0
      have a1 := (hB.cell 1).trans rfl
      have b1 := hB.frozen 1
      have hcg : Chg [g2] W _ := (Chg.refl [g2] W).four (g := g2) (by simp) (.int .u64 t.now) (.int .u64 t.count) (.slice A9 t.links.length c9) (.slice B9 t.sess.length d9)
      have hX1 := Blk.four hT (.int .u64 t.now) (.int .u64 t.count) (.slice A9 t.links.length c9) (.slice B9 t.sess.length d9)
      have hY1 := Blk.two_ (hB.chg hcg (by simp; omega)) (.int .i64 a.err) (str a.text)
      have hc2 : Chg [gb] _ _ := (Chg.refl [gb] ((((W.setCell ⟨g2, 0, none⟩ (.int .u64 t.now)).setCell ⟨g2, 1, none⟩ (.int .u64 t.count)).setCell ⟨g2, 2, none⟩ (.slice A9 t.links.length c9)).setCell ⟨g2, 3, none⟩ (.slice B9 t.sess.length d9))).two_ (g := gb) (by simp) (.int .i64 a.err) (str a.text)
      have hX2 := hX1.chg hc2 (by simp; omega)
      have hS2 := (hS.chg hcg (by simp; omega)).chg hc2 (by simp; omega)
      have hA2 := (hA.chg hcg (by simp; omega)).chg hc2 (by simp; omega)
      have hrN := stE.mono (stE.chg (stE.chg (st_apartS (st_apartS hrep1 hT (nos4' _ _ _ _ _ _ _ _)) hB (nos2 0 [])) hcg (fun j hj _ => .inl (.inr (by simpa using hj)))) hc2 (fun j hj _ => .inr (by simpa using hj))) (Y := noneAt) (fun _ _ h => h.elim)
      have hrO := stE.mono (stE.chg (stE.chg (st_apartS (st_apartS hrS hT (nos4' _ _ _ _ _ _ _ _)) hB (nos2 0 [])) hcg (fun j hj _ => .inl (.inr (by simpa using hj)))) hc2 (fun j hj _ => .inr (by simpa using hj))) (Y := noneAt) (fun _ _ h => h.elim)
      have hown2 := (hown.chgT hT (by decide) hcg (fun h => cm_any h)).chgT (hB.chg hcg (by simp; omega)) (by decide) hc2 (fun h => cm_any h)
      have hx2 := (hxr.then_ hcg (by simp; omega)).then_ hc2 (by simp; omega)
      obtain ⟨A8, c8, B8, d8, hv_, -⟩ := k33
      rw [hv_]
      clear hv_
      simp only [List.drop_succ_cons, List.drop_zero]
      go_wp2_with fail
      go_meet
      case rel => exact ⟨A9, c9, B9, d9, hS2, hX2, hA2, hY1, hrO, hrN, hown2, hx2⟩
    case rest =>
     clear hS hT hA hB hrS hrT hown p0 p1 p2 p3 p4 p5 hbk HD2 HD3 hxr
     obtain ⟨A4, c4, B4, d4, hS, hT, hA, hB, hrS, hrT, hown, hxr⟩ := hcut
     generalize wc = w6 at *
     have l0 := (hS.cell 0).trans rfl
     have l1 := (hS.cell 1).trans rfl
     have l2 := (hS.cell 2).trans rfl
     have l3 := (hS.cell 3).trans rfl
     have q0 := (hT.cell 0).trans rfl
     have q1 := (hT.cell 1).trans rfl
     have q2 := (hT.cell 2).trans rfl
     have q3 := (hT.cell 3).trans rfl
     have a0 := (hA.cell 0).trans rfl
     have a1 := (hA.cell 1).trans rfl
     have b0 := (hB.cell 0).trans rfl
     have b1 := (hB.cell 1).trans rfl
     go_wp2_with fail
     refine (same_eq t _ _ _ hrS hrT).mono ?_
     rintro e w7 ⟨rfl, hxe⟩
     clear l0 l1 l2 l3 q0 q1 q2 q3 a0 a1 b0 b1
     go_wp2_with fail
     go_roundw
     case rel => exact ⟨k + 1, t, A3, c3, B3, d3, A4, c4, B4, d4, by have := HLT.out; omega, by go_num, hS.ext hxe, hT.ext hxe, stE.ext hrS hxe, stE.ext hrT hxe, HI1.out, HS1, hown.ext hxe, hxr.trans' hxe⟩
     case measure => have := HLT.out; simp [intOf]; omega
  ·obtain rfl : k = l.length := by omega
   have HSE : Hid (s = (sall z0S l).1) := hide (by have h := hse.out; rw [List.take_length] at h; exact h)
   have HLN : Hid ((sall z0S l).2.length = l.length) := hide (sall_len l z0S)
   clear hse
   have hll : l.length ≤ 1000 := by omega
   have h40 := hide hll
   clear hll
   go_wp2_with fail
   refine (sall_b noneAt z0S _ _ l wr (fun _ h => h.elim) (z0_rep wr _) sinv0 hown.sl (fun c hc => (HPC.out c hc).cmok_) (by have := h40.out; omega)).mono ?_
   rintro e w8 ⟨u, an, A3, c3, B3, d3, A4, c4, h1, rfl, hrU, -, hx8⟩
   have hun : u = s ∧ an.length = l.length := by rw [HSE.out, ← HLN.out, ← h1.out]; exact ⟨rfl, rfl⟩
   obtain ⟨rfl, hanl⟩ := hun
   have HAN := hide hanl
   clear h1 hanl HSE HLN
   replace hT := hT.ext hx8
   replace hrT := stE.ext hrT hx8
   replace hxr := hxr.trans' hx8
   obtain ⟨g9, hg9⟩ : ∃ g_, w8.heap.size = g_ := ⟨_, rfl⟩
   have hU := Blk.new w8 28 #[.int .u64 u.now, .int .u64 u.count, .slice A3 u.links.length c3, .slice B3 u.sess.length d3]
   rw [hg9] at hU
   have hz := (Ext.rfl' w8).alloc' (.cells #[.int .u64 u.now, .int .u64 u.count, .slice A3 u.links.length c3, .slice B3 u.sess.length d3] 28)
   replace hT := hT.ext hz
   replace hrT := stE.ext hrT hz
   replace hrU := stE.ext hrU hz
   replace hxr := hxr.trans' hz
   go_upto_region 16 with fail
   try rw [hg9]
   generalize (w8.alloc (.cells #[.int .u64 u.now, .int .u64 u.count, .slice A3 u.links.length c3, .slice B3 u.sess.length d3] 28)) = w9 at *
   have l0 := (hU.cell 0).trans rfl
   have l1 := (hU.cell 1).trans rfl
   have l2 := (hU.cell 2).trans rfl
   have l3 := (hU.cell 3).trans rfl
   have q0 := (hT.cell 0).trans rfl
   have q1 := (hT.cell 1).trans rfl
   have q2 := (hT.cell 2).trans rfl
   have q3 := (hT.cell 3).trans rfl
   have hlen2 : (an.length : Int) = l.length := by rw [HAN.out]
   have heq : ((an.length : Int) == (l.length : Int)) = true := by simpa using hlen2
   go_wp2_with fail
   refine (stsame_b u u _ _ w9 hrU hrT).mono ?_
   rintro e w10 ⟨bb, rfl, hx10, hbb⟩
   obtain rfl : bb = true := hbb.out.2 rfl
   go_wp2
   go_ret
   exact ⟨rfl, hxr.trans' hx10⟩
end Go.Proofs.YtamimdlaclglkaaGreat
namespace Go.Proofs.YtamimdlaclglkaaGreat.stateAll
set_option linter.unusedVariables false
set_option linter.unusedSimpArgs false
set_option linter.unnecessarySimpa false
set_option maxRecDepth 100000
open Go.ChangeShapes Go.WideShapes Go.ChangeAt Go.RowKit
open Go.ChangeMaps (open_string shut_string)
set_option maxRecDepth 100000 in
set_option maxHeartbeats 2000000 in
theorem lifted (os : Os) (started : os.Started) (H : Type) (enc : TypeId × Value → H) :
  ReturnsInHanded {} Tryz.checked os 3 .any (Rows.stateAllSpec.pre6 enc Tryz.prog Tryz.f3 Rows.stateAllRow.domain false) (Rows.stateAllSpec.post enc Tryz.prog Tryz.f3 false true false false) := by
 refine returnsInHanded_of_change (C := Tryz.checked) own started (by kernel_rfl) Tryz.func3
  (ChangeSpec.witness6 (enc := enc) (C := Tryz.checked) false ⟨#[], #[.slice none 0 0], []⟩ 8 (by kernel_rfl) (by kernel_rfl) (by kernel_rfl) (by kernel_rfl)) ?_
 intro W base args ds gs before hval0 hW hcnd _
 have hval : ∀ (j : Nat) t v, Tryz.f3.params[j]? = some t → args[j]? = some v → Value.okWide Tryz.prog W .any base t v := hval0
 have hW' := hW
 obtain ⟨p, q, hA0, hV, rfl, hfz, hnd⟩ := hW
 have hA : DataW.TrodAll enc Tryz.prog W 0 (fun _ => true) true Tryz.f3.params.toList args.toList ds p := hA0
 rw [Tryz.params3] at hA hval
 obtain ⟨v0, vs0, d0, ds0, p0, q0, hargs, rfl, rfl, h0, r0⟩ := trodAll_cons hA
 obtain ⟨rfl, rfl, rfl⟩ := trodAll_nil r0
 obtain rfl : args = #[v0] := by cases args; simp_all
 obtain ⟨rfl, rfl⟩ := trodVars_none hV
 obtain ⟨a0, len0, cap0, rfl⟩ := okWide_slice Tryz.underlying22 (hval 0 22 v0 rfl rfl)
 have k0 := h0
 have lt0 : ∀ x ∈ p0, x.block < W.heap.size := by obtain ⟨m, hm⟩ := k0; exact DataW.trod_lt m _ _ _ hm
 obtain ⟨b0, hb0⟩ : ∃ b, Bs W (.slice a0 len0 cap0) b := by
  obtain ⟨fuel, hf⟩ := h0
  rcases open_ints Tryz.underlying22 Tryz.underlying5 (by kernel_rfl) hf with ⟨hcs, _⟩ | ⟨x, l, c, zs, hcs, _, hl, hm, hz, _, hcell, hwz⟩
  ·simp [Value.cells] at hcs
   obtain ⟨rfl, rfl, rfl⟩ := hcs
   exact ⟨[], bs_none⟩
  ·simp [Value.cells] at hcs
   obtain ⟨rfl, rfl, rfl⟩ := hcs
   exact bs_of_ints hl hm (by simpa using hz) hcell hwz
 clear hA0 hval0
 refine (stateAll_walk _ b0 W hb0).mono fun e W' ⟨he, bel⟩ => ?_
 subst he
 exact ⟨_, rfl, _, _, _, [], _, [], hW', trodAll_mk1 (shut_bool Tryz.underlying4 _), (trodAll_cons_mk (Below.trod laidOut (by kernel_rfl) (of_decide_eq_true (by kernel_rfl)) k0 bel lt0) trodAll_mk0), rfl, bel.frame _, fun h => by cases h⟩
theorem over : Rows.stateAllRow.holds Tryz.pinned (OpenSpec.ofChange Rows.stateAllSpec) :=
 OpenClaim.holds_of_wide 3 Tryz.f3 rfl rfl rfl rfl rfl rfl rfl ⟨rfl, rfl, rfl, rfl, rfl⟩ rfl rfl rfl rfl rfl (by kernel_rfl) Tryz.func3 (by kernel_rfl)
  (of_decide_eq_true (by kernel_rfl)) (by unfold Func.isWrapper; first | (rw [if_pos (by decide +kernel)]; kernel_rfl) | (rw [if_neg (by decide +kernel)]; exact ⟨rfl, rfl⟩))
  (fun os started H enc _ => lifted os started H enc)
/-- THE STATEMENT -/
theorem proved : Rows.StateAllSaid := over
#print axioms proved
end Go.Proofs.YtamimdlaclglkaaGreat.stateAll
