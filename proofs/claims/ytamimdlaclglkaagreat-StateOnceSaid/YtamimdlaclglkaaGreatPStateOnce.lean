import Derived.Test.YtamimdlaclglkaaGreatPk49
import Derived.Test.YtamimdlaclglkaaGreatPk50
import Derived.Test.YtamimdlaclglkaaGreatPk51
import Derived.Test.YtamimdlaclglkaaGreatPk25
import Derived.Test.YtamimdlaclglkaaGreatPk45
import Derived.Test.YtamimdlaclglkaaGreatPk2
/- StateOnce. -/
namespace Go.Proofs.YtamimdlaclglkaaGreat
set_option linter.unusedVariables false
set_option linter.unusedSimpArgs false
set_option linter.unnecessarySimpa false
set_option maxRecDepth 100000
open Go.RowKit
set_option maxHeartbeats 12800000 in
theorem stateOnce_walk (x : Value) (b : Bytes) (w : World) (hx : Bs w x b) :
    Calls Tryz.prog 4 #[x] w fun e w' => e = .returned (.bool true) ∧ Ext w w' := by
  obtain ⟨Ax, cx, rfl, -, -, -⟩ := id hx
  go_enter Tryz.func4, Tryz.ntmps4
  go_wp2_with fail
  refine (begun20_b w).mono ?_
  rintro e w1 ⟨rfl, hx1⟩
  by_cases h1 : (120 : Int) < b.length
  · go_wp2_with fail
    go_ret
    exact ⟨rfl, hx1⟩
  have HB := hide h1
  have hS := Blk.new w1 28 #[.int .u64 0, .int .u64 0, .slice none 0 0, .slice none 0 0]
  have hz : Ext w1 (w1.alloc (.cells #[.int .u64 0, .int .u64 0, .slice none 0 0, .slice none 0 0] 28)) := (Ext.rfl' _).alloc' _
  obtain ⟨g1, hg⟩ : ∃ g_, w1.heap.size = g_ := ⟨_, rfl⟩
  rw [hg] at hS
  have hx2 := hx1.trans' hz
  have hw1 : w.heap.size ≤ g1 := by have := hx1.size; omega
  go_upto_region 6 with fail
  try rw [hg]
  clear hg hz
  generalize (w1.alloc (.cells #[.int .u64 0, .int .u64 0, .slice none 0 0, .slice none 0 0] 28)) = w2 at *
  go_wp2_with fail
  refine (asked_b _ b 30 _ (hx.ext hx2) (by have := HB.out; omega) (by omega)).mono ?_
  rintro e w0 ⟨l, A, c, hpc, hlen, rfl, hown, hx3⟩
  replace hS := hS.ext hx3
  go_wp2_with fail
  go_loopw [5] (fun i wr => ∃ (k : Nat) (s : St) (A1 : Option Addr) (c1 : Nat) (B1 : Option Addr) (d1 : Nat), k ≤ l.length ∧ i = .int .i64 k ∧ Blk wr g1 28 #[.int .u64 s.now, .int .u64 s.count, .slice A1 s.links.length c1, .slice B1 s.sess.length d1] ∧
      stE.rep wr noneAt [.int .u64 s.now, .int .u64 s.count, .slice A1 s.links.length c1, .slice B1 s.sess.length d1] s ∧ SInv s ∧ Own 37 cmE w2 wr noneAt (.slice A l.length c) l ∧ Ext w wr) (fun i _ => (l.length - intOf i).toNat)
  case atStart => exact ⟨0, z0S, none, 0, none, 0, by omega, rfl, hS, z0_rep _ _, sinv0, hown, hx2.trans' hx3⟩
  case round =>
    clear hS
    obtain ⟨k, s, A1, c1, B1, d1, hkl, rfl, hS, hrS, hi, hown, hxr⟩ := hrel
    by_cases hlt : k < l.length
    · obtain ⟨ad, m, rfl, hm, hbk, p0, p1, p2, p3, p4, p5, hmw⟩ := cm_at hown.sl hlt
      have hab : (ad.add (k * 6)).block < wr.heap.size := by rw [block_of_add]; exact hbk
      have HC : Hid (AskC m) := hide (hpc m (List.mem_of_getElem? hm.out))
      obtain ⟨⟨t, a⟩, ht⟩ : ∃ r, sapply s m = r := ⟨_, rfl⟩
      have hit := hi.step (c := m) HC.out.t0 ⟨HC.out.s0, by have := HC.out.s1; omega⟩ (by have := HC.out.name; omega)
      have hag := sapply_again hi (c := m) HC.out.s0
      rw [ht] at hit hag
      simp only at hit hag
      have H1 := hide (fun (W : World) (hx : Ext wr W) => sapply_b noneAt s _ m W (fun _ h => h.elim) (stE.ext hrS hx) hi HC.out.wide (by have := HC.out.url; omega) (by have := HC.out.name; omega))
      rw [ht] at H1
      clear ht
      have HAG := hide hag
      clear hag
      have hb1 : (0 : Int) ≤ k := by omega
      have hb2 : (k : Int) < l.length := by omega
      have o1 : w.heap.size ≤ wr.heap.size := hxr.size
      have o2 := hS.lt
      go_upto_region 10 with fail
      go_cut [6, 7] (fun v6 v7 wx => ∃ (g6 g7 : Nat) (A2 : Option Addr) (c2 : Nat) (B2 : Option Addr) (d2 : Nat), v6 = .pointer (some ⟨g6, 0, none⟩) ∧ v7 = .pointer (some ⟨g7, 0, none⟩) ∧ Blk wx g6 28 #[.int .u64 t.now, .int .u64 t.count, .slice A2 t.links.length c2, .slice B2 t.sess.length d2] ∧
          stE.rep wx noneAt [.int .u64 t.now, .int .u64 t.count, .slice A2 t.links.length c2, .slice B2 t.sess.length d2] t ∧ Blk wx g7 33 #[.int .i64 a.err, str a.text] ∧ wr.heap.size ≤ g6 ∧ wr.heap.size ≤ g7 ∧ Ext wr wx)
      case first =>
        refine Rg.regionX Tryz.checked.mixed 51 11 8 31 _ _ (by rfl) (by rfl) (by kernel_rfl) [
          (fun x_ _ => x_ = .agg #[.int .u64 s.now, .int .u64 s.count, .slice A1 s.links.length c1, .slice B1 s.sess.length d1]),
          (fun x_ _ => x_ = .slice (some ad) l.length c),
          (fun x_ _ => x_ = .int .i64 k),
          (fun x_ _ => x_ = .pointer (some (ad.add (k * 6)))),
          (fun x_ _ => x_ = .agg #[.int .i64 m.kind, .int .i64 m.client, .int .u64 m.seq, str m.name, str m.url, .int .u64 m.till]),
          (fun v W => ∃ A9 c9 B9 d9, v = .tuple #[.agg #[.int .u64 t.now, .int .u64 t.count, .slice A9 t.links.length c9, .slice B9 t.sess.length d9], .agg #[.int .i64 a.err, str a.text]] ∧ stE.rep W noneAt [.int .u64 t.now, .int .u64 t.count, .slice A9 t.links.length c9, .slice B9 t.sess.length d9] t),
          (fun v W => ∃ A9 c9 B9 d9, v = .tuple #[.agg #[.int .u64 t.now, .int .u64 t.count, .slice A9 t.links.length c9, .slice B9 t.sess.length d9], .agg #[.int .i64 a.err, str a.text]] ∧ stE.rep W noneAt [.int .u64 t.now, .int .u64 t.count, .slice A9 t.links.length c9, .slice B9 t.sess.length d9] t),
          (fun v W => ∃ A9 c9 B9 d9, v = .agg #[.int .u64 t.now, .int .u64 t.count, .slice A9 t.links.length c9, .slice B9 t.sess.length d9] ∧ stE.rep W noneAt [.int .u64 t.now, .int .u64 t.count, .slice A9 t.links.length c9, .slice B9 t.sess.length d9] t),
          (fun x_ _ => x_ = .agg #[.int .i64 a.err, str a.text]),
          (fun v W => ∃ g, v = .pointer (some ⟨g, 0, none⟩) ∧ Blk W g 28 #[.int .u64 0, .int .u64 0, .slice none 0 0, .slice none 0 0] ∧ wr.heap.size ≤ g),
          (fun v W => ∃ g, v = .pointer (some ⟨g, 0, none⟩) ∧ Blk W g 33 #[.int .i64 0, str []] ∧ wr.heap.size ≤ g)] (fun W => Ext wr W) Ext rfl rfl rfl
          ?st ((Ext.rfl' wr).drew') ?ob ?en ?en2
        case st => exact ⟨fun _ _ _ h _ => h, fun _ _ _ h _ => h, fun _ _ _ h _ => h, fun _ _ _ h _ => h, fun _ _ _ h _ => h, fun _ _ _ ⟨a1_, a2_, a3_, a4_, h1_, h2_⟩ hx => ⟨a1_, a2_, a3_, a4_, h1_, stE.ext h2_ hx⟩, fun _ _ _ ⟨a1_, a2_, a3_, a4_, h1_, h2_⟩ hx => ⟨a1_, a2_, a3_, a4_, h1_, stE.ext h2_ hx⟩, fun _ _ _ ⟨a1_, a2_, a3_, a4_, h1_, h2_⟩ hx => ⟨a1_, a2_, a3_, a4_, h1_, stE.ext h2_ hx⟩, fun _ _ _ h _ => h, fun _ _ _ ⟨g_, h1_, h2_, h3_⟩ hx => ⟨g_, h1_, h2_.ext hx, h3_⟩, fun _ _ _ ⟨g_, h1_, h2_, h3_⟩ hx => ⟨g_, h1_, h2_.ext hx, h3_⟩, trivial⟩
        case ob =>
          refine ⟨Rg.at_run [3] rfl ?_, ?_⟩
          · intro ρ W hR ⟨q3, _⟩
            replace q3 : ρ 3 = .pointer (some ⟨g1, 0, none⟩) := q3
            refine ⟨rfl, ?_⟩
            have c0_ : W.cell? ⟨g1, 0, none⟩ = some (.int .u64 s.now) := ((hS.ext hR).cell 0).trans rfl
            have c1_ : W.cell? ⟨g1, 1, none⟩ = some (.int .u64 s.count) := ((hS.ext hR).cell 1).trans rfl
            have c2_ : W.cell? ⟨g1, 2, none⟩ = some (.slice A1 s.links.length c1) := ((hS.ext hR).cell 2).trans rfl
            have c3_ : W.cell? ⟨g1, 3, none⟩ = some (.slice B1 s.sess.length d1) := ((hS.ext hR).cell 3).trans rfl
            exact Rg.run_ok (v := .agg #[.int .u64 s.now, .int .u64 s.count, .slice A1 s.links.length c1, .slice B1 s.sess.length d1]) (by simp [execOp, Rg.ev, go_sem, q3, c0_, c1_, c2_, c3_]) ⟨rfl, hR, Ext.rfl' _⟩
          refine ⟨Rg.at_run [4] rfl ?_, ?_⟩
          · intro ρ W hR ⟨q4, _⟩
            replace q4 : ρ 4 = .slice (some ad) l.length c := q4
            refine ⟨rfl, ?_⟩
            exact Rg.run_ok (v := .slice (some ad) l.length c) (by simp [execOp, Rg.ev, go_sem, q4]) ⟨rfl, hR, Ext.rfl' _⟩
          refine ⟨Rg.at_run [5] rfl ?_, ?_⟩
          · intro ρ W hR ⟨q5, _⟩
            replace q5 : ρ 5 = .int .i64 k := q5
            refine ⟨rfl, ?_⟩
            exact Rg.run_ok (v := .int .i64 k) (by simp [execOp, Rg.ev, go_sem, q5]) ⟨rfl, hR, Ext.rfl' _⟩
          refine ⟨Rg.at_run [25, 26] rfl ?_, ?_⟩
          · intro ρ W hR ⟨q25, q26, _⟩
            replace q25 : ρ 25 = .slice (some ad) l.length c := q25
            replace q26 : ρ 26 = .int .i64 k := q26
            refine ⟨rfl, ?_⟩
            exact Rg.run_ok (v := .pointer (some (ad.add (k * 6)))) (by simp [execOp, Rg.ev, go_sem, q25, q26, hb1, hb2]) ⟨rfl, hR, Ext.rfl' _⟩
          refine ⟨Rg.at_run [27] rfl ?_, ?_⟩
          · intro ρ W hR ⟨q27, _⟩
            replace q27 : ρ 27 = .pointer (some (ad.add (k * 6))) := q27
            refine ⟨rfl, ?_⟩
            have c0_ : W.cell? (ad.add (k * 6)) = some (.int .i64 m.kind) := (hR.cell (p := ad.add (k * 6)) hab).trans p0
            have c1_ : W.cell? (⟨(ad.add (k * 6)).block, (ad.add (k * 6)).off + 1, none⟩) = some (.int .i64 m.client) := (hR.cell (p := ⟨(ad.add (k * 6)).block, (ad.add (k * 6)).off + 1, none⟩) hab).trans p1
            have c2_ : W.cell? (⟨(ad.add (k * 6)).block, (ad.add (k * 6)).off + 2, none⟩) = some (.int .u64 m.seq) := (hR.cell (p := ⟨(ad.add (k * 6)).block, (ad.add (k * 6)).off + 2, none⟩) hab).trans p2
            have c3_ : W.cell? (⟨(ad.add (k * 6)).block, (ad.add (k * 6)).off + 3, none⟩) = some (str m.name) := (hR.cell (p := ⟨(ad.add (k * 6)).block, (ad.add (k * 6)).off + 3, none⟩) hab).trans p3
            have c4_ : W.cell? (⟨(ad.add (k * 6)).block, (ad.add (k * 6)).off + 4, none⟩) = some (str m.url) := (hR.cell (p := ⟨(ad.add (k * 6)).block, (ad.add (k * 6)).off + 4, none⟩) hab).trans p4
            have c5_ : W.cell? (⟨(ad.add (k * 6)).block, (ad.add (k * 6)).off + 5, none⟩) = some (.int .u64 m.till) := (hR.cell (p := ⟨(ad.add (k * 6)).block, (ad.add (k * 6)).off + 5, none⟩) hab).trans p5
            exact Rg.run_ok (v := .agg #[.int .i64 m.kind, .int .i64 m.client, .int .u64 m.seq, str m.name, str m.url, .int .u64 m.till]) (by simp [execOp, Rg.ev, go_sem, q27, c0_, c1_, c2_, c3_, c4_, c5_]) ⟨rfl, hR, Ext.rfl' _⟩
          refine ⟨Rg.at_run [24, 28] rfl ?_, ?_⟩
          · intro ρ W hR ⟨q24, q28, _⟩
            replace q24 : ρ 24 = .agg #[.int .u64 s.now, .int .u64 s.count, .slice A1 s.links.length c1, .slice B1 s.sess.length d1] := q24
            replace q28 : ρ 28 = .agg #[.int .i64 m.kind, .int .i64 m.client, .int .u64 m.seq, str m.name, str m.url, .int .u64 m.till] := q28
            refine ⟨rfl, ?_⟩
            refine Rg.enter_fn (args := #[.agg #[.int .u64 s.now, .int .u64 s.count, .slice A1 s.links.length c1, .slice B1 s.sess.length d1], .agg #[.int .i64 m.kind, .int .i64 m.client, .int .u64 m.seq, str m.name, str m.url, .int .u64 m.till]]) rfl (by simp only [List.map_toArray, List.map_cons, List.map_nil, Rg.ev, q24, q28]) (by kernel_rfl) ?_
            refine (H1.out W hR).mono ?_
            rintro e_ w9 ⟨t_, a_, A9, c9, B9, d9, h1_, rfl, h2_, hxx⟩
            obtain ⟨rfl, rfl⟩ := Prod.mk.inj h1_.out
            exact ⟨_, rfl, ⟨A9, c9, B9, d9, rfl, h2_⟩, hR.trans' hxx, hxx⟩
          refine ⟨Rg.at_run [29] rfl ?_, ?_⟩
          · intro ρ W hR ⟨q29, _⟩
            replace q29 : (fun v W => ∃ A9 c9 B9 d9, v = .tuple #[.agg #[.int .u64 t.now, .int .u64 t.count, .slice A9 t.links.length c9, .slice B9 t.sess.length d9], .agg #[.int .i64 a.err, str a.text]] ∧ stE.rep W noneAt [.int .u64 t.now, .int .u64 t.count, .slice A9 t.links.length c9, .slice B9 t.sess.length d9] t) (ρ 29) W := q29
            refine ⟨rfl, ?_⟩
            exact Rg.run_ok (by simp [execOp, Rg.ev, go_sem] <;> rfl) ⟨q29, hR, Ext.rfl' _⟩
          refine ⟨Rg.at_run [23] rfl ?_, ?_⟩
          · intro ρ W hR ⟨q23, _⟩
            replace q23 : (fun v W => ∃ A9 c9 B9 d9, v = .tuple #[.agg #[.int .u64 t.now, .int .u64 t.count, .slice A9 t.links.length c9, .slice B9 t.sess.length d9], .agg #[.int .i64 a.err, str a.text]] ∧ stE.rep W noneAt [.int .u64 t.now, .int .u64 t.count, .slice A9 t.links.length c9, .slice B9 t.sess.length d9] t) (ρ 23) W := q23
            refine ⟨rfl, ?_⟩
            obtain ⟨A9, c9, B9, d9, hv_, hr_⟩ := q23
            exact Rg.run_ok (v := .agg #[.int .u64 t.now, .int .u64 t.count, .slice A9 t.links.length c9, .slice B9 t.sess.length d9]) (by simp [execOp, Rg.ev, go_sem, hv_]) ⟨⟨A9, c9, B9, d9, rfl, hr_⟩, hR, Ext.rfl' _⟩
          refine ⟨Rg.at_run [23] rfl ?_, ?_⟩
          · intro ρ W hR ⟨q23, _⟩
            replace q23 : (fun v W => ∃ A9 c9 B9 d9, v = .tuple #[.agg #[.int .u64 t.now, .int .u64 t.count, .slice A9 t.links.length c9, .slice B9 t.sess.length d9], .agg #[.int .i64 a.err, str a.text]] ∧ stE.rep W noneAt [.int .u64 t.now, .int .u64 t.count, .slice A9 t.links.length c9, .slice B9 t.sess.length d9] t) (ρ 23) W := q23
            refine ⟨rfl, ?_⟩
            obtain ⟨A9, c9, B9, d9, hv_, hr_⟩ := q23
            exact Rg.run_ok (v := .agg #[.int .i64 a.err, str a.text]) (by simp [execOp, Rg.ev, go_sem, hv_]) ⟨rfl, hR, Ext.rfl' _⟩
          refine ⟨Rg.at_run [] rfl ?_, ?_⟩
          · intro ρ W hR _
            refine ⟨rfl, ?_⟩
            exact Rg.run_ok (v := .pointer (some ⟨W.heap.size, 0, none⟩)) (W' := W.alloc (.cells #[.int .u64 0, .int .u64 0, .slice none 0 0, .slice none 0 0] 28)) (by kernel_rfl) ⟨⟨_, rfl, Blk.new _ _ _, hR.size⟩, hR.alloc' _, (Ext.rfl' _).alloc' _⟩
          refine ⟨Rg.at_run [] rfl ?_, ?_⟩
          · intro ρ W hR _
            refine ⟨rfl, ?_⟩
            exact Rg.run_ok (v := .pointer (some ⟨W.heap.size, 0, none⟩)) (W' := W.alloc (.cells #[.int .i64 0, str []] 33)) (by kernel_rfl) ⟨⟨_, rfl, Blk.new _ _ _, hR.size⟩, hR.alloc' _, (Ext.rfl' _).alloc' _⟩
          trivial
        case en =>
          intro tm W hR hsz hk
          rw [Rg.fin_eq (ds := [24, 25, 26, 27, 28, 29, 23, 30, 31, 6, 7]) rfl rfl rfl hsz hk]
          have k6 : (fun v W => ∃ g, v = .pointer (some ⟨g, 0, none⟩) ∧ Blk W g 28 #[.int .u64 0, .int .u64 0, .slice none 0 0, .slice none 0 0] ∧ wr.heap.size ≤ g) (tm.getD 6 undef) W := hk 6
          have k7 : (fun v W => ∃ g, v = .pointer (some ⟨g, 0, none⟩) ∧ Blk W g 33 #[.int .i64 0, str []] ∧ wr.heap.size ≤ g) (tm.getD 7 undef) W := hk 7
          have k23 : (fun v W => ∃ A9 c9 B9 d9, v = .tuple #[.agg #[.int .u64 t.now, .int .u64 t.count, .slice A9 t.links.length c9, .slice B9 t.sess.length d9], .agg #[.int .i64 a.err, str a.text]] ∧ stE.rep W noneAt [.int .u64 t.now, .int .u64 t.count, .slice A9 t.links.length c9, .slice B9 t.sess.length d9] t) (tm.getD 23 undef) W := hk 23
          have k24 : tm.getD 24 undef = .agg #[.int .u64 s.now, .int .u64 s.count, .slice A1 s.links.length c1, .slice B1 s.sess.length d1] := hk 24
          have k25 : tm.getD 25 undef = .slice (some ad) l.length c := hk 25
          have k26 : tm.getD 26 undef = .int .i64 k := hk 26
          have k27 : tm.getD 27 undef = .pointer (some (ad.add (k * 6))) := hk 27
          have k28 : tm.getD 28 undef = .agg #[.int .i64 m.kind, .int .i64 m.client, .int .u64 m.seq, str m.name, str m.url, .int .u64 m.till] := hk 28
          have k29 : (fun v W => ∃ A9 c9 B9 d9, v = .tuple #[.agg #[.int .u64 t.now, .int .u64 t.count, .slice A9 t.links.length c9, .slice B9 t.sess.length d9], .agg #[.int .i64 a.err, str a.text]] ∧ stE.rep W noneAt [.int .u64 t.now, .int .u64 t.count, .slice A9 t.links.length c9, .slice B9 t.sess.length d9] t) (tm.getD 29 undef) W := hk 29
          have k30 : (fun v W => ∃ A9 c9 B9 d9, v = .agg #[.int .u64 t.now, .int .u64 t.count, .slice A9 t.links.length c9, .slice B9 t.sess.length d9] ∧ stE.rep W noneAt [.int .u64 t.now, .int .u64 t.count, .slice A9 t.links.length c9, .slice B9 t.sess.length d9] t) (tm.getD 30 undef) W := hk 30
          have k31 : tm.getD 31 undef = .agg #[.int .i64 a.err, str a.text] := hk 31
          clear hk hsz
          simp only [Rg.putAll, List.setIfInBounds_toArray, List.set_cons_zero, List.set_cons_succ, k24, k25, k26, k27, k28, k31]
          generalize tm.getD 6 undef = u6 at *
          generalize tm.getD 7 undef = u7 at *
          generalize tm.getD 23 undef = u23 at *
          clear k24
          clear k25
          clear k26
          clear k27
          clear k28
          generalize tm.getD 29 undef = u29 at *
          generalize tm.getD 30 undef = u30 at *
          clear k31
          clear k23 k29
          obtain ⟨A9, c9, B9, d9, rfl, hrep1⟩ := k30
          obtain ⟨g9, rfl, hB9, hg9⟩ := k6
          obtain ⟨g10, rfl, hB10, hg10⟩ := k7
          have hne : g9 ≠ g10 := Blk.ne_ hB9 hB10 (by decide)
          have n1 : ¬ g9 = g10 := hne
          have n2 : ¬ g10 = g9 := fun h => hne h.symm
          have l0 := (hB9.cell 0).trans rfl
          have l1 := (hB9.cell 1).trans rfl
          have l2 := (hB9.cell 2).trans rfl
          have l3 := (hB9.cell 3).trans rfl
          have f0 := hB9.frozen 0
          have f1 := hB9.frozen 1
          have f2 := hB9.frozen 2
          have f3 := hB9.frozen 3
          have a0 := (hB10.cell 0).trans rfl
          have a1 := (hB10.cell 1).trans rfl
          have b0 := hB10.frozen 0
          have b1 := hB10.frozen 1
          have hrep3 := st_apartS (st_apartS hrep1 hB9 nos4) hB10 (nos2 0 [])
          have hcg : Chg [g9] W _ := (Chg.refl [g9] W).four (g := g9) (by simp) (.int .u64 t.now) (.int .u64 t.count) (.slice A9 t.links.length c9) (.slice B9 t.sess.length d9)
          have hS1 := Blk.four hB9 (.int .u64 t.now) (.int .u64 t.count) (.slice A9 t.links.length c9) (.slice B9 t.sess.length d9)
          have hA1 := Blk.two_ (hB10.chg hcg (by simp; omega)) (.int .i64 a.err) (str a.text)
          have hc2 : Chg [g10] _ _ := (Chg.refl [g10] ((((W.setCell ⟨g9, 0, none⟩ (.int .u64 t.now)).setCell ⟨g9, 1, none⟩ (.int .u64 t.count)).setCell ⟨g9, 2, none⟩ (.slice A9 t.links.length c9)).setCell ⟨g9, 3, none⟩ (.slice B9 t.sess.length d9))).two_ (g := g10) (by simp) (.int .i64 a.err) (str a.text)
          have hS2 := hS1.chg hc2 (by simp; omega)
          have hrep2 := stE.mono (stE.chg (stE.chg hrep3 hcg (fun j hj _ => .inl (.inr (by simpa using hj)))) hc2 (fun j hj _ => .inr (by simpa using hj))) (Y := noneAt) (fun j _ h => h.elim)
          have hx2 := (hR.then_ hcg (by simp; omega)).then_ hc2 (by simp; omega)
          go_wp2_with fail
          go_meet
          case rel => exact ⟨g9, g10, A9, c9, B9, d9, rfl, rfl, hS2, hrep2, hA1, hg9, hg10, hx2⟩
        case en2 =>
          intro tm W hR hsz hk
          rw [Rg.fin_eqX (ds := [24, 25, 26, 27, 28, 29, 23, 30, 31, 6, 7]) rfl (by decide) rfl rfl hsz hk]
          have k6 : (fun v W => ∃ g, v = .pointer (some ⟨g, 0, none⟩) ∧ Blk W g 28 #[.int .u64 0, .int .u64 0, .slice none 0 0, .slice none 0 0] ∧ wr.heap.size ≤ g) (tm.getD 6 undef) W := hk 6
          have k7 : (fun v W => ∃ g, v = .pointer (some ⟨g, 0, none⟩) ∧ Blk W g 33 #[.int .i64 0, str []] ∧ wr.heap.size ≤ g) (tm.getD 7 undef) W := hk 7
          have k23 : (fun v W => ∃ A9 c9 B9 d9, v = .tuple #[.agg #[.int .u64 t.now, .int .u64 t.count, .slice A9 t.links.length c9, .slice B9 t.sess.length d9], .agg #[.int .i64 a.err, str a.text]] ∧ stE.rep W noneAt [.int .u64 t.now, .int .u64 t.count, .slice A9 t.links.length c9, .slice B9 t.sess.length d9] t) (tm.getD 23 undef) W := hk 23
          have k24 : tm.getD 24 undef = .agg #[.int .u64 s.now, .int .u64 s.count, .slice A1 s.links.length c1, .slice B1 s.sess.length d1] := hk 24
          have k25 : tm.getD 25 undef = .slice (some ad) l.length c := hk 25
          have k26 : tm.getD 26 undef = .int .i64 k := hk 26
          have k27 : tm.getD 27 undef = .pointer (some (ad.add (k * 6))) := hk 27
          have k28 : tm.getD 28 undef = .agg #[.int .i64 m.kind, .int .i64 m.client, .int .u64 m.seq, str m.name, str m.url, .int .u64 m.till] := hk 28
          have k29 : (fun v W => ∃ A9 c9 B9 d9, v = .tuple #[.agg #[.int .u64 t.now, .int .u64 t.count, .slice A9 t.links.length c9, .slice B9 t.sess.length d9], .agg #[.int .i64 a.err, str a.text]] ∧ stE.rep W noneAt [.int .u64 t.now, .int .u64 t.count, .slice A9 t.links.length c9, .slice B9 t.sess.length d9] t) (tm.getD 29 undef) W := hk 29
          have k30 : (fun v W => ∃ A9 c9 B9 d9, v = .agg #[.int .u64 t.now, .int .u64 t.count, .slice A9 t.links.length c9, .slice B9 t.sess.length d9] ∧ stE.rep W noneAt [.int .u64 t.now, .int .u64 t.count, .slice A9 t.links.length c9, .slice B9 t.sess.length d9] t) (tm.getD 30 undef) W := hk 30
          clear hk hsz
          simp only [Rg.putAll, List.setIfInBounds_toArray, List.set_cons_zero, List.set_cons_succ, k24, k25, k26, k27, k28]
          generalize tm.getD 6 undef = u6 at *
          generalize tm.getD 7 undef = u7 at *
          generalize tm.getD 23 undef = u23 at *
          clear k24
          clear k25
          clear k26
          clear k27
          clear k28
          generalize tm.getD 29 undef = u29 at *
          generalize tm.getD 30 undef = u30 at *
          generalize tm.getD 31 undef = u31 at *
          clear k29
          obtain ⟨A9, c9, B9, d9, rfl, hrep1⟩ := k30
          obtain ⟨g9, rfl, hB9, hg9⟩ := k6
          obtain ⟨g10, rfl, hB10, hg10⟩ := k7
          have hne : g9 ≠ g10 := Blk.ne_ hB9 hB10 (by decide)
          have n1 : ¬ g9 = g10 := hne
          have n2 : ¬ g10 = g9 := fun h => hne h.symm
          have l0 := (hB9.cell 0).trans rfl
          have l1 := (hB9.cell 1).trans rfl
          have l2 := (hB9.cell 2).trans rfl
          have l3 := (hB9.cell 3).trans rfl
          have f0 := hB9.frozen 0
          have f1 := hB9.frozen 1
          have f2 := hB9.frozen 2
          have f3 := hB9.frozen 3
          have a0 := (hB10.cell 0).trans rfl
          have a1 := (hB10.cell 1).trans rfl
          have b0 := hB10.frozen 0
          have b1 := hB10.frozen 1
          have hrep3 := st_apartS (st_apartS hrep1 hB9 nos4) hB10 (nos2 0 [])
          have hcg : Chg [g9] W _ := (Chg.refl [g9] W).four (g := g9) (by simp) (.int .u64 t.now) (.int .u64 t.count) (.slice A9 t.links.length c9) (.slice B9 t.sess.length d9)
          have hS1 := Blk.four hB9 (.int .u64 t.now) (.int .u64 t.count) (.slice A9 t.links.length c9) (.slice B9 t.sess.length d9)
          have hA1 := Blk.two_ (hB10.chg hcg (by simp; omega)) (.int .i64 a.err) (str a.text)
          have hc2 : Chg [g10] _ _ := (Chg.refl [g10] ((((W.setCell ⟨g9, 0, none⟩ (.int .u64 t.now)).setCell ⟨g9, 1, none⟩ (.int .u64 t.count)).setCell ⟨g9, 2, none⟩ (.slice A9 t.links.length c9)).setCell ⟨g9, 3, none⟩ (.slice B9 t.sess.length d9))).two_ (g := g10) (by simp) (.int .i64 a.err) (str a.text)
          have hS2 := hS1.chg hc2 (by simp; omega)
          have hrep2 := stE.mono (stE.chg (stE.chg hrep3 hcg (fun j hj _ => .inl (.inr (by simpa using hj)))) hc2 (fun j hj _ => .inr (by simpa using hj))) (Y := noneAt) (fun j _ h => h.elim)
          have hx2 := (hR.then_ hcg (by simp; omega)).then_ hc2 (by simp; omega)
          obtain ⟨A8, c8, B8, d8, hv_, -⟩ := k23
          rw [hv_]
          clear hv_
          simp only [List.drop_succ_cons, List.drop_zero]
          go_wp2_with fail
          go_meet
          case rel => exact ⟨g9, g10, A9, c9, B9, d9, rfl, rfl, hS2, hrep2, hA1, hg9, hg10, hx2⟩

      case rest =>
        obtain ⟨g6, g7, A2, c2, B2, d2, rfl, rfl, hT, hrT, hA7, hg6, hg7, hx4⟩ := hcut
        generalize wc = W4 at *
        replace p0 := (hx4.cell (p := ad.add (k * 6)) hab).trans p0
        replace p1 := (hx4.cell (p := ⟨(ad.add (k * 6)).block, (ad.add (k * 6)).off + 1, none⟩) hab).trans p1
        replace p2 := (hx4.cell (p := ⟨(ad.add (k * 6)).block, (ad.add (k * 6)).off + 2, none⟩) hab).trans p2
        replace p3 := (hx4.cell (p := ⟨(ad.add (k * 6)).block, (ad.add (k * 6)).off + 3, none⟩) hab).trans p3
        replace p4 := (hx4.cell (p := ⟨(ad.add (k * 6)).block, (ad.add (k * 6)).off + 4, none⟩) hab).trans p4
        replace p5 := (hx4.cell (p := ⟨(ad.add (k * 6)).block, (ad.add (k * 6)).off + 5, none⟩) hab).trans p5
        replace hab : (ad.add (k * 6)).block < W4.heap.size := Nat.lt_of_lt_of_le hab hx4.size
        replace hS := hS.ext hx4
        replace hown := hown.ext hx4
        replace hxr := hxr.trans' hx4
        have H2 := hide (fun (W : World) (hx : Ext W4 W) => sapply_b noneAt t _ m W (fun _ h => h.elim) (stE.ext hrT hx) hit HC.out.wide (by have := HC.out.url; omega) (by have := HC.out.name; omega))
        rw [HAG.out] at H2
        have o6 := hT.lt
        have o7 := hA7.lt
        clear H1 hrS
        go_upto_region 11 with fail
        go_cut [8, 9] (fun v8 v9 wx => ∃ (g8 g9 : Nat) (A3 : Option Addr) (c3 : Nat) (B3 : Option Addr) (d3 : Nat), v8 = .pointer (some ⟨g8, 0, none⟩) ∧ v9 = .pointer (some ⟨g9, 0, none⟩) ∧ Blk wx g8 28 #[.int .u64 t.now, .int .u64 t.count, .slice A3 t.links.length c3, .slice B3 t.sess.length d3] ∧
            stE.rep wx noneAt [.int .u64 t.now, .int .u64 t.count, .slice A3 t.links.length c3, .slice B3 t.sess.length d3] t ∧ Blk wx g9 33 #[.int .i64 a.err, str a.text] ∧ W4.heap.size ≤ g8 ∧ W4.heap.size ≤ g9 ∧ Ext W4 wx)
        case first =>
          refine Rg.regionX Tryz.checked.mixed 51 11 8 40 _ _ (by rfl) (by rfl) (by kernel_rfl) [
            (fun x_ _ => x_ = .agg #[.int .u64 t.now, .int .u64 t.count, .slice A2 t.links.length c2, .slice B2 t.sess.length d2]),
            (fun x_ _ => x_ = .slice (some ad) l.length c),
            (fun x_ _ => x_ = .int .i64 k),
            (fun x_ _ => x_ = .pointer (some (ad.add (k * 6)))),
            (fun x_ _ => x_ = .agg #[.int .i64 m.kind, .int .i64 m.client, .int .u64 m.seq, str m.name, str m.url, .int .u64 m.till]),
            (fun v W => ∃ A9 c9 B9 d9, v = .tuple #[.agg #[.int .u64 t.now, .int .u64 t.count, .slice A9 t.links.length c9, .slice B9 t.sess.length d9], .agg #[.int .i64 a.err, str a.text]] ∧ stE.rep W noneAt [.int .u64 t.now, .int .u64 t.count, .slice A9 t.links.length c9, .slice B9 t.sess.length d9] t),
            (fun v W => ∃ A9 c9 B9 d9, v = .tuple #[.agg #[.int .u64 t.now, .int .u64 t.count, .slice A9 t.links.length c9, .slice B9 t.sess.length d9], .agg #[.int .i64 a.err, str a.text]] ∧ stE.rep W noneAt [.int .u64 t.now, .int .u64 t.count, .slice A9 t.links.length c9, .slice B9 t.sess.length d9] t),
            (fun v W => ∃ A9 c9 B9 d9, v = .agg #[.int .u64 t.now, .int .u64 t.count, .slice A9 t.links.length c9, .slice B9 t.sess.length d9] ∧ stE.rep W noneAt [.int .u64 t.now, .int .u64 t.count, .slice A9 t.links.length c9, .slice B9 t.sess.length d9] t),
            (fun x_ _ => x_ = .agg #[.int .i64 a.err, str a.text]),
            (fun v W => ∃ g, v = .pointer (some ⟨g, 0, none⟩) ∧ Blk W g 28 #[.int .u64 0, .int .u64 0, .slice none 0 0, .slice none 0 0] ∧ W4.heap.size ≤ g),
            (fun v W => ∃ g, v = .pointer (some ⟨g, 0, none⟩) ∧ Blk W g 33 #[.int .i64 0, str []] ∧ W4.heap.size ≤ g)] (fun W => Ext W4 W) Ext rfl rfl rfl
            ?st ((Ext.rfl' W4).drew') ?ob ?en ?en2
          case st => exact ⟨fun _ _ _ h _ => h, fun _ _ _ h _ => h, fun _ _ _ h _ => h, fun _ _ _ h _ => h, fun _ _ _ h _ => h, fun _ _ _ ⟨a1_, a2_, a3_, a4_, h1_, h2_⟩ hx => ⟨a1_, a2_, a3_, a4_, h1_, stE.ext h2_ hx⟩, fun _ _ _ ⟨a1_, a2_, a3_, a4_, h1_, h2_⟩ hx => ⟨a1_, a2_, a3_, a4_, h1_, stE.ext h2_ hx⟩, fun _ _ _ ⟨a1_, a2_, a3_, a4_, h1_, h2_⟩ hx => ⟨a1_, a2_, a3_, a4_, h1_, stE.ext h2_ hx⟩, fun _ _ _ h _ => h, fun _ _ _ ⟨g_, h1_, h2_, h3_⟩ hx => ⟨g_, h1_, h2_.ext hx, h3_⟩, fun _ _ _ ⟨g_, h1_, h2_, h3_⟩ hx => ⟨g_, h1_, h2_.ext hx, h3_⟩, trivial⟩
          case ob =>
            refine ⟨Rg.at_run [6] rfl ?_, ?_⟩
            · intro ρ W hR ⟨q6, _⟩
              replace q6 : ρ 6 = .pointer (some ⟨g6, 0, none⟩) := q6
              refine ⟨rfl, ?_⟩
              have c0_ : W.cell? ⟨g6, 0, none⟩ = some (.int .u64 t.now) := ((hT.ext hR).cell 0).trans rfl
              have c1_ : W.cell? ⟨g6, 1, none⟩ = some (.int .u64 t.count) := ((hT.ext hR).cell 1).trans rfl
              have c2_ : W.cell? ⟨g6, 2, none⟩ = some (.slice A2 t.links.length c2) := ((hT.ext hR).cell 2).trans rfl
              have c3_ : W.cell? ⟨g6, 3, none⟩ = some (.slice B2 t.sess.length d2) := ((hT.ext hR).cell 3).trans rfl
              exact Rg.run_ok (v := .agg #[.int .u64 t.now, .int .u64 t.count, .slice A2 t.links.length c2, .slice B2 t.sess.length d2]) (by simp [execOp, Rg.ev, go_sem, q6, c0_, c1_, c2_, c3_]) ⟨rfl, hR, Ext.rfl' _⟩
            refine ⟨Rg.at_run [4] rfl ?_, ?_⟩
            · intro ρ W hR ⟨q4, _⟩
              replace q4 : ρ 4 = .slice (some ad) l.length c := q4
              refine ⟨rfl, ?_⟩
              exact Rg.run_ok (v := .slice (some ad) l.length c) (by simp [execOp, Rg.ev, go_sem, q4]) ⟨rfl, hR, Ext.rfl' _⟩
            refine ⟨Rg.at_run [5] rfl ?_, ?_⟩
            · intro ρ W hR ⟨q5, _⟩
              replace q5 : ρ 5 = .int .i64 k := q5
              refine ⟨rfl, ?_⟩
              exact Rg.run_ok (v := .int .i64 k) (by simp [execOp, Rg.ev, go_sem, q5]) ⟨rfl, hR, Ext.rfl' _⟩
            refine ⟨Rg.at_run [34, 35] rfl ?_, ?_⟩
            · intro ρ W hR ⟨q34, q35, _⟩
              replace q34 : ρ 34 = .slice (some ad) l.length c := q34
              replace q35 : ρ 35 = .int .i64 k := q35
              refine ⟨rfl, ?_⟩
              exact Rg.run_ok (v := .pointer (some (ad.add (k * 6)))) (by simp [execOp, Rg.ev, go_sem, q34, q35, hb1, hb2]) ⟨rfl, hR, Ext.rfl' _⟩
            refine ⟨Rg.at_run [36] rfl ?_, ?_⟩
            · intro ρ W hR ⟨q36, _⟩
              replace q36 : ρ 36 = .pointer (some (ad.add (k * 6))) := q36
              refine ⟨rfl, ?_⟩
              have c0_ : W.cell? (ad.add (k * 6)) = some (.int .i64 m.kind) := (hR.cell (p := ad.add (k * 6)) hab).trans p0
              have c1_ : W.cell? (⟨(ad.add (k * 6)).block, (ad.add (k * 6)).off + 1, none⟩) = some (.int .i64 m.client) := (hR.cell (p := ⟨(ad.add (k * 6)).block, (ad.add (k * 6)).off + 1, none⟩) hab).trans p1
              have c2_ : W.cell? (⟨(ad.add (k * 6)).block, (ad.add (k * 6)).off + 2, none⟩) = some (.int .u64 m.seq) := (hR.cell (p := ⟨(ad.add (k * 6)).block, (ad.add (k * 6)).off + 2, none⟩) hab).trans p2
              have c3_ : W.cell? (⟨(ad.add (k * 6)).block, (ad.add (k * 6)).off + 3, none⟩) = some (str m.name) := (hR.cell (p := ⟨(ad.add (k * 6)).block, (ad.add (k * 6)).off + 3, none⟩) hab).trans p3
              have c4_ : W.cell? (⟨(ad.add (k * 6)).block, (ad.add (k * 6)).off + 4, none⟩) = some (str m.url) := (hR.cell (p := ⟨(ad.add (k * 6)).block, (ad.add (k * 6)).off + 4, none⟩) hab).trans p4
              have c5_ : W.cell? (⟨(ad.add (k * 6)).block, (ad.add (k * 6)).off + 5, none⟩) = some (.int .u64 m.till) := (hR.cell (p := ⟨(ad.add (k * 6)).block, (ad.add (k * 6)).off + 5, none⟩) hab).trans p5
              exact Rg.run_ok (v := .agg #[.int .i64 m.kind, .int .i64 m.client, .int .u64 m.seq, str m.name, str m.url, .int .u64 m.till]) (by simp [execOp, Rg.ev, go_sem, q36, c0_, c1_, c2_, c3_, c4_, c5_]) ⟨rfl, hR, Ext.rfl' _⟩
            refine ⟨Rg.at_run [33, 37] rfl ?_, ?_⟩
            · intro ρ W hR ⟨q33, q37, _⟩
              replace q33 : ρ 33 = .agg #[.int .u64 t.now, .int .u64 t.count, .slice A2 t.links.length c2, .slice B2 t.sess.length d2] := q33
              replace q37 : ρ 37 = .agg #[.int .i64 m.kind, .int .i64 m.client, .int .u64 m.seq, str m.name, str m.url, .int .u64 m.till] := q37
              refine ⟨rfl, ?_⟩
              refine Rg.enter_fn (args := #[.agg #[.int .u64 t.now, .int .u64 t.count, .slice A2 t.links.length c2, .slice B2 t.sess.length d2], .agg #[.int .i64 m.kind, .int .i64 m.client, .int .u64 m.seq, str m.name, str m.url, .int .u64 m.till]]) rfl (by simp only [List.map_toArray, List.map_cons, List.map_nil, Rg.ev, q33, q37]) (by kernel_rfl) ?_
              refine (H2.out W hR).mono ?_
              rintro e_ w9 ⟨t_, a_, A9, c9, B9, d9, h1_, rfl, h2_, hxx⟩
              obtain ⟨rfl, rfl⟩ := Prod.mk.inj h1_.out
              exact ⟨_, rfl, ⟨A9, c9, B9, d9, rfl, h2_⟩, hR.trans' hxx, hxx⟩
            refine ⟨Rg.at_run [38] rfl ?_, ?_⟩
            · intro ρ W hR ⟨q38, _⟩
              replace q38 : (fun v W => ∃ A9 c9 B9 d9, v = .tuple #[.agg #[.int .u64 t.now, .int .u64 t.count, .slice A9 t.links.length c9, .slice B9 t.sess.length d9], .agg #[.int .i64 a.err, str a.text]] ∧ stE.rep W noneAt [.int .u64 t.now, .int .u64 t.count, .slice A9 t.links.length c9, .slice B9 t.sess.length d9] t) (ρ 38) W := q38
              refine ⟨rfl, ?_⟩
              exact Rg.run_ok (by simp [execOp, Rg.ev, go_sem] <;> rfl) ⟨q38, hR, Ext.rfl' _⟩
            refine ⟨Rg.at_run [32] rfl ?_, ?_⟩
            · intro ρ W hR ⟨q32, _⟩
              replace q32 : (fun v W => ∃ A9 c9 B9 d9, v = .tuple #[.agg #[.int .u64 t.now, .int .u64 t.count, .slice A9 t.links.length c9, .slice B9 t.sess.length d9], .agg #[.int .i64 a.err, str a.text]] ∧ stE.rep W noneAt [.int .u64 t.now, .int .u64 t.count, .slice A9 t.links.length c9, .slice B9 t.sess.length d9] t) (ρ 32) W := q32
              refine ⟨rfl, ?_⟩
              obtain ⟨A9, c9, B9, d9, hv_, hr_⟩ := q32
              exact Rg.run_ok (v := .agg #[.int .u64 t.now, .int .u64 t.count, .slice A9 t.links.length c9, .slice B9 t.sess.length d9]) (by simp [execOp, Rg.ev, go_sem, hv_]) ⟨⟨A9, c9, B9, d9, rfl, hr_⟩, hR, Ext.rfl' _⟩
            refine ⟨Rg.at_run [32] rfl ?_, ?_⟩
            · intro ρ W hR ⟨q32, _⟩
              replace q32 : (fun v W => ∃ A9 c9 B9 d9, v = .tuple #[.agg #[.int .u64 t.now, .int .u64 t.count, .slice A9 t.links.length c9, .slice B9 t.sess.length d9], .agg #[.int .i64 a.err, str a.text]] ∧ stE.rep W noneAt [.int .u64 t.now, .int .u64 t.count, .slice A9 t.links.length c9, .slice B9 t.sess.length d9] t) (ρ 32) W := q32
              refine ⟨rfl, ?_⟩
              obtain ⟨A9, c9, B9, d9, hv_, hr_⟩ := q32
              exact Rg.run_ok (v := .agg #[.int .i64 a.err, str a.text]) (by simp [execOp, Rg.ev, go_sem, hv_]) ⟨rfl, hR, Ext.rfl' _⟩
            refine ⟨Rg.at_run [] rfl ?_, ?_⟩
            · intro ρ W hR _
              refine ⟨rfl, ?_⟩
              exact Rg.run_ok (v := .pointer (some ⟨W.heap.size, 0, none⟩)) (W' := W.alloc (.cells #[.int .u64 0, .int .u64 0, .slice none 0 0, .slice none 0 0] 28)) (by kernel_rfl) ⟨⟨_, rfl, Blk.new _ _ _, hR.size⟩, hR.alloc' _, (Ext.rfl' _).alloc' _⟩
            refine ⟨Rg.at_run [] rfl ?_, ?_⟩
            · intro ρ W hR _
              refine ⟨rfl, ?_⟩
              exact Rg.run_ok (v := .pointer (some ⟨W.heap.size, 0, none⟩)) (W' := W.alloc (.cells #[.int .i64 0, str []] 33)) (by kernel_rfl) ⟨⟨_, rfl, Blk.new _ _ _, hR.size⟩, hR.alloc' _, (Ext.rfl' _).alloc' _⟩
            trivial
          case en =>
            intro tm W hR hsz hk
            rw [Rg.fin_eq (ds := [33, 34, 35, 36, 37, 38, 32, 39, 40, 8, 9]) rfl rfl rfl hsz hk]
            have k8 : (fun v W => ∃ g, v = .pointer (some ⟨g, 0, none⟩) ∧ Blk W g 28 #[.int .u64 0, .int .u64 0, .slice none 0 0, .slice none 0 0] ∧ W4.heap.size ≤ g) (tm.getD 8 undef) W := hk 8
            have k9 : (fun v W => ∃ g, v = .pointer (some ⟨g, 0, none⟩) ∧ Blk W g 33 #[.int .i64 0, str []] ∧ W4.heap.size ≤ g) (tm.getD 9 undef) W := hk 9
            have k32 : (fun v W => ∃ A9 c9 B9 d9, v = .tuple #[.agg #[.int .u64 t.now, .int .u64 t.count, .slice A9 t.links.length c9, .slice B9 t.sess.length d9], .agg #[.int .i64 a.err, str a.text]] ∧ stE.rep W noneAt [.int .u64 t.now, .int .u64 t.count, .slice A9 t.links.length c9, .slice B9 t.sess.length d9] t) (tm.getD 32 undef) W := hk 32
            have k33 : tm.getD 33 undef = .agg #[.int .u64 t.now, .int .u64 t.count, .slice A2 t.links.length c2, .slice B2 t.sess.length d2] := hk 33
            have k34 : tm.getD 34 undef = .slice (some ad) l.length c := hk 34
            have k35 : tm.getD 35 undef = .int .i64 k := hk 35
            have k36 : tm.getD 36 undef = .pointer (some (ad.add (k * 6))) := hk 36
            have k37 : tm.getD 37 undef = .agg #[.int .i64 m.kind, .int .i64 m.client, .int .u64 m.seq, str m.name, str m.url, .int .u64 m.till] := hk 37
            have k38 : (fun v W => ∃ A9 c9 B9 d9, v = .tuple #[.agg #[.int .u64 t.now, .int .u64 t.count, .slice A9 t.links.length c9, .slice B9 t.sess.length d9], .agg #[.int .i64 a.err, str a.text]] ∧ stE.rep W noneAt [.int .u64 t.now, .int .u64 t.count, .slice A9 t.links.length c9, .slice B9 t.sess.length d9] t) (tm.getD 38 undef) W := hk 38
            have k39 : (fun v W => ∃ A9 c9 B9 d9, v = .agg #[.int .u64 t.now, .int .u64 t.count, .slice A9 t.links.length c9, .slice B9 t.sess.length d9] ∧ stE.rep W noneAt [.int .u64 t.now, .int .u64 t.count, .slice A9 t.links.length c9, .slice B9 t.sess.length d9] t) (tm.getD 39 undef) W := hk 39
            have k40 : tm.getD 40 undef = .agg #[.int .i64 a.err, str a.text] := hk 40
            clear hk hsz
            simp only [Rg.putAll, List.setIfInBounds_toArray, List.set_cons_zero, List.set_cons_succ, k33, k34, k35, k36, k37, k40]
            generalize tm.getD 8 undef = u8 at *
            generalize tm.getD 9 undef = u9 at *
            generalize tm.getD 32 undef = u32 at *
            clear k33
            clear k34
            clear k35
            clear k36
            clear k37
            generalize tm.getD 38 undef = u38 at *
            generalize tm.getD 39 undef = u39 at *
            clear k40
            clear k32 k38
            obtain ⟨A9, c9, B9, d9, rfl, hrep1⟩ := k39
            obtain ⟨g9, rfl, hB9, hg9⟩ := k8
            obtain ⟨g10, rfl, hB10, hg10⟩ := k9
            have hne : g9 ≠ g10 := Blk.ne_ hB9 hB10 (by decide)
            have n1 : ¬ g9 = g10 := hne
            have n2 : ¬ g10 = g9 := fun h => hne h.symm
            have l0 := (hB9.cell 0).trans rfl
            have l1 := (hB9.cell 1).trans rfl
            have l2 := (hB9.cell 2).trans rfl
            have l3 := (hB9.cell 3).trans rfl
            have f0 := hB9.frozen 0
            have f1 := hB9.frozen 1
            have f2 := hB9.frozen 2
            have f3 := hB9.frozen 3
            have a0 := (hB10.cell 0).trans rfl
            have a1 := (hB10.cell 1).trans rfl
            have b0 := hB10.frozen 0
            have b1 := hB10.frozen 1
            have hrep3 := st_apartS (st_apartS hrep1 hB9 nos4) hB10 (nos2 0 [])
            have hcg : Chg [g9] W _ := (Chg.refl [g9] W).four (g := g9) (by simp) (.int .u64 t.now) (.int .u64 t.count) (.slice A9 t.links.length c9) (.slice B9 t.sess.length d9)
            have hS1 := Blk.four hB9 (.int .u64 t.now) (.int .u64 t.count) (.slice A9 t.links.length c9) (.slice B9 t.sess.length d9)
            have hA1 := Blk.two_ (hB10.chg hcg (by simp; omega)) (.int .i64 a.err) (str a.text)
            have hc2 : Chg [g10] _ _ := (Chg.refl [g10] ((((W.setCell ⟨g9, 0, none⟩ (.int .u64 t.now)).setCell ⟨g9, 1, none⟩ (.int .u64 t.count)).setCell ⟨g9, 2, none⟩ (.slice A9 t.links.length c9)).setCell ⟨g9, 3, none⟩ (.slice B9 t.sess.length d9))).two_ (g := g10) (by simp) (.int .i64 a.err) (str a.text)
            have hS2 := hS1.chg hc2 (by simp; omega)
            have hrep2 := stE.mono (stE.chg (stE.chg hrep3 hcg (fun j hj _ => .inl (.inr (by simpa using hj)))) hc2 (fun j hj _ => .inr (by simpa using hj))) (Y := noneAt) (fun j _ h => h.elim)
            have hx2 := (hR.then_ hcg (by simp; omega)).then_ hc2 (by simp; omega)
            go_wp2_with fail
            go_meet
            case rel => exact ⟨g9, g10, A9, c9, B9, d9, rfl, rfl, hS2, hrep2, hA1, hg9, hg10, hx2⟩
          case en2 =>
            intro tm W hR hsz hk
            rw [Rg.fin_eqX (ds := [33, 34, 35, 36, 37, 38, 32, 39, 40, 8, 9]) rfl (by decide) rfl rfl hsz hk]
            have k8 : (fun v W => ∃ g, v = .pointer (some ⟨g, 0, none⟩) ∧ Blk W g 28 #[.int .u64 0, .int .u64 0, .slice none 0 0, .slice none 0 0] ∧ W4.heap.size ≤ g) (tm.getD 8 undef) W := hk 8
            have k9 : (fun v W => ∃ g, v = .pointer (some ⟨g, 0, none⟩) ∧ Blk W g 33 #[.int .i64 0, str []] ∧ W4.heap.size ≤ g) (tm.getD 9 undef) W := hk 9
            have k32 : (fun v W => ∃ A9 c9 B9 d9, v = .tuple #[.agg #[.int .u64 t.now, .int .u64 t.count, .slice A9 t.links.length c9, .slice B9 t.sess.length d9], .agg #[.int .i64 a.err, str a.text]] ∧ stE.rep W noneAt [.int .u64 t.now, .int .u64 t.count, .slice A9 t.links.length c9, .slice B9 t.sess.length d9] t) (tm.getD 32 undef) W := hk 32
            have k33 : tm.getD 33 undef = .agg #[.int .u64 t.now, .int .u64 t.count, .slice A2 t.links.length c2, .slice B2 t.sess.length d2] := hk 33
            have k34 : tm.getD 34 undef = .slice (some ad) l.length c := hk 34
            have k35 : tm.getD 35 undef = .int .i64 k := hk 35
            have k36 : tm.getD 36 undef = .pointer (some (ad.add (k * 6))) := hk 36
            have k37 : tm.getD 37 undef = .agg #[.int .i64 m.kind, .int .i64 m.client, .int .u64 m.seq, str m.name, str m.url, .int .u64 m.till] := hk 37
            have k38 : (fun v W => ∃ A9 c9 B9 d9, v = .tuple #[.agg #[.int .u64 t.now, .int .u64 t.count, .slice A9 t.links.length c9, .slice B9 t.sess.length d9], .agg #[.int .i64 a.err, str a.text]] ∧ stE.rep W noneAt [.int .u64 t.now, .int .u64 t.count, .slice A9 t.links.length c9, .slice B9 t.sess.length d9] t) (tm.getD 38 undef) W := hk 38
            have k39 : (fun v W => ∃ A9 c9 B9 d9, v = .agg #[.int .u64 t.now, .int .u64 t.count, .slice A9 t.links.length c9, .slice B9 t.sess.length d9] ∧ stE.rep W noneAt [.int .u64 t.now, .int .u64 t.count, .slice A9 t.links.length c9, .slice B9 t.sess.length d9] t) (tm.getD 39 undef) W := hk 39
            clear hk hsz
            simp only [Rg.putAll, List.setIfInBounds_toArray, List.set_cons_zero, List.set_cons_succ, k33, k34, k35, k36, k37]
            generalize tm.getD 8 undef = u8 at *
            generalize tm.getD 9 undef = u9 at *
            generalize tm.getD 32 undef = u32 at *
            clear k33
            clear k34
            clear k35
            clear k36
            clear k37
            generalize tm.getD 38 undef = u38 at *
            generalize tm.getD 39 undef = u39 at *
            generalize tm.getD 40 undef = u40 at *
            clear k38
            obtain ⟨A9, c9, B9, d9, rfl, hrep1⟩ := k39
            obtain ⟨g9, rfl, hB9, hg9⟩ := k8
            obtain ⟨g10, rfl, hB10, hg10⟩ := k9
            have hne : g9 ≠ g10 := Blk.ne_ hB9 hB10 (by decide)
            have n1 : ¬ g9 = g10 := hne
            have n2 : ¬ g10 = g9 := fun h => hne h.symm
            have l0 := (hB9.cell 0).trans rfl
            have l1 := (hB9.cell 1).trans rfl
            have l2 := (hB9.cell 2).trans rfl
            have l3 := (hB9.cell 3).trans rfl
            have f0 := hB9.frozen 0
            have f1 := hB9.frozen 1
            have f2 := hB9.frozen 2
            have f3 := hB9.frozen 3
            have a0 := (hB10.cell 0).trans rfl
            have a1 := (hB10.cell 1).trans rfl
            have b0 := hB10.frozen 0
            have b1 := hB10.frozen 1
            have hrep3 := st_apartS (st_apartS hrep1 hB9 nos4) hB10 (nos2 0 [])
            have hcg : Chg [g9] W _ := (Chg.refl [g9] W).four (g := g9) (by simp) (.int .u64 t.now) (.int .u64 t.count) (.slice A9 t.links.length c9) (.slice B9 t.sess.length d9)
            have hS1 := Blk.four hB9 (.int .u64 t.now) (.int .u64 t.count) (.slice A9 t.links.length c9) (.slice B9 t.sess.length d9)
            have hA1 := Blk.two_ (hB10.chg hcg (by simp; omega)) (.int .i64 a.err) (str a.text)
            have hc2 : Chg [g10] _ _ := (Chg.refl [g10] ((((W.setCell ⟨g9, 0, none⟩ (.int .u64 t.now)).setCell ⟨g9, 1, none⟩ (.int .u64 t.count)).setCell ⟨g9, 2, none⟩ (.slice A9 t.links.length c9)).setCell ⟨g9, 3, none⟩ (.slice B9 t.sess.length d9))).two_ (g := g10) (by simp) (.int .i64 a.err) (str a.text)
            have hS2 := hS1.chg hc2 (by simp; omega)
            have hrep2 := stE.mono (stE.chg (stE.chg hrep3 hcg (fun j hj _ => .inl (.inr (by simpa using hj)))) hc2 (fun j hj _ => .inr (by simpa using hj))) (Y := noneAt) (fun j _ h => h.elim)
            have hx2 := (hR.then_ hcg (by simp; omega)).then_ hc2 (by simp; omega)
            obtain ⟨A8, c8, B8, d8, hv_, -⟩ := k32
            rw [hv_]
            clear hv_
            simp only [List.drop_succ_cons, List.drop_zero]
            go_wp2_with fail
            go_meet
            case rel => exact ⟨g9, g10, A9, c9, B9, d9, rfl, rfl, hS2, hrep2, hA1, hg9, hg10, hx2⟩

        case rest =>
          obtain ⟨g8, g9, A3, c3, B3, d3, rfl, rfl, hU, hrU, hA9, hg8, hg9, hx5⟩ := hcut
          generalize wc = W5 at *
          replace hS := hS.ext hx5
          replace hT := hT.ext hx5
          replace hA7 := hA7.ext hx5
          replace hrT := stE.ext hrT hx5
          replace hown := hown.ext hx5
          replace hxr := hxr.trans' hx5
          clear H2 p0 p1 p2 p3 p4 p5
          have t0 := (hT.cell 0).trans rfl
          have t1 := (hT.cell 1).trans rfl
          have t2 := (hT.cell 2).trans rfl
          have t3 := (hT.cell 3).trans rfl
          have u0 := (hU.cell 0).trans rfl
          have u1 := (hU.cell 1).trans rfl
          have u2 := (hU.cell 2).trans rfl
          have u3 := (hU.cell 3).trans rfl
          have a0 := (hA7.cell 0).trans rfl
          have a1 := (hA7.cell 1).trans rfl
          have b0 := (hA9.cell 0).trans rfl
          have b1 := (hA9.cell 1).trans rfl
          go_wp2_with fail
          refine (stsame_b t t _ _ W5 hrT hrU).mono ?_
          rintro e W6 ⟨bb, rfl, hx6, hbb⟩
          obtain rfl : bb = true := hbb.out.2 rfl
          replace hS := hS.ext hx6
          replace hT := hT.ext hx6
          replace hrT := stE.ext hrT hx6
          replace hown := hown.ext hx6
          replace hxr := hxr.trans' hx6
          clear t0 t1 t2 t3 u0 u1 u2 u3 a0 a1 b0 b1
          have t0 := (hT.cell 0).trans rfl
          have t1 := (hT.cell 1).trans rfl
          have t2 := (hT.cell 2).trans rfl
          have t3 := (hT.cell 3).trans rfl
          have s0 := (hS.cell 0).trans rfl
          have s1 := (hS.cell 1).trans rfl
          have s2 := (hS.cell 2).trans rfl
          have s3 := (hS.cell 3).trans rfl
          have f0 := hS.frozen 0
          have f1 := hS.frozen 1
          have f2 := hS.frozen 2
          have f3 := hS.frozen 3
          have hcg : Chg [g1] W6 _ := (Chg.refl [g1] W6).four (g := g1) (by simp) (.int .u64 t.now) (.int .u64 t.count) (.slice A2 t.links.length c2) (.slice B2 t.sess.length d2)
          have hS1 := Blk.four hS (.int .u64 t.now) (.int .u64 t.count) (.slice A2 t.links.length c2) (.slice B2 t.sess.length d2)
          have hrN := stE.mono (stE.chg (st_apartS hrT hS (nos4' _ _ _ _ _ _ _ _)) hcg (fun j hj _ => .inr (by simpa using hj))) (Y := noneAt) (fun j _ h => h.elim)
          have hown1 := hown.chgT hS (by decide) hcg (fun h => cm_any h)
          have hxn := hxr.then_ hcg (by simp; omega)
          go_wp2_with fail
          go_roundw
          case rel => exact ⟨k + 1, t, A2, c2, B2, d2, by omega, by go_num, hS1, hrN, hit, hown1, hxn⟩
          case measure => simp [intOf]; omega
    · go_wp2
      go_ret
      exact ⟨rfl, hxr⟩
end Go.Proofs.YtamimdlaclglkaaGreat

/- The statement 'StateOnceSaid': whatever is handed in, the law answers true, and what was handed in is as it was. -/
namespace Go.Proofs.YtamimdlaclglkaaGreat.stateOnce
set_option linter.unusedVariables false
set_option linter.unusedSimpArgs false
set_option linter.unnecessarySimpa false
set_option maxRecDepth 100000
open Go.ChangeShapes Go.WideShapes Go.ChangeAt Go.RowKit
open Go.ChangeMaps (open_string shut_string)

set_option maxRecDepth 100000 in
set_option maxHeartbeats 2000000 in
theorem lifted (os : Os) (started : os.Started) (H : Type) (enc : TypeId × Value → H) :
    ReturnsInHanded {} Tryz.checked os 4 .any (Rows.stateOnceSpec.pre6 enc Tryz.prog Tryz.f4 Rows.stateOnceRow.domain false) (Rows.stateOnceSpec.post enc Tryz.prog Tryz.f4 false true false false) := by
  refine returnsInHanded_of_change (C := Tryz.checked) own started (by kernel_rfl) Tryz.func4
    (ChangeSpec.witness6 (enc := enc) (C := Tryz.checked) false ⟨#[], #[.slice none 0 0], []⟩ 8 (by kernel_rfl) (by kernel_rfl) (by kernel_rfl) (by kernel_rfl)) ?_
  intro W base args ds gs before hval0 hW hcnd _
  have hval : ∀ (j : Nat) t v, Tryz.f4.params[j]? = some t → args[j]? = some v → Value.okWide Tryz.prog W .any base t v := hval0
  have hW' := hW
  obtain ⟨p, q, hA0, hV, rfl, hfz, hnd⟩ := hW
  have hA : DataW.TrodAll enc Tryz.prog W 0 (fun _ => true) true Tryz.f4.params.toList args.toList ds p := hA0
  rw [Tryz.params4] at hA hval
  obtain ⟨v0, vs0, d0, ds0, p0, q0, hargs, rfl, rfl, h0, r0⟩ := trodAll_cons hA
  obtain ⟨rfl, rfl, rfl⟩ := trodAll_nil r0
  obtain rfl : args = #[v0] := by cases args; simp_all
  obtain ⟨rfl, rfl⟩ := trodVars_none hV
  obtain ⟨a0, len0, cap0, rfl⟩ := okWide_slice Tryz.underlying22 (hval 0 22 v0 rfl rfl)
  have k0 := h0
  have lt0 : ∀ x ∈ p0, x.block < W.heap.size := by obtain ⟨m, hm⟩ := k0; exact DataW.trod_lt m _ _ _ hm
  obtain ⟨b0, hb0⟩ : ∃ b, Bs W (.slice a0 len0 cap0) b := by
    obtain ⟨fuel, hf⟩ := h0
    rcases open_ints Tryz.underlying22 Tryz.underlying5 (by kernel_rfl) hf with ⟨hcs, _⟩ | ⟨x, l, c, zs, hcs, _, hl, hm, hz, _, hcell, hwz⟩
    · simp [Value.cells] at hcs
      obtain ⟨rfl, rfl, rfl⟩ := hcs
      exact ⟨[], bs_none⟩
    · simp [Value.cells] at hcs
      obtain ⟨rfl, rfl, rfl⟩ := hcs
      exact bs_of_ints hl hm (by simpa using hz) hcell hwz
  clear hA0 hval0
  refine (stateOnce_walk _ b0 W hb0).mono fun e W' ⟨he, bel⟩ => ?_
  subst he
  exact ⟨_, rfl, _, _, _, [], _, [], hW', trodAll_mk1 (shut_bool Tryz.underlying4 _), (trodAll_cons_mk (Below.trod laidOut (by kernel_rfl) (of_decide_eq_true (by kernel_rfl)) k0 bel lt0) trodAll_mk0), rfl, bel.frame _, fun h => by cases h⟩

theorem over : Rows.stateOnceRow.holds Tryz.pinned (OpenSpec.ofChange Rows.stateOnceSpec) :=
  OpenClaim.holds_of_wide 4 Tryz.f4 rfl rfl rfl rfl rfl rfl rfl ⟨rfl, rfl, rfl, rfl, rfl⟩ rfl rfl rfl rfl rfl (by kernel_rfl) Tryz.func4 (by kernel_rfl)
    (of_decide_eq_true (by kernel_rfl)) (by unfold Func.isWrapper; first | (rw [if_pos (by decide +kernel)]; kernel_rfl) | (rw [if_neg (by decide +kernel)]; exact ⟨rfl, rfl⟩))
    (fun os started H enc _ => lifted os started H enc)

/-- THE STATEMENT -/
theorem proved : Rows.StateOnceSaid := over
#print axioms proved
end Go.Proofs.YtamimdlaclglkaaGreat.stateOnce

