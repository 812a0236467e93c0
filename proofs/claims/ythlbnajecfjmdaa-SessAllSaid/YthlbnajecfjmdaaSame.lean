/- shortcutref17.Same, of states that are the same. -/
import Derived.Test.YthlbnajecfjmdaaLight
namespace Go.Proofs.Ythlbnajecfjmdaa
set_option linter.unusedVariables false
set_option linter.unusedSimpArgs false
set_option linter.unnecessarySimpa false
set_option maxRecDepth 100000
open Go.RowKit
theorem two_new (w : World) (T : TypeId) (c1 c2 : Array Value) : Blk (((w.alloc (.cells c1 T)).alloc (.cells c2 T)).drew) w.heap.size T c1 ∧ Blk (((w.alloc (.cells c1 T)).alloc (.cells c2 T)).drew) (w.heap.size + 1) T c2 ∧ Ext w (((w.alloc (.cells c1 T)).alloc (.cells c2 T)).drew) := by
  have hx : Ext ((w.alloc (.cells c1 T)).alloc (.cells c2 T)) (((w.alloc (.cells c1 T)).alloc (.cells c2 T)).drew) := (Ext.rfl' _).drew'
  have h2 := Blk.new (w.alloc (.cells c1 T)) T c2
  rw [show (w.alloc (.cells c1 T)).heap.size = w.heap.size + 1 by simp] at h2
  exact ⟨((Blk.new w T c1).alloc _).ext hx, h2.ext hx, (((Ext.rfl' w).alloc' _).alloc' _).trans' hx⟩
set_option maxHeartbeats 6400000 in
theorem same_eq (s : St) (cs1 cs2 : List Value) (w : World) (hs1 : stE.rep w noneAt cs1 s) (hs2 : stE.rep w noneAt cs2 s) :
    Calls Try.prog 14 #[.agg cs1.toArray, .agg cs2.toArray] w fun e w' => e = .returned (.bool true) ∧ Ext w w' := by
  obtain ⟨vl, vs, rfl, s1, s2, s3, s4⟩ := st_rep.1 hs1
  obtain ⟨vl2, vs2, rfl, -, -, t3, t4⟩ := st_rep.1 hs2
  obtain ⟨Al, cl, rfl, q1, q2⟩ := s3.form
  obtain ⟨As, cs, rfl, q3, q4⟩ := s4.form
  have hll : s.links.length ≤ 9223372036854775807 := Nat.le_trans q1 q2
  have hl : s.sess.length ≤ 9223372036854775807 := Nat.le_trans q3 q4
  clear q1 q2 q3 q4 hs1 hs2
  obtain ⟨Al2, cl2, rfl, -, -⟩ := t3.form
  obtain ⟨As2, cs2, rfl, -, -⟩ := t4.form
  have hB := Blk.new w 26 #[.int .u64 s.now, .int .u64 s.count, .slice Al s.links.length cl, .slice As s.sess.length cs]
  have hC := Blk.new (w.alloc (.cells #[.int .u64 s.now, .int .u64 s.count, .slice Al s.links.length cl, .slice As s.sess.length cs] 26)) 26 #[.int .u64 s.now, .int .u64 s.count, .slice Al2 s.links.length cl2, .slice As2 s.sess.length cs2]
  have hx0 := ((Ext.rfl' w).alloc' (.cells #[.int .u64 s.now, .int .u64 s.count, .slice Al s.links.length cl, .slice As s.sess.length cs] 26)).alloc' (.cells #[.int .u64 s.now, .int .u64 s.count, .slice Al2 s.links.length cl2, .slice As2 s.sess.length cs2] 26)
  obtain ⟨g, hg⟩ : ∃ g, w.heap.size = g := ⟨_, rfl⟩
  rw [show (w.alloc (.cells #[.int .u64 s.now, .int .u64 s.count, .slice Al s.links.length cl, .slice As s.sess.length cs] 26)).heap.size = g + 1 by simp [hg]] at hC
  rw [hg] at hB
  replace hB := hB.alloc (.cells #[.int .u64 s.now, .int .u64 s.count, .slice Al2 s.links.length cl2, .slice As2 s.sess.length cs2] 26)
  go_enter Try.func14, Try.ntmps14
  go_wp2_with fail
  generalize (w.alloc (.cells #[.int .u64 s.now, .int .u64 s.count, .slice Al s.links.length cl, .slice As s.sess.length cs] 26)).alloc (.cells #[.int .u64 s.now, .int .u64 s.count, .slice Al2 s.links.length cl2, .slice As2 s.sess.length cs2] 26) = w1 at *
  go_loopw [5] (fun i wr => ∃ m : Nat, (m : Int) ≤ s.links.length ∧ i = .int .i64 m ∧ Ext w1 wr) (fun i _ => (s.links.length - intOf i).toNat)
  case atStart => exact ⟨0, by omega, rfl, Ext.rfl' _⟩
  case round =>
    obtain ⟨m, hm, rfl, hx⟩ := hrel
    have b2 := ((hB.ext hx).cell 2).trans rfl
    have d2 := ((hC.ext hx).cell 2).trans rfl
    by_cases hlt : (m : Int) < s.links.length
    · obtain ⟨ad, x, rfl, hxk, hbp, p0, p1, p2, p3, -⟩ := ln_at (s3.ext (hx0.trans' hx)) (k := m) (by omega)
      obtain ⟨ad2, x2, rfl, hxk2, hbr, r0, r1, r2, r3, -⟩ := ln_at (t3.ext (hx0.trans' hx)) (k := m) (by omega)
      obtain rfl : x = x2 := Option.some.inj (hxk.out.symm.trans hxk2.out)
      go_wp2_with fail
      go_region
      go_wp2
      go_roundw
      case rel => exact ⟨m + 1, by omega, by go_num, hx.drew'⟩
      case measure => simp [intOf]; omega
    · go_wp2_with fail
      clear hlt hm b2 d2
      have hxb := hB.ext hx
      have hxc := hC.ext hx
      have hx1 := hx0.trans' hx
      clear hB hC hx0 hx
      generalize wr = wA at *
      go_loopw [6] (fun i w2 => ∃ k : Nat, (k : Int) ≤ s.sess.length ∧ i = .int .i64 k ∧ Ext wA w2) (fun i _ => (s.sess.length - intOf i).toNat)
      case atStart => exact ⟨0, by omega, rfl, Ext.rfl' _⟩
      case round =>
        obtain ⟨k, hk, rfl, hxx⟩ := hrel
        have hBr := hxb.ext hxx
        have hCr := hxc.ext hxx
        have hxr := hx1.trans' hxx
        have b3 := (hBr.cell 3).trans rfl
        have d3 := (hCr.cell 3).trans rfl
        by_cases hlt : (k : Int) < s.sess.length
        · have hk0 : (0 : Int) ≤ k := by omega
          obtain ⟨ad, x, v, rfl, hxk, hbp, p0, p1, p2, -, -, p5⟩ := se_at (s4.ext hxr) (k := k) (by omega)
          obtain ⟨ad2, x2, v2, rfl, hxk2, hbr, r0, r1, r2, -, -, r5⟩ := se_at (t4.ext hxr) (k := k) (by omega)
          obtain rfl : x = x2 := Option.some.inj (hxk.out.symm.trans hxk2.out)
          obtain ⟨Ad, cd, rfl, hd1, hd2⟩ := p5.form
          obtain ⟨Ad2, cd2, rfl, -, -⟩ := r5.form
          have hdl : x.done.length ≤ 9223372036854775807 := Nat.le_trans hd1 hd2
          clear hd1 hd2
          have hgB := hBr.lt
          have hgC := hCr.lt
          have b3_1 := fun o1 => (((Ext.rfl' wr).alloc' o1).cell (p := ⟨g, 3, none⟩) hgB).trans b3
          have b3_2 := fun o1 o2 => ((((Ext.rfl' wr).alloc' o1).alloc' o2).cell (p := ⟨g, 3, none⟩) hgB).trans b3
          have d3_1 := fun o1 => (((Ext.rfl' wr).alloc' o1).cell (p := ⟨g + 1, 3, none⟩) hgC).trans d3
          have d3_2 := fun o1 o2 => ((((Ext.rfl' wr).alloc' o1).alloc' o2).cell (p := ⟨g + 1, 3, none⟩) hgC).trans d3
          have hpb : (ad.add (k * 3)).block < wr.heap.size := by rw [block_of_add]; exact hbp
          have p0_1 := fun o1 => (((Ext.rfl' wr).alloc' o1).cell (p := ad.add (k * 3)) hpb).trans p0
          have p0_2 := fun o1 o2 => ((((Ext.rfl' wr).alloc' o1).alloc' o2).cell (p := ad.add (k * 3)) hpb).trans p0
          have p1_1 := fun o1 => (((Ext.rfl' wr).alloc' o1).cell (p := ⟨(ad.add (k * 3)).block, (ad.add (k * 3)).off + 1, none⟩) hpb).trans p1
          have p1_2 := fun o1 o2 => ((((Ext.rfl' wr).alloc' o1).alloc' o2).cell (p := ⟨(ad.add (k * 3)).block, (ad.add (k * 3)).off + 1, none⟩) hpb).trans p1
          have p2_1 := fun o1 => (((Ext.rfl' wr).alloc' o1).cell (p := ⟨(ad.add (k * 3)).block, (ad.add (k * 3)).off + 2, none⟩) hpb).trans p2
          have p2_2 := fun o1 o2 => ((((Ext.rfl' wr).alloc' o1).alloc' o2).cell (p := ⟨(ad.add (k * 3)).block, (ad.add (k * 3)).off + 2, none⟩) hpb).trans p2
          have hrb : (ad2.add (k * 3)).block < wr.heap.size := by rw [block_of_add]; exact hbr
          have r0_1 := fun o1 => (((Ext.rfl' wr).alloc' o1).cell (p := ad2.add (k * 3)) hrb).trans r0
          have r0_2 := fun o1 o2 => ((((Ext.rfl' wr).alloc' o1).alloc' o2).cell (p := ad2.add (k * 3)) hrb).trans r0
          have r1_1 := fun o1 => (((Ext.rfl' wr).alloc' o1).cell (p := ⟨(ad2.add (k * 3)).block, (ad2.add (k * 3)).off + 1, none⟩) hrb).trans r1
          have r1_2 := fun o1 o2 => ((((Ext.rfl' wr).alloc' o1).alloc' o2).cell (p := ⟨(ad2.add (k * 3)).block, (ad2.add (k * 3)).off + 1, none⟩) hrb).trans r1
          have r2_1 := fun o1 => (((Ext.rfl' wr).alloc' o1).cell (p := ⟨(ad2.add (k * 3)).block, (ad2.add (k * 3)).off + 2, none⟩) hrb).trans r2
          have r2_2 := fun o1 o2 => ((((Ext.rfl' wr).alloc' o1).alloc' o2).cell (p := ⟨(ad2.add (k * 3)).block, (ad2.add (k * 3)).off + 2, none⟩) hrb).trans r2
          go_wp2_with fail
          go_region
          · obtain ⟨hN1, hN2, hx7⟩ := two_new wr 47 #[.int .i64 x.client, .int .u64 x.high, .slice Ad x.done.length cd] #[.int .i64 x.client, .int .u64 x.high, .slice Ad2 x.done.length cd2]
            have P0 := (hN1.cell 0).trans rfl
            have P1 := (hN1.cell 1).trans rfl
            have P2 := (hN1.cell 2).trans rfl
            have Q0 := (hN2.cell 0).trans rfl
            have Q1 := (hN2.cell 1).trans rfl
            have Q2 := (hN2.cell 2).trans rfl
            have p5' := p5.ext hx7
            have r5' := r5.ext hx7
            clear b3 d3 b3_1 b3_2 d3_1 d3_2 p0 p0_1 p0_2 p1 p1_1 p1_2 p2 p2_1 p2_2 r0 r0_1 r0_2 r1 r1_1 r1_2 r2 r2_1 r2_2
            go_wp2_with fail
            clear P0 P1 P2 Q0 Q1 Q2
            have hxx7 := hxx.trans' hx7
            have hxr7 := hxr.trans' hx7
            generalize ((wr.alloc (.cells #[.int .i64 x.client, .int .u64 x.high, .slice Ad x.done.length cd] 47)).alloc (.cells #[.int .i64 x.client, .int .u64 x.high, .slice Ad2 x.done.length cd2] 47)).drew = wB at *
            go_loopw [9] (fun i w3 => ∃ n : Nat, (n : Int) ≤ x.done.length ∧ i = .int .i64 n ∧ Ext wB w3) (fun i _ => (x.done.length - intOf i).toNat)
            case atStart => exact ⟨0, by omega, rfl, Ext.rfl' _⟩
            case round =>
              obtain ⟨n, hn, rfl, hxe⟩ := hrel
              have P2 := ((hN1.ext hxe).cell 2).trans rfl
              have Q2 := ((hN2.ext hxe).cell 2).trans rfl
              by_cases hlt3 : (n : Int) < x.done.length
              · obtain ⟨ae, d, rfl, hdk, hbe, e0, e1, e2, -⟩ := dn_at (p5'.ext hxe) (k := n) (by omega)
                obtain ⟨af, d', rfl, hdk', hbf, f0, f1, f2, -⟩ := dn_at (r5'.ext hxe) (k := n) (by omega)
                obtain rfl : d = d' := Option.some.inj (hdk.out.symm.trans hdk'.out)
                go_wp2_with fail
                go_region
                go_wp2
                go_roundw
                case rel => exact ⟨n + 1, by omega, by go_num, hxe.drew'⟩
                case measure => simp [intOf]; omega
              · go_wp2
                go_roundw
                case rel => exact ⟨k + 1, by omega, by go_num, hxx7.trans' hxe⟩
                case measure => simp [intOf]; omega
          · obtain ⟨hN1, hN2, hx7⟩ := two_new wr 47 #[.int .i64 x.client, .int .u64 x.high, .slice Ad2 x.done.length cd2] #[.int .i64 x.client, .int .u64 x.high, .slice Ad x.done.length cd]
            have P0 := (hN2.cell 0).trans rfl
            have P1 := (hN2.cell 1).trans rfl
            have P2 := (hN2.cell 2).trans rfl
            have Q0 := (hN1.cell 0).trans rfl
            have Q1 := (hN1.cell 1).trans rfl
            have Q2 := (hN1.cell 2).trans rfl
            have p5' := p5.ext hx7
            have r5' := r5.ext hx7
            clear b3 d3 b3_1 b3_2 d3_1 d3_2 p0 p0_1 p0_2 p1 p1_1 p1_2 p2 p2_1 p2_2 r0 r0_1 r0_2 r1 r1_1 r1_2 r2 r2_1 r2_2
            go_wp2_with fail
            clear P0 P1 P2 Q0 Q1 Q2
            have hxx7 := hxx.trans' hx7
            have hxr7 := hxr.trans' hx7
            generalize ((wr.alloc (.cells #[.int .i64 x.client, .int .u64 x.high, .slice Ad2 x.done.length cd2] 47)).alloc (.cells #[.int .i64 x.client, .int .u64 x.high, .slice Ad x.done.length cd] 47)).drew = wB at *
            go_loopw [9] (fun i w3 => ∃ n : Nat, (n : Int) ≤ x.done.length ∧ i = .int .i64 n ∧ Ext wB w3) (fun i _ => (x.done.length - intOf i).toNat)
            case atStart => exact ⟨0, by omega, rfl, Ext.rfl' _⟩
            case round =>
              obtain ⟨n, hn, rfl, hxe⟩ := hrel
              have P2 := ((hN2.ext hxe).cell 2).trans rfl
              have Q2 := ((hN1.ext hxe).cell 2).trans rfl
              by_cases hlt3 : (n : Int) < x.done.length
              · obtain ⟨ae, d, rfl, hdk, hbe, e0, e1, e2, -⟩ := dn_at (p5'.ext hxe) (k := n) (by omega)
                obtain ⟨af, d', rfl, hdk', hbf, f0, f1, f2, -⟩ := dn_at (r5'.ext hxe) (k := n) (by omega)
                obtain rfl : d = d' := Option.some.inj (hdk.out.symm.trans hdk'.out)
                go_wp2_with fail
                go_region
                go_wp2
                go_roundw
                case rel => exact ⟨n + 1, by omega, by go_num, hxe.drew'⟩
                case measure => simp [intOf]; omega
              · go_wp2
                go_roundw
                case rel => exact ⟨k + 1, by omega, by go_num, hxx7.trans' hxe⟩
                case measure => simp [intOf]; omega
        · go_wp2_with fail
          go_ret
          exact ⟨rfl, hxr⟩
end Go.Proofs.Ythlbnajecfjmdaa
