/- A part of the proof of 'StateBytes'. -/
import Derived.Test.YtamimdlaclglkaaGreatB32
import Derived.Deep.DeepCutAuto
import Derived.Test.YtamimdlaclglkaaGreatB27
import Derived.Test.YtamimdlaclglkaaGreatB37
import Derived.Test.YtamimdlaclglkaaGreatB5
import Derived.Test.YtamimdlaclglkaaGreatRows
import Derived.Test.YtamimdlaclglkaaGreatB31
namespace Go.Proofs.YtamimdlaclglkaaGreat
set_option linter.unusedVariables false
set_option linter.unusedSimpArgs false
set_option linter.unnecessarySimpa false
set_option maxRecDepth 100000
open Go.RowKit
theorem two_newS (w : World) (T : TypeId) (c1 c2 : Array Value) : Blk (((w.alloc (.cells c1 T)).alloc (.cells c2 T)).drew) w.heap.size T c1 ∧ Blk (((w.alloc (.cells c1 T)).alloc (.cells c2 T)).drew) (w.heap.size + 1) T c2 ∧ Ext w (((w.alloc (.cells c1 T)).alloc (.cells c2 T)).drew) := by
  obtain ⟨h1, h2, h3⟩ := two_alC w T T c1 c2
  have hx : Ext ((w.alloc (.cells c1 T)).alloc (.cells c2 T)) (((w.alloc (.cells c1 T)).alloc (.cells c2 T)).drew) := (Ext.rfl' _).drew'
  exact ⟨h1.ext hx, h2.ext hx, h3.trans' hx⟩
theorem take_eqS {α : Type} {l m : List α} {k : Nat} {x y : α} (h : l.take k = m.take k) (hx : l[k]? = some x) (hy : m[k]? = some y) (hxy : x = y) : l.take (k + 1) = m.take (k + 1) := by
  rw [take_snocS hx, take_snocS hy, h, hxy]
theorem take_neS {α : Type} {l m : List α} {k : Nat} {x y : α} (hx : l[k]? = some x) (hy : m[k]? = some y) (hxy : ¬ x = y) : ¬ l = m := by
  rintro rfl
  exact hxy (Option.some.inj (hx.symm.trans hy))
theorem take_allS {α : Type} {l m : List α} (h : l.take l.length = m.take l.length) (hl : l.length = m.length) : l = m := by
  rw [List.take_length, hl, List.take_length] at h
  exact h
set_option maxHeartbeats 12800000 in
theorem rsameS_b (s t : St) (cs1 cs2 : List Value) (w : World) (hs1 : stE.rep w noneAt cs1 s) (hs2 : stE.rep w noneAt cs2 t) :
    Calls Tryz.prog 12 #[.agg cs1.toArray, .agg cs2.toArray] w fun e w' => RetIs (s = t) w w' e := by
  obtain ⟨vl, vs, rfl, s1, s2, s3, s4⟩ := st_rep.1 hs1
  obtain ⟨vl2, vs2, rfl, -, -, t3, t4⟩ := st_rep.1 hs2
  obtain ⟨Al, cl, rfl, q1, q2⟩ := s3.form
  obtain ⟨As, cs, rfl, q3, q4⟩ := s4.form
  have hll : s.links.length ≤ 9223372036854775807 := Nat.le_trans q1 q2
  have hl : s.sess.length ≤ 9223372036854775807 := Nat.le_trans q3 q4
  clear q1 q2 q3 q4 hs1 hs2
  obtain ⟨Al2, cl2, rfl, -, -⟩ := t3.form
  obtain ⟨As2, cs2, rfl, -, -⟩ := t4.form
  obtain ⟨hB, hC, hx0⟩ := two_alC w 28 28 #[.int .u64 s.now, .int .u64 s.count, .slice Al s.links.length cl, .slice As s.sess.length cs] #[.int .u64 t.now, .int .u64 t.count, .slice Al2 t.links.length cl2, .slice As2 t.sess.length cs2]
  obtain ⟨g, hg⟩ : ∃ g, w.heap.size = g := ⟨_, rfl⟩
  rw [hg] at hB hC
  go_enter Tryz.func12, Tryz.ntmps12
  go_upto_region 1 with fail
  generalize (w.alloc (.cells #[.int .u64 s.now, .int .u64 s.count, .slice Al s.links.length cl, .slice As s.sess.length cs] 28)).alloc (.cells #[.int .u64 t.now, .int .u64 t.count, .slice Al2 t.links.length cl2, .slice As2 t.sess.length cs2] 28) = w1 at *
  try rw [hg]
  clear hg
  have b0 := (hB.cell 0).trans rfl
  have b1 := (hB.cell 1).trans rfl
  have b2 := (hB.cell 2).trans rfl
  have b3 := (hB.cell 3).trans rfl
  have d0 := (hC.cell 0).trans rfl
  have d1 := (hC.cell 1).trans rfl
  have d2 := (hC.cell 2).trans rfl
  have d3 := (hC.cell 3).trans rfl
  rcases Bool.eq_false_or_eq_true (s.now != t.now) with f1 | f1
  · have HE : Hid (¬ s = t) := hide (fun h => by simp [h] at f1)
    go_wp2_with fail
    go_ret
    exact RetIs.no hx0 HE.out
  rcases Bool.eq_false_or_eq_true (s.count != t.count) with f2 | f2
  · have HE : Hid (¬ s = t) := hide (fun h => by simp [h] at f2)
    go_wp2_with fail
    go_ret
    exact RetIs.no hx0 HE.out
  rcases Bool.eq_false_or_eq_true ((s.links.length : Int) != t.links.length) with f3 | f3
  · have HE : Hid (¬ s = t) := hide (fun h => by simp [h] at f3)
    go_wp2_with fail
    go_ret
    exact RetIs.no hx0 HE.out
  rcases Bool.eq_false_or_eq_true ((s.sess.length : Int) != t.sess.length) with f4 | f4
  · have HE : Hid (¬ s = t) := hide (fun h => by simp [h] at f4)
    go_wp2_with fail
    go_ret
    exact RetIs.no hx0 HE.out
  have HF : Hid (s.now = t.now ∧ s.count = t.count ∧ s.links.length = t.links.length ∧ s.sess.length = t.sess.length) := hide ⟨by simpa using f1, by simpa using f2, by have := f3; simp at this; omega, by have := f4; simp at this; omega⟩
  go_wp2_with fail
  clear f1 f2 f3 f4 b0 b1 b2 b3 d0 d1 d2 d3
  go_loopw [5] (fun i wr => ∃ m : Nat, (m : Int) ≤ s.links.length ∧ i = .int .i64 m ∧ Hid (s.links.take m = t.links.take m) ∧ Ext w1 wr) (fun i _ => (s.links.length - intOf i).toNat)
  case atStart => exact ⟨0, by omega, rfl, hide (by simp), Ext.rfl' _⟩
  case round =>
    obtain ⟨m, hm, rfl, hT, hx⟩ := hrel
    have b2 := ((hB.ext hx).cell 2).trans rfl
    have d2 := ((hC.ext hx).cell 2).trans rfl
    by_cases hlt : (m : Int) < s.links.length
    · have hlt2 : (m : Int) < t.links.length := by have := HF.out; omega
      obtain ⟨ad, x, rfl, hxk, hbp, p0, p1, p2, p3, -⟩ := ln_at (s3.ext (hx0.trans' hx)) (k := m) (by omega)
      obtain ⟨ad2, y, rfl, hyk, hbr, r0, r1, r2, r3, -⟩ := ln_at (t3.ext (hx0.trans' hx)) (k := m) (by omega)
      obtain ⟨r, hr, hrun⟩ := neq_ln x y
      have HR := hide hr
      have HLT := hide hlt
      clear hr
      have hm0 : (0 : Int) ≤ m := by omega
      go_upto_region 6 with fail
      go_region
      clear hrun
      cases r with
      | true =>
        have HE : Hid (¬ s = t) := hide (fun h => take_neS hxk.out hyk.out (HR.out.1 rfl) (by rw [h]))
        go_wp2_with fail
        go_ret
        exact RetIs.no (hx0.trans' hx.drew') HE.out
      | false =>
        have HE : Hid (x = y) := hide (Classical.byContradiction fun h => by have := HR.out.2 h; cases this)
        go_wp2_with fail
        go_roundw
        case rel => exact ⟨m + 1, by have := HLT.out; omega, by go_num, hide (take_eqS hT.out hxk.out hyk.out HE.out), hx.drew'⟩
        case measure => have := HLT.out; simp [intOf]; omega
    · have HL : Hid (s.links = t.links) := hide (by
        obtain rfl : m = s.links.length := by omega
        exact take_allS hT.out HF.out.2.2.1)
      clear hT
      go_wp2_with fail
      clear hlt hm b2 d2
      have hxb := hB.ext hx
      have hxc := hC.ext hx
      have hx1 := hx0.trans' hx
      clear hB hC hx0 hx
      generalize wr = wA at *
      go_loopw [6] (fun i w2 => ∃ k : Nat, (k : Int) ≤ s.sess.length ∧ i = .int .i64 k ∧ Hid (s.sess.take k = t.sess.take k) ∧ Ext wA w2) (fun i _ => (s.sess.length - intOf i).toNat)
      case atStart => exact ⟨0, by omega, rfl, hide (by simp), Ext.rfl' _⟩
      case round =>
        obtain ⟨k, hk, rfl, hT, hxx⟩ := hrel
        have hBr := hxb.ext hxx
        have hCr := hxc.ext hxx
        have hxr := hx1.trans' hxx
        have b3 := (hBr.cell 3).trans rfl
        have d3 := (hCr.cell 3).trans rfl
        by_cases hlt : (k : Int) < s.sess.length
        · have hk0 : (0 : Int) ≤ k := by omega
          have hlt2 : (k : Int) < t.sess.length := by have := HF.out; omega
          obtain ⟨ad, x, v, rfl, hxk, hbp, p0, p1, p2, -, -, p5⟩ := se_at (s4.ext hxr) (k := k) (by omega)
          obtain ⟨ad2, y, v2, rfl, hyk, hbr, r0, r1, r2, -, -, r5⟩ := se_at (t4.ext hxr) (k := k) (by omega)
          obtain ⟨Ad, cd, rfl, hd1, hd2⟩ := p5.form
          obtain ⟨Ad2, cd2, rfl, -, -⟩ := r5.form
          have hdl : x.done.length ≤ 9223372036854775807 := Nat.le_trans hd1 hd2
          clear hd1 hd2
          have HLT := hide hlt
          have hgB := hBr.lt
          have hgC := hCr.lt
          have b3_1 := fun o1 => (((Ext.rfl' wr).alloc' o1).cell (p := ⟨g, 3, none⟩) hgB).trans b3
          have b3_2 := fun o1 o2 => ((((Ext.rfl' wr).alloc' o1).alloc' o2).cell (p := ⟨g, 3, none⟩) hgB).trans b3
          have d3_1 := fun o1 => (((Ext.rfl' wr).alloc' o1).cell (p := ⟨g + 1, 3, none⟩) hgC).trans d3
          have d3_2 := fun o1 o2 => ((((Ext.rfl' wr).alloc' o1).alloc' o2).cell (p := ⟨g + 1, 3, none⟩) hgC).trans d3
          have hpb : (ad.add (k * 3)).block < wr.heap.size := by rw [block_of_add]; exact hbp
          have p0_1 := fun o1 => (((Ext.rfl' wr).alloc' o1).cell (p := ad.add (k * 3)) hpb).trans p0
          have p0_2 := fun o1 o2 => ((((Ext.rfl' wr).alloc' o1).alloc' o2).cell (p := ad.add (k * 3)) hpb).trans p0
          have p1_1 := fun o1 => (((Ext.rfl' wr).alloc' o1).cell (p := ⟨(ad.add (k * 3)).block, (ad.add (k * 3)).off + 1, none⟩) hpb).trans p1
          have p1_2 := fun o1 o2 => ((((Ext.rfl' wr).alloc' o1).alloc' o2).cell (p := ⟨(ad.add (k * 3)).block, (ad.add (k * 3)).off + 1, none⟩) hpb).trans p1
          have p2_1 := fun o1 => (((Ext.rfl' wr).alloc' o1).cell (p := ⟨(ad.add (k * 3)).block, (ad.add (k * 3)).off + 2, none⟩) hpb).trans p2
          have p2_2 := fun o1 o2 => ((((Ext.rfl' wr).alloc' o1).alloc' o2).cell (p := ⟨(ad.add (k * 3)).block, (ad.add (k * 3)).off + 2, none⟩) hpb).trans p2
          have hrb : (ad2.add (k * 3)).block < wr.heap.size := by rw [block_of_add]; exact hbr
          have r0_1 := fun o1 => (((Ext.rfl' wr).alloc' o1).cell (p := ad2.add (k * 3)) hrb).trans r0
          have r0_2 := fun o1 o2 => ((((Ext.rfl' wr).alloc' o1).alloc' o2).cell (p := ad2.add (k * 3)) hrb).trans r0
          have r1_1 := fun o1 => (((Ext.rfl' wr).alloc' o1).cell (p := ⟨(ad2.add (k * 3)).block, (ad2.add (k * 3)).off + 1, none⟩) hrb).trans r1
          have r1_2 := fun o1 o2 => ((((Ext.rfl' wr).alloc' o1).alloc' o2).cell (p := ⟨(ad2.add (k * 3)).block, (ad2.add (k * 3)).off + 1, none⟩) hrb).trans r1
          have r2_1 := fun o1 => (((Ext.rfl' wr).alloc' o1).cell (p := ⟨(ad2.add (k * 3)).block, (ad2.add (k * 3)).off + 2, none⟩) hrb).trans r2
          have r2_2 := fun o1 o2 => ((((Ext.rfl' wr).alloc' o1).alloc' o2).cell (p := ⟨(ad2.add (k * 3)).block, (ad2.add (k * 3)).off + 2, none⟩) hrb).trans r2
          go_upto_region 11 with fail
          go_cut [7, 8] (fun v7 v8 wx => ∃ g7 g8 : Nat, v7 = .pointer (some ⟨g7, 0, none⟩) ∧ v8 = .pointer (some ⟨g8, 0, none⟩) ∧ Blk wx g7 56 #[.int .i64 x.client, .int .u64 x.high, .slice Ad x.done.length cd] ∧ Blk wx g8 56 #[.int .i64 y.client, .int .u64 y.high, .slice Ad2 y.done.length cd2] ∧ Ext wr wx)
          case first =>
            go_region
            · obtain ⟨hN1, hN2, hx7⟩ := two_newS wr 56 #[.int .i64 x.client, .int .u64 x.high, .slice Ad x.done.length cd] #[.int .i64 y.client, .int .u64 y.high, .slice Ad2 y.done.length cd2]
              go_wp2_with fail
              go_meet
              case rel => exact ⟨_, _, rfl, rfl, hN1, hN2, hx7⟩
            · obtain ⟨hN1, hN2, hx7⟩ := two_newS wr 56 #[.int .i64 y.client, .int .u64 y.high, .slice Ad2 y.done.length cd2] #[.int .i64 x.client, .int .u64 x.high, .slice Ad x.done.length cd]
              go_wp2_with fail
              go_meet
              case rel => exact ⟨_, _, rfl, rfl, hN2, hN1, hx7⟩
          case rest =>
            obtain ⟨g7, g8, rfl, rfl, hN1, hN2, hx7⟩ := hcut
            generalize wc = wB at *
            clear b3 d3 b3_1 b3_2 d3_1 d3_2 p0 p0_1 p0_2 p1 p1_1 p1_2 p2 p2_1 p2_2 r0 r0_1 r0_2 r1 r1_1 r1_2 r2 r2_1 r2_2 hpb hrb
            have p5' := p5.ext hx7
            have r5' := r5.ext hx7
            have hxx7 := hxx.trans' hx7
            have hxr7 := hxr.trans' hx7
            have P0 := (hN1.cell 0).trans rfl
            have P1 := (hN1.cell 1).trans rfl
            have P2 := (hN1.cell 2).trans rfl
            have Q0 := (hN2.cell 0).trans rfl
            have Q1 := (hN2.cell 1).trans rfl
            have Q2 := (hN2.cell 2).trans rfl
            rcases Bool.eq_false_or_eq_true (x.client != y.client) with f1 | f1
            · have HE : Hid (¬ s = t) := hide (fun h => take_neS hxk.out hyk.out (fun h => by simp [h] at f1) (by rw [h]))
              go_wp2_with fail
              go_ret
              exact RetIs.no hxr7 HE.out
            rcases Bool.eq_false_or_eq_true (x.high != y.high) with f2 | f2
            · have HE : Hid (¬ s = t) := hide (fun h => take_neS hxk.out hyk.out (fun h => by simp [h] at f2) (by rw [h]))
              go_wp2_with fail
              go_ret
              exact RetIs.no hxr7 HE.out
            rcases Bool.eq_false_or_eq_true ((x.done.length : Int) != y.done.length) with f3 | f3
            · have HE : Hid (¬ s = t) := hide (fun h => take_neS hxk.out hyk.out (fun h => by simp [h] at f3) (by rw [h]))
              go_wp2_with fail
              go_ret
              exact RetIs.no hxr7 HE.out
            have HX : Hid (x.client = y.client ∧ x.high = y.high ∧ x.done.length = y.done.length) := hide ⟨by simpa using f1, by simpa using f2, by have := f3; simp at this; omega⟩
            go_wp2_with fail
            clear P0 P1 P2 Q0 Q1 Q2 f1 f2 f3
            go_loopw [9] (fun i w3 => ∃ n : Nat, (n : Int) ≤ x.done.length ∧ i = .int .i64 n ∧ Hid (x.done.take n = y.done.take n) ∧ Ext wB w3) (fun i _ => (x.done.length - intOf i).toNat)
            case atStart => exact ⟨0, by omega, rfl, hide (by simp), Ext.rfl' _⟩
            case round =>
              obtain ⟨n, hn, rfl, hT2, hxe⟩ := hrel
              have P2 := ((hN1.ext hxe).cell 2).trans rfl
              have Q2 := ((hN2.ext hxe).cell 2).trans rfl
              by_cases hlt3 : (n : Int) < x.done.length
              · have hlt4 : (n : Int) < y.done.length := by have := HX.out; omega
                obtain ⟨ae, d, rfl, hdk, hbe, e0, e1, e2, -⟩ := dn_at (p5'.ext hxe) (k := n) (by omega)
                obtain ⟨af, d', rfl, hdk', hbf, f0, f1, f2, -⟩ := dn_at (r5'.ext hxe) (k := n) (by omega)
                obtain ⟨r, hr, hrun⟩ := neq_dn d d'
                have HR := hide hr
                have HLT3 := hide hlt3
                clear hr
                have hn0 : (0 : Int) ≤ n := by omega
                go_upto_region 17 with fail
                go_region
                clear hrun
                cases r with
                | true =>
                  have HE : Hid (¬ s = t) := hide (fun h => take_neS hxk.out hyk.out (fun h2 => take_neS hdk.out hdk'.out (HR.out.1 rfl) (by rw [h2])) (by rw [h]))
                  go_wp2_with fail
                  go_ret
                  exact RetIs.no (hxr7.trans' hxe.drew') HE.out
                | false =>
                  have HE : Hid (d = d') := hide (Classical.byContradiction fun h => by have := HR.out.2 h; cases this)
                  go_wp2_with fail
                  go_roundw
                  case rel => exact ⟨n + 1, by have := HLT3.out; omega, by go_num, hide (take_eqS hT2.out hdk.out hdk'.out HE.out), hxe.drew'⟩
                  case measure => have := HLT3.out; simp [intOf]; omega
              · have HD : Hid (x = y) := hide (by
                  obtain rfl : n = x.done.length := by omega
                  have h1 := take_allS hT2.out HX.out.2.2
                  exact se_ext HX.out.1 HX.out.2.1 h1)
                go_wp2_with fail
                go_roundw
                case rel => exact ⟨k + 1, by have := HLT.out; omega, by go_num, hide (take_eqS hT.out hxk.out hyk.out HD.out), hxx7.trans' hxe⟩
                case measure => have := HLT.out; simp [intOf]; omega
        · have HE : Hid (s = t) := hide (by
            obtain rfl : k = s.sess.length := by omega
            have h1 := take_allS hT.out HF.out.2.2.2
            exact st_ext HF.out.1 HF.out.2.1 HL.out h1)
          go_wp2_with fail
          go_ret
          exact RetIs.yes hxr HE.out
end Go.Proofs.YtamimdlaclglkaaGreat
namespace Go.Proofs.YtamimdlaclglkaaGreat
set_option linter.unusedVariables false
set_option linter.unusedSimpArgs false
set_option linter.unnecessarySimpa false
set_option maxRecDepth 100000
open Go.RowKit
/-- the bytes B are read as a, and none of their true fronts is -/
structure RdOk {α : Type} (f : Rdr → α × Rdr) (B : Bytes) (a : α) : Prop where
  full : ∀ rest : Bytes, f (B ++ rest, 0) = (a, (rest, 0))
  cut : ∀ p : Nat, p < B.length → (f (B.take p, 0)).2.2 = 3
/-- an error stays -/
def KeepE {α : Type} (f : Rdr → α × Rdr) : Prop := ∀ s : Rdr, s.2 ≠ 0 → (f s).2 = s
def rbind {α β : Type} (f : Rdr → α × Rdr) (g : α → Rdr → β × Rdr) (s : Rdr) : β × Rdr := g (f s).1 (f s).2
theorem KeepE.bind {α β : Type} {f : Rdr → α × Rdr} {g : α → Rdr → β × Rdr} (h : KeepE f) (hg : ∀ x, KeepE (g x)) : KeepE (rbind f g) := fun s hs => by
  unfold rbind
  rw [hg _ _ (by rw [h s hs]; exact hs), h s hs]
theorem RdOk.bind {α β : Type} {f : Rdr → α × Rdr} {g : α → Rdr → β × Rdr} {B C : Bytes} {a : α} {b : β} (h : RdOk f B a) (hg : RdOk (g a) C b) (hk : ∀ x, KeepE (g x)) : RdOk (rbind f g) (B ++ C) b := by
  refine ⟨fun rest => ?_, fun p hp => ?_⟩
  · unfold rbind
    rw [List.append_assoc, h.full]
    exact hg.full rest
  · unfold rbind
    rcases Nat.lt_or_ge p B.length with hlt | hge
    · rw [List.take_append_of_le_length (Nat.le_of_lt hlt)]
      have h3 := h.cut p hlt
      rw [hk _ _ (by rw [h3]; decide)]
      exact h3
    · rw [show (B ++ C).take p = B ++ C.take (p - B.length) by rw [List.take_append, List.take_of_length_le hge], h.full]
      refine hg.cut _ ?_
      rw [List.length_append] at hp
      omega
theorem RdOk.pure {α : Type} (x : α) : RdOk (fun s => (x, s)) [] x := ⟨fun _ => rfl, fun p hp => by simp at hp⟩
theorem KeepE.num (n : Nat) : KeepE (pnum n) := fun s hs => by unfold pnum; rw [if_neg hs]
theorem KeepE.text : KeepE ptext := fun s hs => by unfold ptext; rw [if_neg hs]
theorem KeepE.form {α : Type} (x : α) (c : Bool) : KeepE (fun s => (x, pform c s)) := fun s hs => by show pform c s = s; unfold pform; rw [if_neg (fun h => hs h.1)]
theorem RdOk.num (n v : Nat) (h : v < 256 ^ n) : RdOk (pnum n) (be n v) (v : Int) := by
  refine ⟨fun rest => ?_, fun p hp => ?_⟩
  · unfold pnum
    rw [if_pos rfl, if_neg (by simp [be_length])]
    simp only
    rw [List.take_left' (be_length n v), List.drop_left' (be_length n v), val_be, Nat.mod_eq_of_lt h]
  · unfold pnum
    rw [be_length] at hp
    rw [if_pos rfl, if_pos (by simp [be_length]; omega)]
theorem RdOk.text (t : Bytes) (h : t.length < 4294967296) : RdOk ptext (txB t) t := by
  have e : txB t = oputBytes [] t := by simp [oputBytes, txB]
  refine ⟨fun rest => ?_, fun p hp => ?_⟩
  · unfold ptext
    rw [if_pos rfl]
    simp only
    rw [e, otakeBytes_put _ _ h]
    simp only
    rw [← e, show ((t.length + 4 : Nat) : Int).toNat = (txB t).length by rw [txB_len]; omega, List.drop_left]
  · unfold ptext
    rw [if_pos rfl]
    simp only
    rw [e, otakeBytes_cut _ _ h (by rw [txB_len] at hp; omega)]
theorem RdOk.form {α : Type} (x : α) {c : Bool} (hc : c = false) : RdOk (fun s => (x, pform c s)) [] x := ⟨fun rest => by subst hc; simp [pform], fun p hp => by simp at hp⟩
theorem KeepE.times {α : Type} (f : Rdr → α × Rdr) : ∀ n, KeepE (ptimes f n)
  | 0 => fun _ _ => rfl
  | n + 1 => fun s hs => by unfold ptimes; rw [if_neg hs]
theorem RdOk.times {α : Type} {f : Rdr → α × Rdr} {B : α → Bytes} (hk : KeepE f) : ∀ l : List α, (∀ a ∈ l, RdOk f (B a) a) → RdOk (ptimes f l.length) ((l.map B).flatten) l
  | [], _ => ⟨fun _ => rfl, fun p hp => by simp at hp⟩
  | a :: l, h => by
    have h1 := h a List.mem_cons_self
    have h2 := RdOk.times hk l fun x hx => h x (List.mem_cons_of_mem _ hx)
    have e : RdOk (rbind f fun x => rbind (ptimes f l.length) fun y s => (x :: y, s)) (B a ++ ((l.map B).flatten ++ [])) (a :: l) :=
      h1.bind (h2.bind (RdOk.pure _) (fun _ _ _ => rfl)) (fun x => (KeepE.times f _).bind (fun _ _ _ => rfl))
    have e2 : ∀ s : Rdr, s.2 = 0 → ptimes f (a :: l).length s = (rbind f fun x => rbind (ptimes f l.length) fun y s => (x :: y, s)) s := fun s hs => by
      show ptimes f (l.length + 1) s = _
      unfold ptimes
      rw [if_pos hs]
      rfl
    simp only [List.append_nil] at e
    exact ⟨fun rest => by rw [List.map_cons, List.flatten_cons, e2 _ rfl]; exact e.full rest, fun p hp => by rw [List.map_cons, List.flatten_cons] at hp ⊢; rw [e2 _ rfl]; exact e.cut p hp⟩
/-- what lists a state may have so that its bytes tell them -/
structure BkOk (s : St) : Prop where
  now : 0 ≤ s.now ∧ s.now ≤ 18446744073709551615
  count : 0 ≤ s.count ∧ s.count ≤ 18446744073709551615
  ll : s.links.length ≤ 65535
  sl : s.sess.length ≤ 65535
  link : ∀ l ∈ s.links, l.name.length < 4294967296 ∧ l.url.length < 4294967296 ∧ 0 ≤ l.till ∧ l.till ≤ 18446744073709551615
  sess : ∀ x ∈ s.sess, (0 ≤ x.client ∧ x.client ≤ 255) ∧ (0 ≤ x.high ∧ x.high ≤ 18446744073709551615) ∧ x.done.length ≤ 255 ∧ ∀ d ∈ x.done, (0 ≤ d.seq ∧ d.seq ≤ 18446744073709551615) ∧ (0 ≤ d.an.err ∧ d.an.err ≤ 16) ∧ d.an.text.length < 4294967296
theorem RdOk.numI (n : Nat) (v : Int) (h0 : 0 ≤ v) (h : v.toNat < 256 ^ n) : RdOk (pnum n) (be n v.toNat) v := by
  have := RdOk.num n v.toNat h
  rwa [Int.toNat_of_nonneg h0] at this
theorem RdOk.link {l : Ln} (h : l.name.length < 4294967296 ∧ l.url.length < 4294967296 ∧ 0 ≤ l.till ∧ l.till ≤ 18446744073709551615) : RdOk plink (lnB l) l := by
  obtain ⟨a1, a2, a3, a4⟩ := h
  obtain ⟨nm, ur, tl, md⟩ := l
  simp only at a1 a2 a3 a4
  have hd : RdOk (pnum 1) (be 1 (if md then 1 else 0)) ((if md then 1 else 0 : Nat) : Int) := RdOk.num 1 _ (by cases md <;> decide)
  have := (RdOk.text nm a1).bind (g := fun n => rbind ptext fun u => rbind (pnum 8) fun t => rbind (pnum 1) fun d s => ((⟨n, u, t, decide (d = 1)⟩ : Ln), pform (decide (1 < d)) s))
    ((RdOk.text ur a2).bind ((RdOk.numI 8 tl a3 (by have e : (256 : Nat) ^ 8 = 18446744073709551616 := rfl; omega)).bind (hd.bind (b := (⟨nm, ur, tl, md⟩ : Ln)) (C := []) (by
      have e1 : decide (((if md then 1 else 0 : Nat) : Int) = 1) = md := by cases md <;> rfl
      have e2 : decide ((1 : Int) < ((if md then 1 else 0 : Nat) : Int)) = false := by cases md <;> rfl
      rw [e1]
      exact RdOk.form _ e2) (fun d => KeepE.form _ _)) (fun t => (KeepE.num 1).bind fun d => KeepE.form _ _)) (fun u => (KeepE.num 8).bind fun t => (KeepE.num 1).bind fun d => KeepE.form _ _)) (fun n => KeepE.text.bind fun u => (KeepE.num 8).bind fun t => (KeepE.num 1).bind fun d => KeepE.form _ _)
  have eB : lnB ⟨nm, ur, tl, md⟩ = txB nm ++ (txB ur ++ (be 8 tl.toNat ++ (be 1 (if md then 1 else 0) ++ []))) := by simp [lnB]
  rw [eB]
  exact this
theorem KeepE.link : KeepE plink := by
  have : KeepE (rbind ptext fun n => rbind ptext fun u => rbind (pnum 8) fun t => rbind (pnum 1) fun d s => ((⟨n, u, t, decide (d = 1)⟩ : Ln), pform (decide (1 < d)) s)) :=
    KeepE.text.bind fun n => KeepE.text.bind fun u => (KeepE.num 8).bind fun t => (KeepE.num 1).bind fun d => KeepE.form _ _
  exact this
theorem RdOk.done {d : Dn} (h1 : 0 ≤ d.seq ∧ d.seq ≤ 18446744073709551615) (h2 : 0 ≤ d.an.err ∧ d.an.err ≤ 16) (h3 : d.an.text.length < 4294967296) : RdOk pdone (dnB d) d := by
  obtain ⟨q, e, t⟩ := d
  simp only at h1 h2 h3
  have hf : RdOk (fun s : Rdr => (e, pform (decide (16 < e)) s)) [] e := RdOk.form e (by simp; omega)
  have := (RdOk.numI 8 q h1.1 (by have e : (256 : Nat) ^ 8 = 18446744073709551616 := rfl; omega)).bind (g := fun q => rbind (pnum 1) fun e => rbind (fun s => (e, pform (decide (16 < e)) s)) fun e => rbind ptext fun t s => ((⟨q, ⟨e, t⟩⟩ : Dn), s))
    ((RdOk.numI 1 e h2.1 (by have e : (256 : Nat) ^ 1 = 256 := rfl; omega)).bind (hf.bind ((RdOk.text t h3).bind (RdOk.pure (⟨q, ⟨e, t⟩⟩ : Dn)) (fun _ _ _ => rfl)) (fun e => KeepE.text.bind fun _ _ _ => rfl)) (fun e => (KeepE.form _ _).bind fun e => KeepE.text.bind fun _ _ _ => rfl))
    (fun q => (KeepE.num 1).bind fun e => (KeepE.form _ _).bind fun e => KeepE.text.bind fun _ _ _ => rfl)
  have eB : dnB ⟨q, ⟨e, t⟩⟩ = be 8 q.toNat ++ (be 1 e.toNat ++ ([] ++ (txB t ++ []))) := by simp [dnB]
  rw [eB]
  exact this
theorem KeepE.done : KeepE pdone := by
  have : KeepE (rbind (pnum 8) fun q => rbind (pnum 1) fun e => rbind (fun s => (e, pform (decide (16 < e)) s)) fun e => rbind ptext fun t s => ((⟨q, ⟨e, t⟩⟩ : Dn), s)) :=
    (KeepE.num 8).bind fun q => (KeepE.num 1).bind fun e => (KeepE.form _ _).bind fun e => KeepE.text.bind fun _ _ _ => rfl
  exact this
theorem KeepE.sess : KeepE psess := by
  have : KeepE (rbind (pnum 1) fun a => rbind (pnum 8) fun b => rbind (pnum 1) fun n => rbind (ptimes pdone n.toNat) fun l s => ((⟨a, b, l⟩ : Se), s)) :=
    (KeepE.num 1).bind fun a => (KeepE.num 8).bind fun b => (KeepE.num 1).bind fun n => (KeepE.times _ _).bind fun _ _ _ => rfl
  exact this
theorem RdOk.sess {x : Se} (h : (0 ≤ x.client ∧ x.client ≤ 255) ∧ (0 ≤ x.high ∧ x.high ≤ 18446744073709551615) ∧ x.done.length ≤ 255 ∧ ∀ d ∈ x.done, (0 ≤ d.seq ∧ d.seq ≤ 18446744073709551615) ∧ (0 ≤ d.an.err ∧ d.an.err ≤ 16) ∧ d.an.text.length < 4294967296) : RdOk psess (seB x) x := by
  obtain ⟨a, b, l⟩ := x
  obtain ⟨h1, h2, h3, h4⟩ := h
  simp only at h1 h2 h3 h4
  have e1 : (256 : Nat) ^ 1 = 256 := rfl
  have e8 : (256 : Nat) ^ 8 = 18446744073709551616 := rfl
  have hl : RdOk (ptimes pdone ((l.length : Nat) : Int).toNat) ((l.map dnB).flatten) l := by
    rw [Int.toNat_natCast]
    exact RdOk.times KeepE.done l fun d hd => RdOk.done (h4 d hd).1 (h4 d hd).2.1 (h4 d hd).2.2
  have := (RdOk.numI 1 a h1.1 (by omega)).bind (g := fun a => rbind (pnum 8) fun b => rbind (pnum 1) fun n => rbind (ptimes pdone n.toNat) fun l s => ((⟨a, b, l⟩ : Se), s))
    ((RdOk.numI 8 b h2.1 (by omega)).bind ((RdOk.num 1 l.length (by omega)).bind (hl.bind (RdOk.pure (⟨a, b, l⟩ : Se)) (fun _ _ _ => rfl)) (fun n => (KeepE.times _ _).bind fun _ _ _ => rfl)) (fun b => (KeepE.num 1).bind fun n => (KeepE.times _ _).bind fun _ _ _ => rfl))
    (fun a => (KeepE.num 8).bind fun b => (KeepE.num 1).bind fun n => (KeepE.times _ _).bind fun _ _ _ => rfl)
  have eB : seB ⟨a, b, l⟩ = be 1 a.toNat ++ (be 8 b.toNat ++ (be 1 l.length ++ ((l.map dnB).flatten ++ []))) := by simp [seB, seH]
  rw [eB]
  exact this
def pstR : Rdr → St × Rdr := rbind (pnum 8) fun a => rbind (pnum 8) fun c => rbind (pnum 2) fun n => rbind (ptimes plink n.toNat) fun l => rbind (pnum 2) fun m => rbind (ptimes psess m.toNat) fun x s => ((⟨a, c, l, x⟩ : St), s)
theorem RdOk.state {s : St} (h : BkOk s) : RdOk pstR (stB s) s := by
  obtain ⟨a, c, l, x⟩ := s
  obtain ⟨h1, h2, h3, h4, h5, h6⟩ := h
  simp only at h1 h2 h3 h4 h5 h6
  have e2 : (256 : Nat) ^ 2 = 65536 := rfl
  have e8 : (256 : Nat) ^ 8 = 18446744073709551616 := rfl
  have hl : RdOk (ptimes plink ((l.length : Nat) : Int).toNat) ((l.map lnB).flatten) l := by
    rw [Int.toNat_natCast]
    exact RdOk.times KeepE.link l fun d hd => RdOk.link (h5 d hd)
  have hs : RdOk (ptimes psess ((x.length : Nat) : Int).toNat) ((x.map seB).flatten) x := by
    rw [Int.toNat_natCast]
    exact RdOk.times KeepE.sess x fun d hd => RdOk.sess (h6 d hd)
  have k5 : ∀ (a c : Int) (l : List Ln) (m : Int), KeepE (rbind (ptimes psess m.toNat) fun x s => ((⟨a, c, l, x⟩ : St), s)) := fun a c l m => (KeepE.times _ _).bind fun _ _ _ => rfl
  have k4 : ∀ (a c : Int) (l : List Ln), KeepE (rbind (pnum 2) fun m => rbind (ptimes psess m.toNat) fun x s => ((⟨a, c, l, x⟩ : St), s)) := fun a c l => (KeepE.num 2).bind fun m => k5 a c l m
  have k3 : ∀ (a c n : Int), KeepE (rbind (ptimes plink n.toNat) fun l => rbind (pnum 2) fun m => rbind (ptimes psess m.toNat) fun x s => ((⟨a, c, l, x⟩ : St), s)) := fun a c n => (KeepE.times _ _).bind fun l => k4 a c l
  have k2 : ∀ (a c : Int), KeepE (rbind (pnum 2) fun n => rbind (ptimes plink n.toNat) fun l => rbind (pnum 2) fun m => rbind (ptimes psess m.toNat) fun x s => ((⟨a, c, l, x⟩ : St), s)) := fun a c => (KeepE.num 2).bind fun n => k3 a c n
  have k1 : ∀ (a : Int), KeepE (rbind (pnum 8) fun c => rbind (pnum 2) fun n => rbind (ptimes plink n.toNat) fun l => rbind (pnum 2) fun m => rbind (ptimes psess m.toNat) fun x s => ((⟨a, c, l, x⟩ : St), s)) := fun a => (KeepE.num 8).bind fun c => k2 a c
  have := (RdOk.numI 8 a h1.1 (by omega)).bind ((RdOk.numI 8 c h2.1 (by omega)).bind ((RdOk.num 2 l.length (by omega)).bind (hl.bind ((RdOk.num 2 x.length (by omega)).bind (hs.bind (RdOk.pure (⟨a, c, l, x⟩ : St)) (fun _ _ _ => rfl)) (fun m => k5 a c l m)) (fun l => k4 a c l)) (fun n => k3 a c n)) (fun c => k2 a c)) k1
  have eB : stB ⟨a, c, l, x⟩ = be 8 a.toNat ++ (be 8 c.toNat ++ (be 2 l.length ++ ((l.map lnB).flatten ++ (be 2 x.length ++ ((x.map seB).flatten ++ []))))) := by simp [stB, stH]
  rw [eB]
  exact this
end Go.Proofs.YtamimdlaclglkaaGreat
namespace Go.Proofs.YtamimdlaclglkaaGreat
set_option linter.unusedVariables false
set_option linter.unusedSimpArgs false
set_option linter.unnecessarySimpa false
set_option maxRecDepth 100000
open Go.RowKit
namespace Enc
section
open Go.ChangeShapes Go.WideShapes Go.ChangeAt
variable {α β : Type}
/-- what is read as a weighs at most its reading's bulk -/
def Wt (t : TypeId) (E : Enc α) (wt : α → Nat) : Prop :=
  ∀ (H : Type) (enc : TypeId × Value → H) (w : World) (fuel : Nat) (cs : List Value) (x : DataW H × List MemPlace) (a : α),
    DataW.trod enc Tryz.prog w 0 (fun _ => true) true fuel t cs = some x → E.rep w noneAt cs a → wt a ≤ Rows.uptoBulk x.1
theorem wt_zero (t : TypeId) (E : Enc α) : Wt t E (fun _ => 0) := fun _ _ _ _ _ _ _ _ _ => Nat.zero_le _
theorem wt_text {t : TypeId} (ht : Tryz.prog.underlying t = some .string) : Wt t text (fun l => l.length) := by
  intro H enc w fuel cs x a h hr
  obtain ⟨s, rfl, rfl, hs⟩ := DataW.trod_string ht h
  obtain ⟨e, -⟩ := hr
  have e1 : s = ⟨a.toArray⟩ := by simpa [str] using e
  subst e1
  simp [Rows.uptoBulk]
theorem wt_slice {t e : TypeId} {E : Enc α} {wt : α → Nat} (ht : Tryz.prog.underlying t = some (.slice e)) (hc : Tryz.prog.cellsOf e = E.size) (ho : Wt e E wt) : Wt t (slice E) (fun l => (l.map wt).sum) := by
  intro H enc w fuel cs x l h hr
  obtain ⟨v, rfl, hsl⟩ := hr
  rcases DataW.trod_slice ht h with ⟨h1, rfl⟩ | ⟨a, len, cap, elems, rest, n, -, h1, rfl, -, h2, h3, h4, h5, -⟩
  · have hv : v = .slice none 0 0 := by simpa using h1
    subst hv
    have h0 : l = [] := List.eq_nil_of_length_eq_zero (by have := hsl.inv.1; omega)
    subst h0
    simp
  · have hv : v = .slice (some a) len cap := by simpa using h1
    subst hv
    have hl : l.length = len := by have := hsl.inv.1; omega
    have key : ∀ (k : Nat), k ≤ len → ((l.take k).map wt).sum ≤ Rows.uptoBulkAll ((elems.take k).map (·.1)) := by
      intro k
      induction k with
      | zero => intro _; simp
      | succ k ih =>
        intro hk
        have hkl : k < l.length := by omega
        have hke : k < elems.length := by omega
        obtain ⟨ad, cs, had, hrep, -, hcell⟩ := hsl.at_ hkl
        obtain rfl := Option.some.inj had
        have h6 := h5 k (by omega)
        rw [List.getElem?_eq_getElem hke] at h6
        cases hcs : w.cells? 0 (a.add (k * Tryz.prog.cellsOf e)) (Tryz.prog.cellsOf e) with
        | none => rw [hcs] at h6; cases h6
        | some cs' =>
          rw [hcs] at h6
          have h7 : DataW.trod enc Tryz.prog w 0 (fun _ => true) true n e cs' = some elems[k] := h6
          have h8 := hcs
          rw [hc] at h8
          obtain ⟨-, hlen, hget⟩ := World.cells?_some h8
          have hcc : cs' = cs := by
            refine List.ext_getElem? fun j => ?_
            by_cases hj : j < E.size
            · have hl2 := E.len hrep
              have h9 := hget j hj
              rw [add_of_add, hcell j cs[j] (List.getElem?_eq_getElem (by omega))] at h9
              rw [← h9, List.getElem?_eq_getElem (by omega)]
            · rw [List.getElem?_eq_none (by omega), List.getElem?_eq_none (by rw [E.len hrep]; omega)]
          subst hcc
          have h10 := ho H enc w n cs' _ _ h7 hrep
          rw [List.take_succ_eq_append_getElem hkl, List.take_succ_eq_append_getElem hke, List.map_append, List.map_append, List.sum_append]
          have happ : ∀ (p q : List (DataW H)), Rows.uptoBulkAll (p ++ q) = Rows.uptoBulkAll p + Rows.uptoBulkAll q := by
            intro p q
            induction p with
            | nil => simp [Rows.uptoBulkAll]
            | cons y p ihp => simp only [List.cons_append, Rows.uptoBulkAll, ihp]; omega
          rw [happ]
          have h11 := ih (by omega)
          simp only [List.map_cons, List.map_nil, List.sum_cons, List.sum_nil, Rows.uptoBulkAll]
          omega
    have h12 := key len (Nat.le_refl _)
    rw [← hl, List.take_length, hl, ← h4, List.take_length] at h12
    simp only [Rows.uptoBulk]
    omega
/-- the fields of a struct, and their weights -/
inductive FieldsW : List Field → Nat → (α : Type) → Enc α → (α → Nat) → Prop
  | nil (o : Nat) : FieldsW [] o Unit unit (fun _ => 0)
  | cons {f : Field} {fs : List Field} {o : Nat} {α β : Type} {E : Enc α} {F : Enc β} {wt : α → Nat} {wu : β → Nat} (ho : f.offset = o) (hs : Tryz.prog.cellsOf f.type = E.size) (hE : Wt f.type E wt) (h : FieldsW fs (o + E.size) β F wu) : FieldsW (f :: fs) o (α × β) (pair E F) (fun a => wt a.1 + wu a.2)
theorem FieldsW.get {H : Type} {enc : TypeId × Value → H} {w : World} {n : Nat} {cs : List Value} {fs : List Field} {o : Nat} {α : Type} {E : Enc α} {wt : α → Nat} (hF : FieldsW fs o α E wt) {a : α} (hr : E.rep w noneAt (cs.drop o) a)
    (xs : List (DataW H × List MemPlace)) (h : ∀ (i : Nat) (f : Field), fs[i]? = some f → DataW.trod enc Tryz.prog w 0 (fun _ => true) true n f.type ((cs.drop f.offset).take (Tryz.prog.cellsOf f.type)) = xs[i]?) (hl : xs.length = fs.length) : wt a ≤ Rows.uptoBulkAll (xs.map (·.1)) := by
  induction hF generalizing xs with
  | nil o => exact Nat.zero_le _
  | @cons f fs o α β E F wt wu ho hs hE hF ih =>
    obtain ⟨c1, c2, hc, h1, h2⟩ := hr
    cases xs with
    | nil => cases hl
    | cons y xs =>
      have hf := h 0 f rfl
      rw [ho, hs, hc, List.take_left' (E.len h1)] at hf
      have k1 := hE H enc w n c1 y _ hf h1
      have hd : cs.drop (o + E.size) = c2 := by rw [← List.drop_drop, hc, List.drop_left' (E.len h1)]
      have k2 := ih (a := a.2) (by rw [hd]; exact h2) xs (fun i g hg => h (i + 1) g hg) (by simpa using hl)
      simp only [List.map_cons, Rows.uptoBulkAll]
      omega
theorem wt_struct {t : TypeId} {fs : Array Field} {α : Type} {E : Enc α} {wt : α → Nat} (ht : Tryz.prog.underlying t = some (.struct fs)) (hF : FieldsW fs.toList 0 α E wt) : Wt t E wt := by
  intro H enc w fuel cs x a h hr
  obtain ⟨xs, n, -, rfl, hl, hlen, hf⟩ := DataW.trod_struct ht h
  have := FieldsW.get (enc := enc) (n := n) (cs := cs) hF (a := a) (by simpa using hr) xs (fun i f hi => hf i f (by simpa using hi)) (by simpa using hlen)
  simp only [Rows.uptoBulk]
  omega
theorem Wt.map {t : TypeId} {α β : Type} {E : Enc β} {wt : β → Nat} (h : Wt t E wt) (f : α → β) : Wt t (map E f) (fun a => wt (f a)) := fun H enc w fuel cs x a hx hr => h H enc w fuel cs x (f a) hx hr
end
end Enc
open Enc in
theorem anE_wt : Wt 33 anE (fun a => a.text.length) := fun H enc w fuel cs x a hx hr => by
  have := ((wt_struct Tryz.underlying33 (.cons rfl (by kernel_rfl) (wt_zero _ _) (.cons rfl (by kernel_rfl) (wt_text Tryz.underlying9) (.nil _)))).map fun a : An => (a.err, a.text, ())) H enc w fuel cs x a hx hr
  try dsimp only at this ⊢
  omega
open Enc in
theorem dnE_wt : Wt 68 dnE (fun d => d.an.text.length) := fun H enc w fuel cs x a hx hr => by
  have := ((wt_struct Tryz.underlying68 (.cons rfl (by kernel_rfl) (wt_zero _ _) (.cons rfl (by kernel_rfl) anE_wt (.nil _)))).map fun d : Dn => (d.seq, d.an, ())) H enc w fuel cs x a hx hr
  try dsimp only at this ⊢
  omega
open Enc in
theorem seE_wt : Wt 56 seE (fun s => (s.done.map fun d => d.an.text.length).sum) := fun H enc w fuel cs x a hx hr => by
  have := ((wt_struct Tryz.underlying56 (.cons rfl (by kernel_rfl) (wt_zero _ _) (.cons rfl (by kernel_rfl) (wt_zero _ _) (.cons rfl (by kernel_rfl) (wt_slice Tryz.underlying54 (by kernel_rfl) dnE_wt) (.nil _))))).map fun s : Se => (s.client, s.high, s.done, ())) H enc w fuel cs x a hx hr
  try dsimp only at this ⊢
  omega
open Enc in
theorem lnE_wt : Wt 53 lnE (fun l => l.name.length + l.url.length) := fun H enc w fuel cs x a hx hr => by
  have := ((wt_struct Tryz.underlying53 (.cons rfl (by kernel_rfl) (wt_text Tryz.underlying9) (.cons rfl (by kernel_rfl) (wt_text Tryz.underlying9) (.cons rfl (by kernel_rfl) (wt_zero _ _) (.cons rfl (by kernel_rfl) (wt_zero _ _) (.nil _)))))).map fun l : Ln => (l.name, l.url, l.till, l.made, ())) H enc w fuel cs x a hx hr
  try dsimp only at this ⊢
  omega
/-- the letters of a state's texts -/
def stW (s : St) : Nat := (s.links.map fun l => l.name.length + l.url.length).sum + (s.sess.map fun x => (x.done.map fun d => d.an.text.length).sum).sum
open Enc in
theorem stE_wt : Wt 28 stE stW := fun H enc w fuel cs x a hx hr => by
  have := ((wt_struct Tryz.underlying28 (.cons rfl (by kernel_rfl) (wt_zero _ _) (.cons rfl (by kernel_rfl) (wt_zero _ _) (.cons rfl (by kernel_rfl) (wt_slice Tryz.underlying25 (by kernel_rfl) lnE_wt) (.cons rfl (by kernel_rfl) (wt_slice Tryz.underlying26 (by kernel_rfl) seE_wt) (.nil _)))))).map fun s : St => (s.now, s.count, s.links, s.sess, ())) H enc w fuel cs x a hx hr
  unfold stW
  try dsimp only at this ⊢
  omega
end Go.Proofs.YtamimdlaclglkaaGreat
namespace Go.Proofs.YtamimdlaclglkaaGreat
set_option linter.unusedVariables false
set_option linter.unusedSimpArgs false
set_option linter.unnecessarySimpa false
set_option maxRecDepth 100000
open Go.RowKit
theorem lnsB_len : ∀ l : List Ln, ((l.map lnB).flatten).length = 17 * l.length + (l.map fun l => l.name.length + l.url.length).sum
  | [] => by simp
  | x :: l => by
    have := lnsB_len l
    simp only [List.map_cons, List.flatten_cons, List.length_append, List.length_cons, List.sum_cons, lnB_len, this]
    omega
theorem dnsB_len : ∀ l : List Dn, ((l.map dnB).flatten).length = 13 * l.length + (l.map fun d => d.an.text.length).sum
  | [] => by simp
  | x :: l => by
    have := dnsB_len l
    simp only [List.map_cons, List.flatten_cons, List.length_append, List.length_cons, List.sum_cons, dnB_len, this]
    omega
theorem sesB_len : ∀ l : List Se, (∀ x ∈ l, x.done.length ≤ 8) → ((l.map seB).flatten).length ≤ 114 * l.length + (l.map fun x => (x.done.map fun d => d.an.text.length).sum).sum
  | [], _ => by simp
  | x :: l, h => by
    have h1 := sesB_len l fun y hy => h y (List.mem_cons_of_mem _ hy)
    have h2 := h x List.mem_cons_self
    have h3 := dnsB_len x.done
    simp only [List.map_cons, List.flatten_cons, List.length_append, List.length_cons, List.sum_cons, seB_len, h3]
    omega
theorem LightS.sess {s : St} (h : LightS s) : ∀ x ∈ s.sess, SeL x := fun x hx => by
  obtain ⟨j, hj⟩ := List.mem_iff_getElem?.1 hx
  exact h.2.2.2 j x hj
theorem SeL.done {x : Se} (h : SeL x) : ∀ d ∈ x.done, 0 ≤ d.an.err ∧ d.an.err ≤ 16 := fun d hd => by
  obtain ⟨j, hj⟩ := List.mem_iff_getElem?.1 hd
  exact h.2.2.2 j d hj
theorem LightS.len {s : St} (h : LightS s) : (stB s).length ≤ 3000 + stW s := by
  have h1 := h.1; have h2 := h.2.1
  have h3 := sesB_len s.sess fun x hx => (h.sess x hx).1
  rw [stB_len, lnsB_len]
  unfold stW
  omega
theorem LightS.put {s : St} (h : LightS s) (hw : stW s ≤ 1048576) : PutOk s :=
  ⟨by have := h.len; omega, fun x hx => (h.sess x hx).2.1, fun x hx d hd => ((h.sess x hx).done d hd).1⟩
end Go.Proofs.YtamimdlaclglkaaGreat
