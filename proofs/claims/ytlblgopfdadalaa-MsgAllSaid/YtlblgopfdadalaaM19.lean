/- A part of the proof of 'MsgAll'. -/
import Derived.Test.YtlblgopfdadalaaM18
import Derived.Deep.DeepCutAuto
import Derived.Test.YtlblgopfdadalaaM2
import Derived.Laws.Rows
import Derived.Laws.Tables
import Derived.Tactics2
import Derived.Test.YtlblgopfdadalaaM14
namespace Go.Proofs.Ytlblgopfdadalaa
set_option linter.unusedVariables false
set_option linter.unusedSimpArgs false
set_option linter.unnecessarySimpa false
set_option maxRecDepth 100000
open Go.RowKit
def msgAt (k1 f t : Int) (T : Nat → Int) (k : Nat) : Mg := ⟨k1, f, t, if 0 < k then T 0 else 0, if 1 < k then T 1 else 0, if 2 < k then T 2 else 0, [], if 3 < k then T 3 else 0, if 4 < k then T 4 else 0, false, Sn0, Cm.zero, ⟨0, []⟩⟩
set_option maxHeartbeats 6400000 in
theorem mall_b (g : Nat) (v : Value) (b : Bytes) (w : World) (h : MAt w g v (b, 0) (mgcells Mg0 (.slice none 0 0) (.slice none 0 0))) :
    Calls Try.prog 31 #[.pointer (some ⟨g, 0, none⟩)] w fun e w' => e = .returned (.tuple #[]) ∧ ∃ ve, MZ w g v (msgC.all (b, 0)).2 (msgC.all (b, 0)).1 ve w' := by
  obtain ⟨S, T, k1, f, t, ok, l, ix, tr, st, c, er, tx, hC⟩ := mchain b
  have HA : Hid (msgC.all (b, 0) = (⟨k1, f, t, T 0, T 1, T 2, l, T 3, T 4, ok, ⟨ix, tr, st⟩, c, ⟨er, tx⟩⟩, pform (decide (0 < (S 16).1.length)) (S 16))) := hide (by unfold Cod.all; rw [hC.h13])
  obtain ⟨ov, h5a, h5b⟩ := hC.h5
  have h0 := hC.h0
  have z0 : MZ w g v (S 0) Mg0 (.slice none 0 0) w := by
    rw [h0]
    exact ⟨v, _, h, Enc.Sl.nil _ _ _, Enc.BsX.nil _ _, Chg.refl _ _, fun _ hS => hS⟩
  have H1 := hide hC.h1
  have H2 := hide hC.h2
  have H3 := hide hC.h3
  have H4 := hide hC.h4
  have H5 := hide h5a
  have H9 := hide hC.h6
  have H10 := hide hC.h7
  have H11 := hide hC.h8
  have H12 := hide hC.h9
  have H13 := hide hC.h10
  have H14 := hide hC.h11
  have H15 := hide hC.h12
  have r1 : 0 ≤ k1 ∧ k1 < 256 := by have := pnum_rng 1 (S 0); have e : (pnum 1 (S 0)).1 = k1 := congrArg Prod.fst hC.h1; rw [e] at this; exact this
  have r2 : 0 ≤ er ∧ er < 256 := by have := pnum_rng 1 (S 14); have e : (pnum 1 (S 14)).1 = er := congrArg Prod.fst hC.h11; rw [e] at this; exact this
  have w1 : IntKind.i64.wrap k1 = k1 := IntWalk.i64_in _ (by omega)
  have w2 : IntKind.i64.wrap er = er := IntWalk.i64_in _ (by omega)
  have HB := hide h5b
  clear h5a h5b h0 hC h
  go_enter Try.func31, Try.ntmps31
  go_wp2_with fail
  refine (z0.num (by decide) H1.out).mono ?_
  rintro e W1 ⟨rfl, z1, -⟩
  obtain ⟨⟨x0, hx0⟩, f0⟩ := z1.ok 0 (by decide)
  go_upto_region 2 with fail
  replace z1 := z1.set (m' := ⟨k1, 0, 0, 0, 0, 0, [], 0, 0, false, Sn0, Cm.zero, ⟨0, []⟩⟩) 0 (.int .i64 k1) (fun _ => rfl) rfl rfl
  change Code.wp _ _ _ _ (W1.setCell ⟨g, 2, none⟩ (.int .i64 k1))
  generalize W1.setCell _ _ = W2 at *
  clear hx0 f0
  go_wp2_with fail
  refine (z1.place H2.out).mono ?_
  rintro e W3 ⟨rfl, z2⟩
  go_wp2_with fail
  refine (z2.place H3.out).mono ?_
  rintro e W4 ⟨rfl, z3⟩
  obtain ⟨⟨x1, hx1⟩, f1⟩ := z3.ok 1 (by decide)
  obtain ⟨⟨x2, hx2⟩, f2⟩ := z3.ok 2 (by decide)
  go_upto_region 3 with fail
  replace z3 := (z3.set (m' := ⟨k1, f, 0, 0, 0, 0, [], 0, 0, false, Sn0, Cm.zero, ⟨0, []⟩⟩) 1 (.int .i64 f) (fun _ => rfl) rfl rfl).set (m' := ⟨k1, f, t, 0, 0, 0, [], 0, 0, false, Sn0, Cm.zero, ⟨0, []⟩⟩) 2 (.int .i64 t) (fun _ => rfl) rfl rfl
  change Code.wp _ _ _ _ ((W4.setCell ⟨g, 3, none⟩ (.int .i64 f)).setCell ⟨g, 4, none⟩ (.int .i64 t))
  generalize (W4.setCell _ _).setCell _ _ = W5 at *
  clear hx1 f1 hx2 f2 z0 z1 z2
  have hlt := z3.lt
  obtain ⟨gp, hgp⟩ : ∃ gp, W5.heap.size = gp := ⟨_, rfl⟩
  have hxa := ((Ext.rfl' W5).alloc' (.cells #[.pointer (some ⟨g, 5, none⟩), .pointer (some ⟨g, 6, none⟩), .pointer (some ⟨g, 7, none⟩), .pointer (some ⟨g, 9, none⟩), .pointer (some ⟨g, 10, none⟩)] 120)).drew'
  have hB := (Blk.new W5 120 #[.pointer (some ⟨g, 5, none⟩), .pointer (some ⟨g, 6, none⟩), .pointer (some ⟨g, 7, none⟩), .pointer (some ⟨g, 9, none⟩), .pointer (some ⟨g, 10, none⟩)]).ext ((Ext.rfl' _).drew')
  have z6 := z3.ext hxa
  rw [hgp] at hB hlt
  go_region
  go_wp2_with fail
  generalize World.drew _ = W6 at *
  clear hxa z3 hgp W5
  have hgg : gp ≠ g := by omega
  go_loopw [43] (fun v2 wr => ∃ (k : Nat), k ≤ 5 ∧ v2 = .int .i64 k ∧ MZ w g v (S (3 + k)) (msgAt k1 f t T k) (.slice none 0 0) wr ∧ Blk wr gp 120 #[.pointer (some ⟨g, 5, none⟩), .pointer (some ⟨g, 6, none⟩), .pointer (some ⟨g, 7, none⟩), .pointer (some ⟨g, 9, none⟩), .pointer (some ⟨g, 10, none⟩)]) (fun v2 _ => (5 - intOf v2).toNat)
  case atStart => exact ⟨0, by omega, rfl, z6, hB⟩
  case round =>
    clear z6 hB
    obtain ⟨k, hk, rfl, z6, hB⟩ := hrel
    have hk' : k = 0 ∨ k = 1 ∨ k = 2 ∨ k = 3 ∨ k = 4 ∨ k = 5 := by omega
    clear hk
    rcases hk' with rfl | rfl | rfl | rfl | rfl | rfl
    · rw [show ((0 : Nat) : Int) = 0 from rfl]
      have p0 : wr.cell? ⟨gp, 0, none⟩ = some (.pointer (some ⟨g, 5, none⟩)) := (hB.cell 0).trans rfl
      go_wp2_with fail
      refine (z6.numF (by decide) (H4.out 0 (by decide))).mono ?_
      rintro e W7 ⟨rfl, z7, c7⟩
      obtain ⟨⟨x3, hx3⟩, f3⟩ := z7.ok 3 (by decide)
      have z8 := z7.set (m' := msgAt k1 f t T 1) 3 (.int .u64 (T 0)) (fun _ => rfl) rfl rfl
      have hB8 := (hB.chg c7 (by simpa using hgg)).chg ((Chg.refl [g] W7).set (p := ⟨g, 5, none⟩) (by simp) (.int .u64 (T 0))) (by simpa using hgg)
      go_wp2_with fail
      go_roundw
      case rel => exact ⟨1, by decide, rfl, z8, hB8⟩
      case measure => simp [intOf]
    · rw [show ((1 : Nat) : Int) = 1 from rfl]
      have p0 : wr.cell? ⟨gp, 1, none⟩ = some (.pointer (some ⟨g, 6, none⟩)) := (hB.cell 1).trans rfl
      go_wp2_with fail
      refine (z6.numF (by decide) (H4.out 1 (by decide))).mono ?_
      rintro e W7 ⟨rfl, z7, c7⟩
      obtain ⟨⟨x3, hx3⟩, f3⟩ := z7.ok 4 (by decide)
      have z8 := z7.set (m' := msgAt k1 f t T 2) 4 (.int .u64 (T 1)) (fun _ => rfl) rfl rfl
      have hB8 := (hB.chg c7 (by simpa using hgg)).chg ((Chg.refl [g] W7).set (p := ⟨g, 6, none⟩) (by simp) (.int .u64 (T 1))) (by simpa using hgg)
      go_wp2_with fail
      go_roundw
      case rel => exact ⟨2, by decide, rfl, z8, hB8⟩
      case measure => simp [intOf]
    · rw [show ((2 : Nat) : Int) = 2 from rfl]
      have p0 : wr.cell? ⟨gp, 2, none⟩ = some (.pointer (some ⟨g, 7, none⟩)) := (hB.cell 2).trans rfl
      go_wp2_with fail
      refine (z6.numF (by decide) (H4.out 2 (by decide))).mono ?_
      rintro e W7 ⟨rfl, z7, c7⟩
      obtain ⟨⟨x3, hx3⟩, f3⟩ := z7.ok 5 (by decide)
      have z8 := z7.set (m' := msgAt k1 f t T 3) 5 (.int .u64 (T 2)) (fun _ => rfl) rfl rfl
      have hB8 := (hB.chg c7 (by simpa using hgg)).chg ((Chg.refl [g] W7).set (p := ⟨g, 7, none⟩) (by simp) (.int .u64 (T 2))) (by simpa using hgg)
      go_wp2_with fail
      go_roundw
      case rel => exact ⟨3, by decide, rfl, z8, hB8⟩
      case measure => simp [intOf]
    · rw [show ((3 : Nat) : Int) = 3 from rfl]
      have p0 : wr.cell? ⟨gp, 3, none⟩ = some (.pointer (some ⟨g, 9, none⟩)) := (hB.cell 3).trans rfl
      go_wp2_with fail
      refine (z6.numF (by decide) (H4.out 3 (by decide))).mono ?_
      rintro e W7 ⟨rfl, z7, c7⟩
      obtain ⟨⟨x3, hx3⟩, f3⟩ := z7.ok 7 (by decide)
      have z8 := z7.set (m' := msgAt k1 f t T 4) 7 (.int .u64 (T 3)) (fun _ => rfl) rfl rfl
      have hB8 := (hB.chg c7 (by simpa using hgg)).chg ((Chg.refl [g] W7).set (p := ⟨g, 9, none⟩) (by simp) (.int .u64 (T 3))) (by simpa using hgg)
      go_wp2_with fail
      go_roundw
      case rel => exact ⟨4, by decide, rfl, z8, hB8⟩
      case measure => simp [intOf]
    · rw [show ((4 : Nat) : Int) = 4 from rfl]
      have p0 : wr.cell? ⟨gp, 4, none⟩ = some (.pointer (some ⟨g, 10, none⟩)) := (hB.cell 4).trans rfl
      go_wp2_with fail
      refine (z6.numF (by decide) (H4.out 4 (by decide))).mono ?_
      rintro e W7 ⟨rfl, z7, c7⟩
      obtain ⟨⟨x3, hx3⟩, f3⟩ := z7.ok 8 (by decide)
      have z8 := z7.set (m' := msgAt k1 f t T 5) 8 (.int .u64 (T 4)) (fun _ => rfl) rfl rfl
      have hB8 := (hB.chg c7 (by simpa using hgg)).chg ((Chg.refl [g] W7).set (p := ⟨g, 10, none⟩) (by simp) (.int .u64 (T 4))) (by simpa using hgg)
      go_wp2_with fail
      go_roundw
      case rel => exact ⟨5, by decide, rfl, z8, hB8⟩
      case measure => simp [intOf]
    · rw [show ((5 : Nat) : Int) = 5 from rfl]
      go_upto_region 8 with fail
      replace z6 : MZ w g v (S 8) ⟨k1, f, t, T 0, T 1, T 2, [], T 3, T 4, false, Sn0, Cm.zero, ⟨0, []⟩⟩ (.slice none 0 0) wr := z6
      clear hB
      go_wp2_with fail
      refine (z6.num (by decide) H5.out).mono ?_
      rintro e W8 ⟨rfl, z8, -⟩
      obtain ⟨⟨x9, hx9⟩, f9⟩ := z8.ok 9 (by decide)
      go_upto_region 9 with fail
      have ho : (ov == 1) = ok := by rw [HB.out]; rfl
      replace z8 := z8.set (m' := ⟨k1, f, t, T 0, T 1, T 2, [], T 3, T 4, (ov == 1), Sn0, Cm.zero, ⟨0, []⟩⟩) 9 (.bool (ov == 1)) (fun _ => rfl) rfl rfl
      change Code.wp _ _ _ _ (W8.setCell ⟨g, 11, none⟩ (.bool (ov == 1)))
      generalize W8.setCell _ _ = W9 at *
      rw [ho]
      rw [ho] at z8
      clear ho HB H5 hx9 f9 z6 H4
      go_wp2_with fail
      refine (z8.ents H9.out).mono ?_
      rintro e W10 ⟨rfl, ve, z10⟩
      replace z10 : MZ w g v (S 10) ⟨k1, f, t, T 0, T 1, T 2, l, T 3, T 4, ok, Sn0, Cm.zero, ⟨0, []⟩⟩ ve W10 := z10
      clear z8 H9
      go_upto_region 10 with fail
      refine Rg.regionW Try.checked.mixed 127 27 (by kernel_rfl) [
        (false, (fun x_ _ => x_ = .pointer (some ⟨g, 2, none⟩))),
        (false, (fun x_ _ => x_ = .pointer (some ⟨g, 2, none⟩))),
        (false, (fun x_ _ => x_ = .pointer (some ⟨g, 2, none⟩))),
        (false, (fun x_ _ => x_ = .pointer (some ⟨g, 0, none⟩))),
        (false, (fun x_ _ => x_ = .pointer (some ⟨g, 0, none⟩))),
        (false, (fun x_ _ => x_ = .pointer (some ⟨g, 0, none⟩))),
        (true, (fun x_ _ => x_ = .int .u64 ix)),
        (false, (fun x_ _ => x_ = .pointer (some ⟨g, 0, none⟩))),
        (false, (fun x_ _ => x_ = .pointer (some ⟨g, 0, none⟩))),
        (false, (fun x_ _ => x_ = .pointer (some ⟨g, 0, none⟩))),
        (true, (fun x_ _ => x_ = .int .u64 tr)),
        (false, (fun x_ _ => x_ = .pointer (some ⟨g, 0, none⟩))),
        (false, (fun x_ _ => x_ = .pointer (some ⟨g, 0, none⟩))),
        (false, (fun x_ _ => x_ = .pointer (some ⟨g, 0, none⟩))),
        (true, (fun v W => ∃ (y : Option Addr) (cy : Nat), v = .slice y st.length cy ∧ Enc.BsX W (XA g w) v st)),
        (false, (fun x_ _ => x_ = .pointer (some ⟨g, 2, none⟩))),
        (false, (fun x_ _ => x_ = .pointer (some ⟨g, 12, none⟩))),
        (false, (fun x_ _ => x_ = .pointer (some ⟨g, 12, none⟩))),
        (true, (fun x_ _ => x_ = undef)),
        (false, (fun x_ _ => x_ = .pointer (some ⟨g, 2, none⟩))),
        (false, (fun x_ _ => x_ = .pointer (some ⟨g, 12, none⟩))),
        (false, (fun x_ _ => x_ = .pointer (some ⟨g, 13, none⟩))),
        (true, (fun x_ _ => x_ = undef)),
        (false, (fun x_ _ => x_ = .pointer (some ⟨g, 2, none⟩))),
        (false, (fun x_ _ => x_ = .pointer (some ⟨g, 12, none⟩))),
        (false, (fun x_ _ => x_ = .pointer (some ⟨g, 14, none⟩))),
        (true, (fun x_ _ => x_ = undef))] (by kernel_rfl) (fun i W => MZ w g v (match i with | 0 => S 10 | 1 => S 11 | 2 => S 12 | _ => S 13) (match i with | 0 | 1 | 2 | 3 => ⟨k1, f, t, T 0, T 1, T 2, l, T 3, T 4, ok, Sn0, Cm.zero, ⟨0, []⟩⟩ | 4 => ⟨k1, f, t, T 0, T 1, T 2, l, T 3, T 4, ok, ⟨ix, 0, []⟩, Cm.zero, ⟨0, []⟩⟩ | 5 => ⟨k1, f, t, T 0, T 1, T 2, l, T 3, T 4, ok, ⟨ix, tr, []⟩, Cm.zero, ⟨0, []⟩⟩ | _ => ⟨k1, f, t, T 0, T 1, T 2, l, T 3, T 4, ok, ⟨ix, tr, st⟩, Cm.zero, ⟨0, []⟩⟩) ve W) (fun W W2 => Chg [g] W W2) rfl rfl rfl
        ?st (z10.ext ((Ext.rfl' _).drew')) ?ob ?en
      case st => exact ⟨fun _ _ _ h _ => h, fun _ _ _ h _ => h, fun _ _ _ h _ => h, fun _ _ _ h _ => h, fun _ _ _ h _ => h, fun _ _ _ h _ => h, fun _ _ _ h _ => h, fun _ _ _ h _ => h, fun _ _ _ h _ => h, fun _ _ _ h _ => h, fun _ _ _ h _ => h, fun _ _ _ h _ => h, fun _ _ _ h _ => h, fun _ _ _ h _ => h, fun _ _ _ h hx => by obtain ⟨y, cy, h1, h2⟩ := h; exact ⟨y, cy, h1, h2.chg hx fun k hk _ => .inl (by simpa using hk)⟩, fun _ _ _ h _ => h, fun _ _ _ h _ => h, fun _ _ _ h _ => h, fun _ _ _ h _ => h, fun _ _ _ h _ => h, fun _ _ _ h _ => h, fun _ _ _ h _ => h, fun _ _ _ h _ => h, fun _ _ _ h _ => h, fun _ _ _ h _ => h, fun _ _ _ h _ => h, fun _ _ _ h _ => h, trivial⟩
      case ob =>
        refine ⟨fun i => Rg.at_runW [2] rfl ?_, ?_⟩
        · intro ρ W hR ⟨q2, _⟩
          replace q2 : ρ 2 = .pointer (some ⟨g, 2, none⟩) := q2
          refine ⟨rfl, ?_⟩
          exact Rg.run_ok (v := .pointer (some ⟨g, 2, none⟩)) (by simp [execOp, Rg.ev, go_sem, q2]) ⟨rfl, hR, Chg.refl _ _⟩
        refine ⟨fun i => Rg.at_runW [2] rfl ?_, ?_⟩
        · intro ρ W hR ⟨q2, _⟩
          replace q2 : ρ 2 = .pointer (some ⟨g, 2, none⟩) := q2
          refine ⟨rfl, ?_⟩
          exact Rg.run_ok (v := .pointer (some ⟨g, 2, none⟩)) (by simp [execOp, Rg.ev, go_sem, q2]) ⟨rfl, hR, Chg.refl _ _⟩
        refine ⟨fun i => Rg.at_runW [2] rfl ?_, ?_⟩
        · intro ρ W hR ⟨q2, _⟩
          replace q2 : ρ 2 = .pointer (some ⟨g, 2, none⟩) := q2
          refine ⟨rfl, ?_⟩
          exact Rg.run_ok (v := .pointer (some ⟨g, 2, none⟩)) (by simp [execOp, Rg.ev, go_sem, q2]) ⟨rfl, hR, Chg.refl _ _⟩
        refine ⟨fun i => Rg.at_runW [0] rfl ?_, ?_⟩
        · intro ρ W hR ⟨q0, _⟩
          replace q0 : ρ 0 = .pointer (some ⟨g, 0, none⟩) := q0
          refine ⟨rfl, ?_⟩
          exact Rg.run_ok (v := .pointer (some ⟨g, 0, none⟩)) (by simp [execOp, Rg.ev, go_sem, q0]) ⟨rfl, hR, Chg.refl _ _⟩
        refine ⟨fun i => Rg.at_runW [67] rfl ?_, ?_⟩
        · intro ρ W hR ⟨q67, _⟩
          replace q67 : ρ 67 = .pointer (some ⟨g, 0, none⟩) := q67
          refine ⟨rfl, ?_⟩
          exact Rg.run_ok (v := .pointer (some ⟨g, 0, none⟩)) (by simp [execOp, Rg.ev, go_sem, q67]) ⟨rfl, hR, Chg.refl _ _⟩
        refine ⟨fun i => Rg.at_runW [68] rfl ?_, ?_⟩
        · intro ρ W hR ⟨q68, _⟩
          replace q68 : ρ 68 = .pointer (some ⟨g, 0, none⟩) := q68
          refine ⟨rfl, ?_⟩
          exact Rg.run_ok (v := .pointer (some ⟨g, 0, none⟩)) (by simp [execOp, Rg.ev, go_sem, q68]) ⟨rfl, hR, Chg.refl _ _⟩
        refine ⟨Rg.at_runW [69] rfl ?_, ?_⟩
        · intro ρ W hR ⟨q69, _⟩
          replace q69 : ρ 69 = .pointer (some ⟨g, 0, none⟩) := q69
          refine ⟨rfl, ?_⟩
          have hR' : MZ w g v (S 10) _ ve W := hR
          refine Rg.run_enter (by simp [execOp, Rg.ev, go_sem, q69]; exact ⟨⟨rfl, rfl⟩, rfl⟩) ?_
          refine (hR'.numF (by decide) H10.out).mono ?_
          rintro e w2 ⟨rfl, z, zc⟩
          exact ⟨_, rfl, rfl, z, zc⟩
        refine ⟨fun i => Rg.at_runW [0] rfl ?_, ?_⟩
        · intro ρ W hR ⟨q0, _⟩
          replace q0 : ρ 0 = .pointer (some ⟨g, 0, none⟩) := q0
          refine ⟨rfl, ?_⟩
          exact Rg.run_ok (v := .pointer (some ⟨g, 0, none⟩)) (by simp [execOp, Rg.ev, go_sem, q0]) ⟨rfl, hR, Chg.refl _ _⟩
        refine ⟨fun i => Rg.at_runW [71] rfl ?_, ?_⟩
        · intro ρ W hR ⟨q71, _⟩
          replace q71 : ρ 71 = .pointer (some ⟨g, 0, none⟩) := q71
          refine ⟨rfl, ?_⟩
          exact Rg.run_ok (v := .pointer (some ⟨g, 0, none⟩)) (by simp [execOp, Rg.ev, go_sem, q71]) ⟨rfl, hR, Chg.refl _ _⟩
        refine ⟨fun i => Rg.at_runW [72] rfl ?_, ?_⟩
        · intro ρ W hR ⟨q72, _⟩
          replace q72 : ρ 72 = .pointer (some ⟨g, 0, none⟩) := q72
          refine ⟨rfl, ?_⟩
          exact Rg.run_ok (v := .pointer (some ⟨g, 0, none⟩)) (by simp [execOp, Rg.ev, go_sem, q72]) ⟨rfl, hR, Chg.refl _ _⟩
        refine ⟨Rg.at_runW [73] rfl ?_, ?_⟩
        · intro ρ W hR ⟨q73, _⟩
          replace q73 : ρ 73 = .pointer (some ⟨g, 0, none⟩) := q73
          refine ⟨rfl, ?_⟩
          have hR' : MZ w g v (S 11) _ ve W := hR
          refine Rg.run_enter (by simp [execOp, Rg.ev, go_sem, q73]; exact ⟨⟨rfl, rfl⟩, rfl⟩) ?_
          refine (hR'.numF (by decide) H11.out).mono ?_
          rintro e w2 ⟨rfl, z, zc⟩
          exact ⟨_, rfl, rfl, z, zc⟩
        refine ⟨fun i => Rg.at_runW [0] rfl ?_, ?_⟩
        · intro ρ W hR ⟨q0, _⟩
          replace q0 : ρ 0 = .pointer (some ⟨g, 0, none⟩) := q0
          refine ⟨rfl, ?_⟩
          exact Rg.run_ok (v := .pointer (some ⟨g, 0, none⟩)) (by simp [execOp, Rg.ev, go_sem, q0]) ⟨rfl, hR, Chg.refl _ _⟩
        refine ⟨fun i => Rg.at_runW [75] rfl ?_, ?_⟩
        · intro ρ W hR ⟨q75, _⟩
          replace q75 : ρ 75 = .pointer (some ⟨g, 0, none⟩) := q75
          refine ⟨rfl, ?_⟩
          exact Rg.run_ok (v := .pointer (some ⟨g, 0, none⟩)) (by simp [execOp, Rg.ev, go_sem, q75]) ⟨rfl, hR, Chg.refl _ _⟩
        refine ⟨fun i => Rg.at_runW [76] rfl ?_, ?_⟩
        · intro ρ W hR ⟨q76, _⟩
          replace q76 : ρ 76 = .pointer (some ⟨g, 0, none⟩) := q76
          refine ⟨rfl, ?_⟩
          exact Rg.run_ok (v := .pointer (some ⟨g, 0, none⟩)) (by simp [execOp, Rg.ev, go_sem, q76]) ⟨rfl, hR, Chg.refl _ _⟩
        refine ⟨Rg.at_runW [77] rfl ?_, ?_⟩
        · intro ρ W hR ⟨q77, _⟩
          replace q77 : ρ 77 = .pointer (some ⟨g, 0, none⟩) := q77
          refine ⟨rfl, ?_⟩
          have hR' : MZ w g v (S 12) _ ve W := hR
          refine Rg.run_enter (by simp [execOp, Rg.ev, go_sem, q77]; exact ⟨⟨rfl, rfl⟩, rfl⟩) ?_
          refine (hR'.text H12.out).mono ?_
          rintro e w2 ⟨A, c, rfl, hb, z, zc⟩
          exact ⟨_, rfl, ⟨A, c, rfl, hb⟩, z, zc⟩
        refine ⟨fun i => Rg.at_runW [64] rfl ?_, ?_⟩
        · intro ρ W hR ⟨q64, _⟩
          replace q64 : ρ 64 = .pointer (some ⟨g, 2, none⟩) := q64
          refine ⟨rfl, ?_⟩
          exact Rg.run_ok (v := .pointer (some ⟨g, 2, none⟩)) (by simp [execOp, Rg.ev, go_sem, q64]) ⟨rfl, hR, Chg.refl _ _⟩
        refine ⟨fun i => Rg.at_runW [79] rfl ?_, ?_⟩
        · intro ρ W hR ⟨q79, _⟩
          replace q79 : ρ 79 = .pointer (some ⟨g, 2, none⟩) := q79
          refine ⟨rfl, ?_⟩
          exact Rg.run_ok (v := .pointer (some ⟨g, 12, none⟩)) (by simp [execOp, Rg.ev, go_sem, q79]) ⟨rfl, hR, Chg.refl _ _⟩
        refine ⟨fun i => Rg.at_runW [80] rfl ?_, ?_⟩
        · intro ρ W hR ⟨q80, _⟩
          replace q80 : ρ 80 = .pointer (some ⟨g, 12, none⟩) := q80
          refine ⟨rfl, ?_⟩
          exact Rg.run_ok (v := .pointer (some ⟨g, 12, none⟩)) (by simp [execOp, Rg.ev, go_sem, q80]) ⟨rfl, hR, Chg.refl _ _⟩
        refine ⟨Rg.at_runW [81, 70] rfl ?_, ?_⟩
        · intro ρ W hR ⟨q81, q70, _⟩
          replace q81 : ρ 81 = .pointer (some ⟨g, 12, none⟩) := q81
          replace q70 : ρ 70 = .int .u64 ix := q70
          refine ⟨rfl, ?_⟩
          have hR' : MZ w g v (S 13) _ ve W := hR
          obtain ⟨⟨x_, hx_⟩, hf_⟩ := hR'.ok 10 (by decide)
          exact Rg.run_skip (W' := W.setCell ⟨g, 12, none⟩ (.int .u64 ix)) (by simp [execOp, Rg.ev, go_sem, q81, q70, hx_, hf_]) ⟨rfl, hR'.set 10 _ (fun _ => rfl) rfl rfl, (Chg.refl [g] W).set (by simp) _⟩
        refine ⟨fun i => Rg.at_runW [65] rfl ?_, ?_⟩
        · intro ρ W hR ⟨q65, _⟩
          replace q65 : ρ 65 = .pointer (some ⟨g, 2, none⟩) := q65
          refine ⟨rfl, ?_⟩
          exact Rg.run_ok (v := .pointer (some ⟨g, 2, none⟩)) (by simp [execOp, Rg.ev, go_sem, q65]) ⟨rfl, hR, Chg.refl _ _⟩
        refine ⟨fun i => Rg.at_runW [82] rfl ?_, ?_⟩
        · intro ρ W hR ⟨q82, _⟩
          replace q82 : ρ 82 = .pointer (some ⟨g, 2, none⟩) := q82
          refine ⟨rfl, ?_⟩
          exact Rg.run_ok (v := .pointer (some ⟨g, 12, none⟩)) (by simp [execOp, Rg.ev, go_sem, q82]) ⟨rfl, hR, Chg.refl _ _⟩
        refine ⟨fun i => Rg.at_runW [83] rfl ?_, ?_⟩
        · intro ρ W hR ⟨q83, _⟩
          replace q83 : ρ 83 = .pointer (some ⟨g, 12, none⟩) := q83
          refine ⟨rfl, ?_⟩
          exact Rg.run_ok (v := .pointer (some ⟨g, 13, none⟩)) (by simp [execOp, Rg.ev, go_sem, q83]) ⟨rfl, hR, Chg.refl _ _⟩
        refine ⟨Rg.at_runW [84, 74] rfl ?_, ?_⟩
        · intro ρ W hR ⟨q84, q74, _⟩
          replace q84 : ρ 84 = .pointer (some ⟨g, 13, none⟩) := q84
          replace q74 : ρ 74 = .int .u64 tr := q74
          refine ⟨rfl, ?_⟩
          have hR' : MZ w g v (S 13) _ ve W := hR
          obtain ⟨⟨x_, hx_⟩, hf_⟩ := hR'.ok 11 (by decide)
          exact Rg.run_skip (W' := W.setCell ⟨g, 13, none⟩ (.int .u64 tr)) (by simp [execOp, Rg.ev, go_sem, q84, q74, hx_, hf_]) ⟨rfl, hR'.set 11 _ (fun _ => rfl) rfl rfl, (Chg.refl [g] W).set (by simp) _⟩
        refine ⟨fun i => Rg.at_runW [66] rfl ?_, ?_⟩
        · intro ρ W hR ⟨q66, _⟩
          replace q66 : ρ 66 = .pointer (some ⟨g, 2, none⟩) := q66
          refine ⟨rfl, ?_⟩
          exact Rg.run_ok (v := .pointer (some ⟨g, 2, none⟩)) (by simp [execOp, Rg.ev, go_sem, q66]) ⟨rfl, hR, Chg.refl _ _⟩
        refine ⟨fun i => Rg.at_runW [85] rfl ?_, ?_⟩
        · intro ρ W hR ⟨q85, _⟩
          replace q85 : ρ 85 = .pointer (some ⟨g, 2, none⟩) := q85
          refine ⟨rfl, ?_⟩
          exact Rg.run_ok (v := .pointer (some ⟨g, 12, none⟩)) (by simp [execOp, Rg.ev, go_sem, q85]) ⟨rfl, hR, Chg.refl _ _⟩
        refine ⟨fun i => Rg.at_runW [86] rfl ?_, ?_⟩
        · intro ρ W hR ⟨q86, _⟩
          replace q86 : ρ 86 = .pointer (some ⟨g, 12, none⟩) := q86
          refine ⟨rfl, ?_⟩
          exact Rg.run_ok (v := .pointer (some ⟨g, 14, none⟩)) (by simp [execOp, Rg.ev, go_sem, q86]) ⟨rfl, hR, Chg.refl _ _⟩
        refine ⟨Rg.at_runW [87, 78] rfl ?_, ?_⟩
        · intro ρ W hR ⟨q87, q78, _⟩
          replace q87 : ρ 87 = .pointer (some ⟨g, 14, none⟩) := q87
          replace q78 : (fun v W => ∃ (y : Option Addr) (cy : Nat), v = .slice y st.length cy ∧ Enc.BsX W (XA g w) v st) (ρ 78) W := q78
          refine ⟨rfl, ?_⟩
          have hR' : MZ w g v (S 13) _ ve W := hR
          obtain ⟨⟨x_, hx_⟩, hf_⟩ := hR'.ok 12 (by decide)
          obtain ⟨y, cy, hy, hb⟩ := q78
          exact Rg.run_skip (W' := W.setCell ⟨g, 14, none⟩ (.slice y st.length cy)) (by simp [execOp, Rg.ev, go_sem, q87, hy, hx_, hf_]) ⟨rfl, hR'.setS (by rw [← hy]; exact hb), (Chg.refl [g] W).set (by simp) _⟩
        trivial
      case en =>
        intro tm W hR hsz hk
        rw [Rg.fin_eq (ds := [64, 65, 66, 67, 68, 69, 70, 71, 72, 73, 74, 75, 76, 77, 78, 79, 80, 81, 82, 83, 84, 85, 86, 87]) rfl rfl rfl hsz hk]
        have k64 : tm.getD 64 undef = .pointer (some ⟨g, 2, none⟩) := hk 64
        have k65 : tm.getD 65 undef = .pointer (some ⟨g, 2, none⟩) := hk 65
        have k66 : tm.getD 66 undef = .pointer (some ⟨g, 2, none⟩) := hk 66
        have k67 : tm.getD 67 undef = .pointer (some ⟨g, 0, none⟩) := hk 67
        have k68 : tm.getD 68 undef = .pointer (some ⟨g, 0, none⟩) := hk 68
        have k69 : tm.getD 69 undef = .pointer (some ⟨g, 0, none⟩) := hk 69
        have k70 : tm.getD 70 undef = .int .u64 ix := hk 70
        have k71 : tm.getD 71 undef = .pointer (some ⟨g, 0, none⟩) := hk 71
        have k72 : tm.getD 72 undef = .pointer (some ⟨g, 0, none⟩) := hk 72
        have k73 : tm.getD 73 undef = .pointer (some ⟨g, 0, none⟩) := hk 73
        have k74 : tm.getD 74 undef = .int .u64 tr := hk 74
        have k75 : tm.getD 75 undef = .pointer (some ⟨g, 0, none⟩) := hk 75
        have k76 : tm.getD 76 undef = .pointer (some ⟨g, 0, none⟩) := hk 76
        have k77 : tm.getD 77 undef = .pointer (some ⟨g, 0, none⟩) := hk 77
        have k78 : (fun v W => ∃ (y : Option Addr) (cy : Nat), v = .slice y st.length cy ∧ Enc.BsX W (XA g w) v st) (tm.getD 78 undef) W := hk 78
        have k79 : tm.getD 79 undef = .pointer (some ⟨g, 2, none⟩) := hk 79
        have k80 : tm.getD 80 undef = .pointer (some ⟨g, 12, none⟩) := hk 80
        have k81 : tm.getD 81 undef = .pointer (some ⟨g, 12, none⟩) := hk 81
        have k82 : tm.getD 82 undef = .pointer (some ⟨g, 2, none⟩) := hk 82
        have k83 : tm.getD 83 undef = .pointer (some ⟨g, 12, none⟩) := hk 83
        have k84 : tm.getD 84 undef = .pointer (some ⟨g, 13, none⟩) := hk 84
        have k85 : tm.getD 85 undef = .pointer (some ⟨g, 2, none⟩) := hk 85
        have k86 : tm.getD 86 undef = .pointer (some ⟨g, 12, none⟩) := hk 86
        have k87 : tm.getD 87 undef = .pointer (some ⟨g, 14, none⟩) := hk 87
        clear hk hsz
        simp only [Rg.putAll, List.setIfInBounds_toArray, List.set_cons_zero, List.set_cons_succ, k64, k65, k66, k67, k68, k69, k70, k71, k72, k73, k74, k75, k76, k77, k79, k80, k81, k82, k83, k84, k85, k86, k87]
        clear k64
        clear k65
        clear k66
        clear k67
        clear k68
        clear k69
        clear k70
        clear k71
        clear k72
        clear k73
        clear k74
        clear k75
        clear k76
        clear k77
        generalize tm.getD 78 undef = u78 at *
        clear k79
        clear k80
        clear k81
        clear k82
        clear k83
        clear k84
        clear k85
        clear k86
        clear k87
        refine Rg.nil_list ?_
        replace hR : MZ w g v (S 13) ⟨k1, f, t, T 0, T 1, T 2, l, T 3, T 4, ok, ⟨ix, tr, st⟩, Cm.zero, ⟨0, []⟩⟩ ve W := hR
        clear z10 H10 H11 H12
        go_wp2_with fail
        refine (hR.cmd H13.out rfl).mono ?_
        rintro e W12 ⟨rfl, z12⟩
        replace z12 : MZ w g v (S 14) ⟨k1, f, t, T 0, T 1, T 2, l, T 3, T 4, ok, ⟨ix, tr, st⟩, c, ⟨0, []⟩⟩ ve W12 := z12
        clear hR H13
        go_upto_region 12 with fail
        go_wp2_with fail
        refine (z12.num (by decide) H14.out).mono ?_
        rintro e W13 ⟨rfl, z13, -⟩
        obtain ⟨⟨x9, hx9⟩, f9⟩ := z13.ok 19 (by decide)
        go_upto_region 13 with fail
        replace z13 := z13.set (m' := ⟨k1, f, t, T 0, T 1, T 2, l, T 3, T 4, ok, ⟨ix, tr, st⟩, c, ⟨er, []⟩⟩) 19 (.int .i64 er) (fun _ => rfl) rfl rfl
        change Code.wp _ _ _ _ (W13.setCell ⟨g, 21, none⟩ (.int .i64 er))
        generalize W13.setCell _ _ = W14 at *
        clear hx9 f9 z12 H14
        go_wp2_with fail
        refine (z13.text H15.out).mono ?_
        rintro e W15 ⟨Ax, cx, rfl, hbx, z15, -⟩
        have hs := run_str (P := Try.prog) hbx.1 Try.underlying24 Try.underlying5 Try.underlying9
        obtain ⟨⟨x9, hx9⟩, f9⟩ := z15.ok 20 (by decide)
        go_upto_region 14 with fail
        replace z15 := z15.set (m' := ⟨k1, f, t, T 0, T 1, T 2, l, T 3, T 4, ok, ⟨ix, tr, st⟩, c, ⟨er, tx⟩⟩) 20 (str tx) (fun _ => rfl) rfl rfl
        change Code.wp _ _ _ _ (W15.setCell ⟨g, 22, none⟩ (str tx))
        generalize W15.setCell _ _ = W16 at *
        clear hx9 f9 z13 H15 hs hbx
        obtain ⟨q1, f1⟩ := z15.c1
        obtain ⟨A0, c0, q0⟩ := z15.c0
        generalize S 16 = s16 at *
        obtain ⟨b16, e16⟩ := s16
        simp only at q1 q0
        by_cases he : e16 = 0
        · subst he
          by_cases hl : 0 < b16.length
          · have hl' : (0 : Int) < b16.length := by omega
            go_wp2_with fail
            go_end0
            refine ⟨rfl, ve, ?_⟩
            rw [HA.out, decide_eq_true hl, pform_yes]
            exact z15.err 2
          · have hl' : ¬ (0 : Int) < b16.length := by omega
            go_wp2_with fail
            go_end0
            refine ⟨rfl, ve, ?_⟩
            rw [HA.out, decide_eq_false hl, pform_no]
            exact z15
        · go_wp2_with fail
          go_end0
          refine ⟨rfl, ve, ?_⟩
          rw [HA.out, pform_bad _ _ he]
          exact z15
end Go.Proofs.Ytlblgopfdadalaa
namespace Go.Proofs.Ytlblgopfdadalaa
set_option linter.unusedVariables false
set_option linter.unusedSimpArgs false
set_option linter.unnecessarySimpa false
set_option maxRecDepth 100000
open Go.RowKit
theorem Blk.row {W : World} {g : Nat} {T : TypeId} {old : Array Value} (h : Blk W g T old) (cs : Array Value) : Blk (W.setRow g cs) g T cs := setRow_heap W g old cs T (0, 0) h
theorem Chg.row {S : List Nat} {W0 W : World} {g : Nat} (h : Chg S W0 W) (hg : g ∈ S) (cs : Array Value) : Chg S W0 (W.setRow g cs) :=
  h.trans ⟨rfl, rfl, rfl, by simp, fun k _ hn => setRow_other W g k cs fun e => hn (e ▸ hg)⟩
section
variable {P : Program} {ops : Array Oper} {rest : List Oper} {o : Oper} {a : Act} {w : World} {Q : Exit → Act → World → Prop}
/-- a whole variable is read: no cell by itself -/
theorem ld_row (hw : Region.wanted o (yielded ops a.tmps) = true) (ty : TypeId) (x : Operand) (ho : o.op = .load ty x) (g : Nat) (hx : a.eval x = .pointer (some ⟨g, 0, none⟩)) (t : TypeId) (cs : Array Value) (d : TypeDesc) (hg : Blk w g t cs)
    (hu : P.underlying ty = some d) (hd : (match d with | .struct _ | .array _ _ => true | _ => false) = true) (hi : (P.info? ty).map (·.size) = some cs.size) (h : wpList P ops Q rest (a.put o.dst (.agg cs)) w) : wpList P ops Q (o :: rest) a w :=
  wpList_step fun K hK => by rw [if_pos hw]; exact wp_load_row ty x ho g hx t cs (0, 0) d hg hu hd hi (hK _ _ h)
/-- a whole variable is written -/
theorem st_row (hw : Region.wanted o (yielded ops a.tmps) = true) (ty : TypeId) (x y : Operand) (ho : o.op = .store ty x y) (g : Nat) (cells : Array Value) (hx : a.eval x = .pointer (some ⟨g, 0, none⟩)) (hy : a.eval y = .agg cells)
    (t : TypeId) (old : Array Value) (hg : Blk w g t old) (hi : (P.info? ty).map (·.size) = some cells.size) (hold : old.size = cells.size) (h1 : cells.all (·.oneCell') = true)
    (h : wpList P ops Q rest (a.put o.dst undef) (w.setRow g cells)) : wpList P ops Q (o :: rest) a w :=
  wpList_step fun K hK => by rw [if_pos hw]; exact wp_store_row ty x y ho g cells hx hy t old hg hi hold h1 (hK _ _ h)
/-- a whole variable is written, and the walk is stopped: the world behind it is any world that has it -/
theorem st_stop (hw : Region.wanted o (yielded ops a.tmps) = true) (ty : TypeId) (x y : Operand) (ho : o.op = .store ty x y) (g : Nat) (cells : Array Value) (hx : a.eval x = .pointer (some ⟨g, 0, none⟩)) (hy : a.eval y = .agg cells)
    (t : TypeId) (old : Array Value) (hg : Blk w g t old) (hi : (P.info? ty).map (·.size) = some cells.size) (hold : old.size = cells.size) (h1 : cells.all (·.oneCell') = true)
    (h : Stop (∀ W : World, Blk W g t cells → Chg [g] w W → wpList P ops Q rest (a.put o.dst undef) W)) : wpList P ops Q (o :: rest) a w :=
  st_row hw ty x y ho g cells hx hy t old hg hi hold h1 (h _ (hg.row cells) ((Chg.refl [g] w).row (by simp) cells))
end
end Go.Proofs.Ytlblgopfdadalaa
