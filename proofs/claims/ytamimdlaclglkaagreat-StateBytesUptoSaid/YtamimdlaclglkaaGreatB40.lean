/- A part of the proof of 'StateBytes'. -/
import Derived.Test.YtamimdlaclglkaaGreatB36
import Derived.Test.YtamimdlaclglkaaGreatB5
import Derived.Test.YtamimdlaclglkaaGreatB26
import Derived.Test.YtamimdlaclglkaaGreatB8
import Derived.Test.YtamimdlaclglkaaGreatB12
import Derived.ArgAppend
import Derived.Deep.DeepCutAuto
namespace Go.Proofs.YtamimdlaclglkaaGreat
set_option linter.unusedVariables false
set_option linter.unusedSimpArgs false
set_option linter.unnecessarySimpa false
set_option maxRecDepth 100000
open Go.RowKit
theorem dPut2 (x : Value) (b : Bytes) (v : Int) (w : World) (hv : 0 ≤ v ∧ v ≤ 18446744073709551615) (hl : b.length ≤ 100000000000000) (hr : Bs w x b) :
    Calls Tryz.prog 51 #[x, .int .u64 v, .int .i64 2] w fun e w' => RetNw w w' e (b ++ be 2 v.toNat) := (rput_b x b v 2 w hv (by omega) (by omega) hr).mono fun _ _ h => h.eq (by simp [oput])
theorem dPut8 (x : Value) (b : Bytes) (v : Int) (w : World) (hv : 0 ≤ v ∧ v ≤ 18446744073709551615) (hl : b.length ≤ 100000000000000) (hr : Bs w x b) :
    Calls Tryz.prog 51 #[x, .int .u64 v, .int .i64 8] w fun e w' => RetNw w w' e (b ++ be 8 v.toNat) := (rput_b x b v 8 w hv (by omega) (by omega) hr).mono fun _ _ h => h.eq (by simp [oput])
theorem dPutB (x y : Value) (b t : Bytes) (w : World) (hl : b.length + t.length ≤ 100000000000000) (hx : Bs w x b) (hy : Bs w y t) :
    Calls Tryz.prog 52 #[x, y] w fun e w' => RetNw w w' e (b ++ txB t) := (rputBytes_b x y b t w (by omega) hx hy).mono fun _ _ h => h.eq (by simp [oputBytes, txB])
theorem lit8 (w : World) (b : UInt8) (g : Nat) (hg : w.heap.size = g) : Bs (w.alloc (.cells #[.int .u8 b.toNat] 5)) (.slice (some ⟨g, 0, none⟩) 1 1) [b] := Bs.lit 5 [b] g hg (by simp [maxLen]) (0, 0)
theorem be1_byte {v : Int} (h0 : 0 ≤ v) (h1 : v ≤ 255) : ∃ b : UInt8, be 1 v.toNat = [b] ∧ ((b.toNat : Nat) : Int) = v := by
  refine ⟨UInt8.ofNat (v.toNat / 2 ^ (8 * 0)), rfl, ?_⟩
  rw [UInt8.toNat_ofNat']
  simp
  omega
theorem own_chgN {w0 W W' : World} {S : List Nat} {v : Value} {l : Bytes} (h : Nw w0 W v l) (hc : Chg S W W') (hS : ∀ k ∈ S, k < w0.heap.size) : Nw w0 W' v l :=
  own_chg h hc fun k hk hm => by have h1 := (h.lt k hk).1; have h2 := hS k hm; omega
/-- append of one byte where there is room: in place, and what it returns is known -/
theorem run_app1A (w W : World) {A : Option Addr} {c : Nat} {b : Bytes} {x : UInt8} {y : Value} (h : Nw w W (.slice A b.length c) b) (hroom : b.length + 1 ≤ c) (hb0 : 0 < b.length) (hbl : b.length ≤ 100000000000000) (hy : Bs W y [x]) (ty : TypeId) :
    ∃ w', (Builtin.append_ #[22, 22] ty #[.slice A b.length c, y]).run Tryz.prog W = .ok (.slice A (b.length + 1) c) w' ∧ Nw w w' (.slice A (b.length + 1) c) (b ++ [x]) ∧ Chg (Value.slice A b.length c).ownBlock.toList W w' := by
  obtain ⟨i0, hi, hz0, hz1, hz2⟩ := info_parts ti5
  obtain ⟨B, cy, rfl, h1, h2, h3⟩ := hy
  obtain ⟨by_, rfl, hb, hc⟩ := h3.2 (by simp)
  obtain ⟨v', w', hrun, hown, hg, -⟩ := run_append_any (P := Tryz.prog) W w.heap.size 22 ty 5 i0 (.int .u8 0) 1 1 Tryz.underlying22 hi hz0 hz1 hz2 rfl (by decide) (.slice A b.length c) b.length (bv b) h W.heap.size (some by_) 1 cy (bv [x]) h3 (bv_one [x]) (by simp [maxLen]; omega) (by omega) (by
    rcases h.2 with ⟨-, h4⟩ | ⟨g, cap, cur, hv, hg, hh, -⟩
    · omega
    · have := Blk.lt (t := 5) hh; omega)
  rcases h.2 with ⟨-, h4⟩ | ⟨g, cap, cur, hv, hgw, hh, e3, e4, e5, e6⟩
  · omega
  · simp only [Value.slice.injEq, true_and] at hv
    obtain ⟨rfl, rfl⟩ := hv
    have hB : Blk W g 5 cur := hh
    have hroomc := run_append_room_cells (P := Tryz.prog) W 22 ty 5 i0 Tryz.underlying22 hi g 0 b.length c by_ 1 cy (bv [x]) (by rw [hz1]; rfl) hc (bv_one [x]) hroom (fun j hj => by
      rw [hB.cell, hz1]
      have : j = 0 := by simpa [bv] using hj
      subst this
      simp
      omega) (fun j hj => hB.frozen _)
    rw [hroomc] at hrun
    injection hrun with e1 e2
    subst e1 e2
    refine ⟨_, hroomc, ?_, hg.chg'⟩
    unfold Nw
    rw [bv_append, List.length_append]
    exact hown
/-- .. where there is no room: in new memory -/
theorem run_app1B (w W : World) {A : Option Addr} {c : Nat} {b : Bytes} {x : UInt8} {y : Value} (h : Nw w W (.slice A b.length c) b) (hroom : ¬ b.length + 1 ≤ c) (hb0 : 0 < b.length) (hbl : b.length ≤ 100000000000000) (hy : Bs W y [x]) (ty : TypeId) :
    ∃ v' w', (Builtin.append_ #[22, 22] ty #[.slice A b.length c, y]).run Tryz.prog W = .ok v' w' ∧ Nw W w' v' (b ++ [x]) ∧ Ext W w' := by
  obtain ⟨i0, hi, hz0, hz1, hz2⟩ := info_parts ti5
  obtain ⟨B, cy, rfl, h1, h2, h3⟩ := hy
  obtain ⟨by_, rfl, hb, hc⟩ := h3.2 (by simp)
  have hr := Reads.of_own h
  obtain ⟨ad, rfl, -, hcell⟩ := hr.2 hb0
  obtain ⟨v', w', hrun, hown, hg⟩ := run_append_arg_grows (P := Tryz.prog) W 22 ty 5 i0 (.int .u8 0) 1 1 Tryz.underlying22 hi hz0 hz1 hz2 rfl (by decide) ad b.length c (bv b) hr.1 hcell by_ 1 cy (bv [x]) h3.1 hc (by omega) (by simp [maxLen]; omega) (by omega)
  refine ⟨v', w', hrun, ?_, ⟨hg.os, hg.tape, hg.output, hg.size, fun k hk => hg.block k hk (by simp)⟩⟩
  unfold Nw
  rw [bv_append, List.length_append]
  exact hown
set_option maxHeartbeats 12800000 in
theorem rputState_b (s : St) (cs : List Value) (w : World) (hs : stE.rep w noneAt cs s) (hp : PutOk s) (hcl : ∀ x ∈ s.sess, x.client ≤ 255) (hel : ∀ x ∈ s.sess, ∀ d ∈ x.done, d.an.err ≤ 255) (hll : s.links.length ≤ 1000) (hsl : s.sess.length ≤ 1000) (hdl : ∀ x ∈ s.sess, x.done.length ≤ 255) :
    Calls Tryz.prog 20 #[.agg cs.toArray] w fun e w' => RetNw w w' e (stB s) := by
  obtain ⟨vl, vs, rfl, u1, u2, s3, s4⟩ := st_rep.1 hs
  obtain ⟨Al, cl, rfl, -, -⟩ := s3.form
  obtain ⟨As, ca, rfl, -, -⟩ := s4.form
  have hB := Blk.new w 28 (stcells s (.slice Al s.links.length cl) (.slice As s.sess.length ca)).toArray
  have hx0 : Ext w (w.alloc (.cells (stcells s (.slice Al s.links.length cl) (.slice As s.sess.length ca)).toArray 28)) := (Ext.rfl' w).alloc' _
  obtain ⟨g, hg⟩ : ∃ g, w.heap.size = g := ⟨_, rfl⟩
  rw [hg] at hB
  have hgw : w.heap.size ≤ g := by omega
  have hpl := hp.len
  rw [stB_len] at hpl
  have HWL : IntKind.u64.wrap (s.links.length : Int) = s.links.length := IntWalk.u64_in _ ⟨by omega, by omega⟩
  have HWS : IntKind.u64.wrap (s.sess.length : Int) = s.sess.length := IntWalk.u64_in _ ⟨by omega, by omega⟩
  go_enter Tryz.func20, Tryz.ntmps20
  go_upto_region 1 with fail
  generalize (w.alloc (.cells (stcells s (.slice Al s.links.length cl) (.slice As s.sess.length ca)).toArray 28)) = w1 at *
  try rw [hg]
  clear hg hs
  refine Rg.regionT Tryz.checked.mixed 123 6 (by kernel_rfl) [
    (fun x_ _ => x_ = .pointer (some ⟨g, 0, none⟩)),
    (fun x_ _ => x_ = .int .u64 s.now),
    (fun v W => Bs W v (be 8 s.now.toNat)),
    (fun x_ _ => x_ = .pointer (some ⟨g, 1, none⟩)),
    (fun x_ _ => x_ = .int .u64 s.count),
    (fun v W => Bs W v (be 8 s.now.toNat ++ be 8 s.count.toNat))] (fun W => Ext w1 W) Ext rfl rfl rfl
    ?st ((Ext.rfl' w1).drew') ?ob ?en
  case st => exact ⟨fun _ _ _ h _ => h, fun _ _ _ h _ => h, fun _ _ _ h hx => h.ext hx, fun _ _ _ h _ => h, fun _ _ _ h _ => h, fun _ _ _ h hx => h.ext hx, trivial⟩
  case ob =>
    refine ⟨Rg.at_run [1] rfl ?_, ?_⟩
    · intro ρ W hR ⟨q1, _⟩
      replace q1 : ρ 1 = .pointer (some ⟨g, 0, none⟩) := q1
      refine ⟨rfl, ?_⟩
      exact Rg.run_ok (v := .pointer (some ⟨g, 0, none⟩)) (by simp [execOp, Rg.ev, go_sem, q1]) ⟨rfl, hR, Ext.rfl' _⟩
    refine ⟨Rg.at_run [9] rfl ?_, ?_⟩
    · intro ρ W hR ⟨q9, _⟩
      replace q9 : ρ 9 = .pointer (some ⟨g, 0, none⟩) := q9
      refine ⟨rfl, ?_⟩
      have c0_ : W.cell? ⟨g, 0, none⟩ = some (.int .u64 s.now) := ((hB.ext hR).cell 0).trans rfl
      exact Rg.run_ok (v := .int .u64 s.now) (by simp [execOp, Rg.ev, go_sem, q9, c0_]) ⟨rfl, hR, Ext.rfl' _⟩
    refine ⟨Rg.at_run [10] rfl ?_, ?_⟩
    · intro ρ W hR ⟨q10, _⟩
      replace q10 : ρ 10 = .int .u64 s.now := q10
      refine ⟨rfl, ?_⟩
      have h9 := dPut8 (.slice none 0 0) [] s.now W u1 (by simp) (Bs.nil W)
      rw [List.nil_append] at h9
      refine Rg.run_enter (by simp [execOp, Rg.ev, go_sem, q10]; exact ⟨⟨rfl, rfl⟩, rfl⟩) ?_
      refine (h9).mono ?_
      rintro e w2 ⟨m_, Am, cm, hm_, rfl, hz, hxx⟩
      have hm' := hm_.out
      subst hm'
      exact ⟨_, rfl, hz.bs, hR.trans' hxx, hxx⟩
    refine ⟨Rg.at_run [1] rfl ?_, ?_⟩
    · intro ρ W hR ⟨q1, _⟩
      replace q1 : ρ 1 = .pointer (some ⟨g, 0, none⟩) := q1
      refine ⟨rfl, ?_⟩
      exact Rg.run_ok (v := .pointer (some ⟨g, 1, none⟩)) (by simp [execOp, Rg.ev, go_sem, q1]) ⟨rfl, hR, Ext.rfl' _⟩
    refine ⟨Rg.at_run [12] rfl ?_, ?_⟩
    · intro ρ W hR ⟨q12, _⟩
      replace q12 : ρ 12 = .pointer (some ⟨g, 1, none⟩) := q12
      refine ⟨rfl, ?_⟩
      have c1_ : W.cell? ⟨g, 1, none⟩ = some (.int .u64 s.count) := ((hB.ext hR).cell 1).trans rfl
      exact Rg.run_ok (v := .int .u64 s.count) (by simp [execOp, Rg.ev, go_sem, q12, c1_]) ⟨rfl, hR, Ext.rfl' _⟩
    refine ⟨Rg.at_run [11, 13] rfl ?_, ?_⟩
    · intro ρ W hR ⟨q11, q13, _⟩
      replace q11 : (fun v W => Bs W v (be 8 s.now.toNat)) (ρ 11) W := q11
      replace q13 : ρ 13 = .int .u64 s.count := q13
      refine ⟨rfl, ?_⟩
      refine Rg.run_enter (by simp [execOp, Rg.ev, go_sem, q13]; exact ⟨⟨rfl, rfl⟩, rfl⟩) ?_
      refine (dPut8 _ (be 8 s.now.toNat) s.count W u2 (by simp [be_length]) q11).mono ?_
      rintro e w2 ⟨m_, Am, cm, hm_, rfl, hz, hxx⟩
      have hm' := hm_.out
      subst hm'
      exact ⟨_, rfl, hz.bs, hR.trans' hxx, hxx⟩
    trivial
  case en =>
    intro tm W hR hsz hk
    rw [Rg.fin_eq (ds := [9, 10, 11, 12, 13, 14]) rfl rfl rfl hsz hk]
    have k9 : tm.getD 9 undef = .pointer (some ⟨g, 0, none⟩) := hk 9
    have k10 : tm.getD 10 undef = .int .u64 s.now := hk 10
    have k11 : (fun v W => Bs W v (be 8 s.now.toNat)) (tm.getD 11 undef) W := hk 11
    have k12 : tm.getD 12 undef = .pointer (some ⟨g, 1, none⟩) := hk 12
    have k13 : tm.getD 13 undef = .int .u64 s.count := hk 13
    have k14 : (fun v W => Bs W v (be 8 s.now.toNat ++ be 8 s.count.toNat)) (tm.getD 14 undef) W := hk 14
    clear hk hsz
    simp only [Rg.putAll, List.setIfInBounds_toArray, List.set_cons_zero, List.set_cons_succ, k9, k10, k12, k13]
    clear k9
    clear k10
    generalize tm.getD 11 undef = u11 at *
    clear k12
    clear k13
    generalize tm.getD 14 undef = u14 at *
    clear k11
    obtain ⟨A0, c0, rfl, -, -, -⟩ := id k14
    replace hx0 := hx0.trans' hR
    replace hB := hB.ext hR
    have b2 := (hB.cell 2).trans rfl
    go_wp2_with fail
    refine (dPut2 _ (be 8 s.now.toNat ++ be 8 s.count.toNat) s.links.length W ⟨by omega, by omega⟩ (by simp [be_length]) k14).mono ?_
    rintro e w2 ⟨bz, Az, cz, hm_, rfl, hz, hxx⟩
    have HBZ : Hid (bz = stH s) := hide (by rw [hm_.out]; rfl)
    have hnz := hz.trans hx0
    replace hx0 := hx0.trans' hxx
    replace hB := hB.ext hxx
    clear b2 hm_ hz hxx k14 hR
    go_wp2_with fail
    go_loopw [4, 3] (fun i vb wr => ∃ (m : Nat) (b : Bytes) (A : Option Addr) (c : Nat), m ≤ s.links.length ∧ i = .int .i64 m ∧ vb = .slice A b.length c ∧ Nw w wr (.slice A b.length c) b ∧ Hid (b = stH s ++ ((s.links.take m).map lnB).flatten) ∧ Ext w wr ∧ Blk wr g 28 (stcells s (.slice Al s.links.length cl) (.slice As s.sess.length ca)).toArray) (fun i _ _ => (s.links.length - intOf i).toNat)
    case atStart => exact ⟨0, bz, Az, cz, by omega, rfl, rfl, hnz, hide (by rw [HBZ.out]; simp), hx0, hB⟩
    case round =>
      clear hnz hB hx0
      obtain ⟨m, b, A, c, hm, rfl, rfl, hb, hbe, hxr, hBr⟩ := hrel
      have bb2 := (hBr.cell 2).trans rfl
      by_cases hlt : m < s.links.length
      · obtain ⟨ad, x, rfl, hxk, hbk, p0, p1, p2, p3, hxn, hxu, ht⟩ := ln_at (s3.ext hxr) (k := m) hlt
        have hbl : Hid (b.length + (lnB x).length ≤ 100000000000000) := hide (by
          rw [hbe.out, List.length_append]
          have := bflat_mem lnB hxk.out
          simp only [stH, List.length_append, be_length]
          omega)
        have hxl := hbl.out
        rw [lnB_len] at hxl
        have HBE : Hid (b ++ lnB x = stH s ++ ((s.links.take (m + 1)).map lnB).flatten) := hide (by rw [bflat_snoc lnB hxk.out, hbe.out, List.append_assoc])
        have hb1 : (0 : Int) ≤ m := by omega
        have hb2 : (m : Int) < s.links.length := by omega
        have HLT := hide hlt
        clear hlt hbe
        have hE := Blk.new wr 53 (lcells x).toArray
        obtain ⟨g5, hg5⟩ : ∃ g_, wr.heap.size = g_ := ⟨_, rfl⟩
        rw [hg5] at hE
        have hz : Ext wr (wr.alloc (.cells (lcells x).toArray 53)) := (Ext.rfl' _).alloc' _
        go_upto_region 7 with fail
        try rw [hg5]
        clear hg5
        generalize (wr.alloc (.cells (lcells x).toArray 53)) = W4 at *
        replace hb := (own_ext hb hz : Nw w W4 _ _)
        replace hxr := hxr.trans' hz
        replace hBr := hBr.ext hz
        clear hz p0 p1 p2 p3 bb2
        refine Rg.regionT Tryz.checked.mixed 123 9 (by kernel_rfl) [
          (fun x_ _ => x_ = .slice A b.length c),
          (fun x_ _ => x_ = .pointer (some ⟨g5, 0, none⟩)),
          (fun x_ _ => x_ = str x.name),
          (fun v W => Bs W v x.name),
          (fun v W => Bs W v (b ++ txB x.name)),
          (fun x_ _ => x_ = .pointer (some ⟨g5, 1, none⟩)),
          (fun x_ _ => x_ = str x.url),
          (fun v W => Bs W v x.url),
          (fun v W => Bs W v (b ++ txB x.name ++ txB x.url))] (fun W => Ext W4 W) Ext rfl rfl rfl
          ?st ((Ext.rfl' W4).drew') ?ob ?en
        case st => exact ⟨fun _ _ _ h _ => h, fun _ _ _ h _ => h, fun _ _ _ h _ => h, fun _ _ _ h hx => h.ext hx, fun _ _ _ h hx => h.ext hx, fun _ _ _ h _ => h, fun _ _ _ h _ => h, fun _ _ _ h hx => h.ext hx, fun _ _ _ h hx => h.ext hx, trivial⟩
        case ob =>
          refine ⟨Rg.at_run [3] rfl ?_, ?_⟩
          · intro ρ W hR ⟨q3, _⟩
            replace q3 : ρ 3 = .slice A b.length c := q3
            refine ⟨rfl, ?_⟩
            exact Rg.run_ok (v := .slice A b.length c) (by simp [execOp, Rg.ev, go_sem, q3]) ⟨rfl, hR, Ext.rfl' _⟩
          refine ⟨Rg.at_run [5] rfl ?_, ?_⟩
          · intro ρ W hR ⟨q5, _⟩
            replace q5 : ρ 5 = .pointer (some ⟨g5, 0, none⟩) := q5
            refine ⟨rfl, ?_⟩
            exact Rg.run_ok (v := .pointer (some ⟨g5, 0, none⟩)) (by simp [execOp, Rg.ev, go_sem, q5]) ⟨rfl, hR, Ext.rfl' _⟩
          refine ⟨Rg.at_run [34] rfl ?_, ?_⟩
          · intro ρ W hR ⟨q34, _⟩
            replace q34 : ρ 34 = .pointer (some ⟨g5, 0, none⟩) := q34
            refine ⟨rfl, ?_⟩
            have c0_ : W.cell? ⟨g5, 0, none⟩ = some (str x.name) := ((hE.ext hR).cell 0).trans rfl
            exact Rg.run_ok (v := str x.name) (by simp [execOp, Rg.ev, go_sem, q34, c0_]) ⟨rfl, hR, Ext.rfl' _⟩
          refine ⟨Rg.at_run [35] rfl ?_, ?_⟩
          · intro ρ W hR ⟨q35, _⟩
            replace q35 : ρ 35 = str x.name := q35
            refine ⟨rfl, ?_⟩
            obtain ⟨Ac, cc, W2, hrun, hbs, hxx⟩ := conv_bytes W x.name (by omega)
            exact Rg.run_ok (v := .slice Ac (x.name).length cc) (by simp only [execOp, Rg.ev, Sem.run_bind, Sem.run_pure, Result.andThen_ok, q35, hrun]) ⟨hbs, hR.trans' hxx, hxx⟩
          refine ⟨Rg.at_run [33, 36] rfl ?_, ?_⟩
          · intro ρ W hR ⟨q33, q36, _⟩
            replace q33 : ρ 33 = .slice A b.length c := q33
            replace q36 : (fun v W => Bs W v x.name) (ρ 36) W := q36
            refine ⟨rfl, ?_⟩
            refine Rg.run_enter (by simp [execOp, Rg.ev, go_sem, q33]; exact ⟨⟨rfl, rfl⟩, rfl⟩) ?_
            refine (dPutB _ _ b x.name W (by omega) ((Bs.own hb).ext hR) q36).mono ?_
            rintro e w2 ⟨m_, Am, cm, hm_, rfl, hz, hxx⟩
            have hm' := hm_.out
            subst hm'
            exact ⟨_, rfl, hz.bs, hR.trans' hxx, hxx⟩
          refine ⟨Rg.at_run [5] rfl ?_, ?_⟩
          · intro ρ W hR ⟨q5, _⟩
            replace q5 : ρ 5 = .pointer (some ⟨g5, 0, none⟩) := q5
            refine ⟨rfl, ?_⟩
            exact Rg.run_ok (v := .pointer (some ⟨g5, 1, none⟩)) (by simp [execOp, Rg.ev, go_sem, q5]) ⟨rfl, hR, Ext.rfl' _⟩
          refine ⟨Rg.at_run [38] rfl ?_, ?_⟩
          · intro ρ W hR ⟨q38, _⟩
            replace q38 : ρ 38 = .pointer (some ⟨g5, 1, none⟩) := q38
            refine ⟨rfl, ?_⟩
            have c1_ : W.cell? ⟨g5, 1, none⟩ = some (str x.url) := ((hE.ext hR).cell 1).trans rfl
            exact Rg.run_ok (v := str x.url) (by simp [execOp, Rg.ev, go_sem, q38, c1_]) ⟨rfl, hR, Ext.rfl' _⟩
          refine ⟨Rg.at_run [39] rfl ?_, ?_⟩
          · intro ρ W hR ⟨q39, _⟩
            replace q39 : ρ 39 = str x.url := q39
            refine ⟨rfl, ?_⟩
            obtain ⟨Ac, cc, W2, hrun, hbs, hxx⟩ := conv_bytes W x.url (by omega)
            exact Rg.run_ok (v := .slice Ac (x.url).length cc) (by simp only [execOp, Rg.ev, Sem.run_bind, Sem.run_pure, Result.andThen_ok, q39, hrun]) ⟨hbs, hR.trans' hxx, hxx⟩
          refine ⟨Rg.at_run [37, 40] rfl ?_, ?_⟩
          · intro ρ W hR ⟨q37, q40, _⟩
            replace q37 : (fun v W => Bs W v (b ++ txB x.name)) (ρ 37) W := q37
            replace q40 : (fun v W => Bs W v x.url) (ρ 40) W := q40
            refine ⟨rfl, ?_⟩
            refine Rg.run_enter (by simp [execOp, Rg.ev, go_sem]; exact ⟨⟨rfl, rfl⟩, rfl⟩) ?_
            refine (dPutB _ _ (b ++ txB x.name) x.url W (by simp [txB_len]; omega) q37 q40).mono ?_
            rintro e w2 ⟨m_, Am, cm, hm_, rfl, hz, hxx⟩
            have hm' := hm_.out
            subst hm'
            exact ⟨_, rfl, hz.bs, hR.trans' hxx, hxx⟩
          trivial
        case en =>
          intro tm W hR hsz hk
          rw [Rg.fin_eq (ds := [33, 34, 35, 36, 37, 38, 39, 40, 41]) rfl rfl rfl hsz hk]
          have k33 : tm.getD 33 undef = .slice A b.length c := hk 33
          have k34 : tm.getD 34 undef = .pointer (some ⟨g5, 0, none⟩) := hk 34
          have k35 : tm.getD 35 undef = str x.name := hk 35
          have k36 : (fun v W => Bs W v x.name) (tm.getD 36 undef) W := hk 36
          have k37 : (fun v W => Bs W v (b ++ txB x.name)) (tm.getD 37 undef) W := hk 37
          have k38 : tm.getD 38 undef = .pointer (some ⟨g5, 1, none⟩) := hk 38
          have k39 : tm.getD 39 undef = str x.url := hk 39
          have k40 : (fun v W => Bs W v x.url) (tm.getD 40 undef) W := hk 40
          have k41 : (fun v W => Bs W v (b ++ txB x.name ++ txB x.url)) (tm.getD 41 undef) W := hk 41
          clear hk hsz
          simp only [Rg.putAll, List.setIfInBounds_toArray, List.set_cons_zero, List.set_cons_succ, k33, k34, k35, k38, k39]
          clear k33
          clear k34
          clear k35
          generalize tm.getD 36 undef = u36 at *
          generalize tm.getD 37 undef = u37 at *
          clear k38
          clear k39
          generalize tm.getD 40 undef = u40 at *
          generalize tm.getD 41 undef = u41 at *
          clear k36 k37 k40
          obtain ⟨b2, hb2_⟩ : ∃ b2, b ++ txB x.name ++ txB x.url = b2 := ⟨_, rfl⟩
          rw [hb2_] at k41
          obtain ⟨A2, c2, rfl, -, -, -⟩ := id k41
          have hb2 := k41
          have hl2 : b2.length + 9 ≤ 100000000000000 := by rw [← hb2_]; simp only [List.length_append, txB_len]; omega
          have HB2 := hide hb2_
          clear hb2_ k41
          replace hE := hE.ext hR
          replace hxr := hxr.trans' hR
          replace hBr := hBr.ext hR
          clear hb hR
          generalize W = W5 at *
          have e2 := (hE.cell 2).trans rfl
          go_wp2_with fail
          refine (dPut8 (.slice A2 b2.length c2) b2 x.till W5 ht (by omega) hb2).mono ?_
          rintro e w2 ⟨m_, Am, cm, hm_, rfl, hz, hxx⟩
          have hml : m_.length + 1 ≤ 100000000000000 := by rw [hm_.out, List.length_append, be_length]; omega
          replace hz := hz.trans hxr
          replace hxr := hxr.trans' hxx
          replace hBr := hBr.ext hxx
          replace hE := hE.ext hxx
          clear e2 hxx
          have e3 : w2.cell? ⟨g5, 3, none⟩ = some (.bool x.made) := (hE.cell 3).trans rfl
          have HB3 : Hid (x.made = true → m_ ++ [1] = stH s ++ ((s.links.take (m + 1)).map lnB).flatten) := hide (fun h => by rw [← HBE.out, hm_.out, ← HB2.out, ← lnB_eq b x, h]; rfl)
          have HB4 : Hid (x.made = false → m_ ++ [0] = stH s ++ ((s.links.take (m + 1)).map lnB).flatten) := hide (fun h => by rw [← HBE.out, hm_.out, ← HB2.out, ← lnB_eq b x, h]; rfl)
          clear hm_ HBE HB2
          have hxa : ∀ n : UInt8, Ext w2 (w2.alloc (.cells #[.int .u8 n.toNat] 5)) := fun n => (Ext.rfl' _).alloc' _
          rcases Bool.eq_false_or_eq_true x.made with hmd | hmd
          · have HM := HB3.out hmd
            have HN := hide HM
            clear HM HB3 HB4
            rw [hmd] at e3
            go_wp2_with (at_builtin; refine wpList_app w _ rfl (.tmp 48) (.tmp 49) rfl (.slice Am m_.length cm) m_ rfl (own_ext hz (hxa 1)) (hxr.trans' (hxa 1)) _ [1] rfl (lit8 w2 1 _ rfl) (by simp only [List.length_cons, List.length_nil]; omega) ?_; intro k4 A4 c4 W6 hk4 hz4 hx4 hg4)
            have hc4 := hg4.chg'
            have hB6 := (hBr.ext (hxa 1)).chg hc4 (by
              intro hm
              exact own_blk_ne (own_ext hz (hxa 1)) (hBr.ext (hxa 1)) (by decide) (by simpa using hm))
            go_roundw
            case rel => exact ⟨m + 1, k4, A4, c4, by have := HLT.out; omega, by go_num, rfl, hz4, hide (by rw [hk4.out]; exact HN.out), hx4, hB6⟩
            case measure => have := HLT.out; simp [intOf]; omega
          · have HM := HB4.out hmd
            have HN := hide HM
            clear HM HB3 HB4
            rw [hmd] at e3
            go_wp2_with (at_builtin; refine wpList_app w _ rfl (.tmp 51) (.tmp 52) rfl (.slice Am m_.length cm) m_ rfl (own_ext hz (hxa 0)) (hxr.trans' (hxa 0)) _ [0] rfl (lit8 w2 0 _ rfl) (by simp only [List.length_cons, List.length_nil]; omega) ?_; intro k4 A4 c4 W6 hk4 hz4 hx4 hg4)
            have hc4 := hg4.chg'
            have hB6 := (hBr.ext (hxa 0)).chg hc4 (by
              intro hm
              exact own_blk_ne (own_ext hz (hxa 0)) (hBr.ext (hxa 0)) (by decide) (by simpa using hm))
            go_roundw
            case rel => exact ⟨m + 1, k4, A4, c4, by have := HLT.out; omega, by go_num, rfl, hz4, hide (by rw [hk4.out]; exact HN.out), hx4, hB6⟩
            case measure => have := HLT.out; simp [intOf]; omega
      · obtain rfl : m = s.links.length := by omega
        rw [List.take_length] at hbe
        clear bb2
        have hbl : b.length + 2 ≤ 100000000000000 := by rw [hbe.out]; simp only [stH, List.length_append, be_length]; omega
        have b3 := (hBr.cell 3).trans rfl
        have b2 := (hBr.cell 2).trans rfl
        go_wp2_with fail
        refine (dPut2 (.slice A b.length c) b s.sess.length wr ⟨by omega, by omega⟩ (by omega) hb.bs).mono ?_
        rintro e w2 ⟨bz, Az, cz, hm_, rfl, hz, hxx⟩
        have HBZ : Hid (bz = stH s ++ (s.links.map lnB).flatten ++ be 2 s.sess.length) := hide (by rw [hm_.out, hbe.out]; simp)
        have hnz := hz.trans hxr
        replace hxr := hxr.trans' hxx
        replace hBr := hBr.ext hxx
        clear b3 b2 hb hbe hm_ hz hbl hxx
        go_wp2_with fail
        generalize wr = wa at *
        go_loopw [6, 3] (fun i vb wr => ∃ (m : Nat) (b : Bytes) (A : Option Addr) (c : Nat), m ≤ s.sess.length ∧ i = .int .i64 m ∧ vb = .slice A b.length c ∧ Nw w wr (.slice A b.length c) b ∧ Hid (b = bz ++ ((s.sess.take m).map seB).flatten) ∧ Ext w wr ∧ Blk wr g 28 (stcells s (.slice Al s.links.length cl) (.slice As s.sess.length ca)).toArray) (fun i _ _ => (s.sess.length - intOf i).toNat)
        case atStart => exact ⟨0, bz, Az, cz, by omega, rfl, rfl, hnz, hide (by simp), hxr, hBr⟩
        case round =>
          clear hnz hxr hBr
          obtain ⟨m, b, A, c, hm, rfl, rfl, hb, hbe, hxr, hBr⟩ := hrel
          have bb3 := (hBr.cell 3).trans rfl
          by_cases hlt : m < s.sess.length
          · obtain ⟨ad, x, vd_, rfl, hxk, hbk, p0, p1, p2, hxc_, hxh, hd0⟩ := se_at s4 (k := m) hlt
            obtain ⟨Ad, cd, rfl, -, -⟩ := hd0.form
            have hab : (ad.add (m * 3)).block < w.heap.size := by rw [block_of_add]; exact hbk
            replace p0 := (hxr.cell (p := ad.add (m * 3)) hab).trans p0
            replace p1 := (hxr.cell (p := ⟨(ad.add (m * 3)).block, (ad.add (m * 3)).off + 1, none⟩) hab).trans p1
            replace p2 := (hxr.cell (p := ⟨(ad.add (m * 3)).block, (ad.add (m * 3)).off + 2, none⟩) hab).trans p2
            have hmem := List.mem_of_getElem? hxk.out
            have hxc := hp.client x hmem
            have hxc2 := hcl x hmem
            have hxe := hp.err x hmem
            have hxe2 := hel x hmem
            have hxd := hdl x hmem
            have hbl : Hid (b.length + (seB x).length ≤ 100000000000000) := hide (by
              rw [hbe.out, List.length_append, HBZ.out]
              have := bflat_mem seB hxk.out
              simp only [stH, List.length_append, be_length]
              omega)
            have hxl := hbl.out
            rw [seB_len] at hxl
            have hb0 : 0 < b.length := by rw [hbe.out, HBZ.out]; simp only [stH, List.length_append, be_length]; omega
            have HBE : Hid (b ++ seB x = bz ++ ((s.sess.take (m + 1)).map seB).flatten) := hide (by rw [bflat_snoc seB hxk.out, hbe.out, List.append_assoc])
            have hb1 : (0 : Int) ≤ m := by omega
            have hb2 : (m : Int) < s.sess.length := by omega
            have HWC : IntKind.u8.wrap x.client = x.client := by rw [IntKind.wrap_u8]; omega
            have HWD : IntKind.u8.wrap (x.done.length : Int) = x.done.length := by rw [IntKind.wrap_u8]; omega
            obtain ⟨vc, hvc, hvc2⟩ := be1_byte hxc hxc2
            obtain ⟨vd, hvd, hvd2⟩ := be1_byte (v := x.done.length) (by omega) (by omega)
            have HVC := hide hvc
            have HVD := hide hvd
            clear hvc hvd
            have HLT := hide hlt
            clear hlt hbe hmem
            have hE := Blk.new wr 56 (secells x (.slice Ad x.done.length cd)).toArray
            obtain ⟨g8, hg8_⟩ : ∃ g_, wr.heap.size = g_ := ⟨_, rfl⟩
            rw [hg8_] at hE
            have hz : Ext wr (wr.alloc (.cells (secells x (.slice Ad x.done.length cd)).toArray 56)) := (Ext.rfl' _).alloc' _
            have hbs : ∀ k, (Value.slice A b.length c).ownBlock = some k → w.heap.size ≤ k ∧ k < g8 := fun k hk => by have := hb.lt k hk; omega
            go_upto_region 17 with fail
            try rw [hg8_]
            clear hg8_
            generalize (wr.alloc (.cells (secells x (.slice Ad x.done.length cd)).toArray 56)) = W4 at *
            replace hb := (own_ext hb hz : Nw w W4 _ _)
            replace hxr := hxr.trans' hz
            replace hBr := hBr.ext hz
            clear hz p0 p1 p2 bb3
            have hgg8 := hE.lt
            obtain ⟨SB, hSB⟩ : ∃ S, (Value.slice A b.length c).ownBlock.toList = S := ⟨_, rfl⟩
            have HSB : ∀ k ∈ SB, k < W4.heap.size := fun k hk => by rw [← hSB] at hk; have := hbs k (by simpa using hk); omega
            have HSW : ∀ k, k ∈ SB → w.heap.size ≤ k := fun k hk => by rw [← hSB] at hk; have := hbs k (by simpa using hk); omega
            have hg8 : g8 ∉ SB := fun hk => by rw [← hSB] at hk; have := hbs g8 (by simpa using hk); omega
            have hgS : g ∉ SB := fun hk => by
              rw [← hSB] at hk
              exact own_blk_ne hb hBr (by decide) (by simpa using hk)
            have HSBE := hide hSB
            clear hSB hbs
            go_cut [3] (fun v3 wx => ∃ (b2 : Bytes) (A2 : Option Addr) (c2 : Nat), v3 = .slice A2 b2.length c2 ∧ Hid (b2 = b ++ [vc] ++ be 8 x.high.toNat ++ [vd]) ∧ Nw w wx (.slice A2 b2.length c2) b2 ∧ Chg SB W4 wx)
            case first =>
              by_cases hroom : b.length + 1 ≤ c
              · refine Rg.regionW Tryz.checked.mixed 123 14 (by kernel_rfl) [
                  (false, (fun x_ _ => x_ = .slice A b.length c)),
                  (false, (fun x_ _ => x_ = .pointer (some ⟨g8, 0, none⟩))),
                  (false, (fun x_ _ => x_ = .int .i64 x.client)),
                  (false, (fun x_ _ => x_ = .int .u8 x.client)),
                  (false, (fun v W => Bs W v [vc] ∧ Off v SB)),
                  (true, (fun v W => v = (.slice A (b.length + 1) c) ∧ Nw w W v (b ++ [vc]))),
                  (false, (fun x_ _ => x_ = .pointer (some ⟨g8, 1, none⟩))),
                  (false, (fun x_ _ => x_ = .int .u64 x.high)),
                  (false, (fun v W => Nw W4 W v (b ++ [vc] ++ be 8 x.high.toNat))),
                  (false, (fun x_ _ => x_ = .pointer (some ⟨g8, 2, none⟩))),
                  (false, (fun x_ _ => x_ = .slice Ad x.done.length cd)),
                  (false, (fun x_ _ => x_ = .int .i64 x.done.length)),
                  (false, (fun x_ _ => x_ = .int .u8 x.done.length)),
                  (false, (fun v W => Bs W v [vd] ∧ Off v SB))] (by kernel_rfl) (fun i W => Chg SB W4 W ∧ (i = 0 → Ext W4 W)) (fun W W2 => Chg SB W W2 ∧ (Nw w W (.slice A (b.length + 1) c) (b ++ [vc]) → Nw w W2 (.slice A (b.length + 1) c) (b ++ [vc]))) rfl rfl rfl
                  ?st ⟨(Chg.refl _ _).drew, fun _ => (Ext.rfl' _).drew'⟩ ?ob ?en
                case st => exact ⟨fun _ _ _ h _ => h, fun _ _ _ h _ => h, fun _ _ _ h _ => h, fun _ _ _ h _ => h, fun _ _ _ ⟨h, o⟩ hG => ⟨h.chg hG.1 o, o⟩, fun _ _ _ ⟨h, o⟩ hG => by subst h; exact ⟨rfl, hG.2 o⟩, fun _ _ _ h _ => h, fun _ _ _ h _ => h, fun _ _ _ h hG => own_chgN h hG.1 HSB, fun _ _ _ h _ => h, fun _ _ _ h _ => h, fun _ _ _ h _ => h, fun _ _ _ h _ => h, fun _ _ _ ⟨h, o⟩ hG => ⟨h.chg hG.1 o, o⟩, trivial⟩
                case ob =>
                  refine ⟨fun i => Rg.at_runW [3] rfl ?_, ?_⟩
                  · intro ρ W hR ⟨q3, _⟩
                    replace q3 : ρ 3 = .slice A b.length c := q3
                    refine ⟨rfl, ?_⟩
                    exact Rg.run_ok (v := .slice A b.length c) (by simp [execOp, Rg.ev, go_sem, q3]) ⟨rfl, hR, (⟨Chg.refl _ _, id⟩)⟩
                  refine ⟨fun i => Rg.at_runW [7] rfl ?_, ?_⟩
                  · intro ρ W hR ⟨q7, _⟩
                    replace q7 : ρ 7 = .pointer (some ⟨g8, 0, none⟩) := q7
                    refine ⟨rfl, ?_⟩
                    exact Rg.run_ok (v := .pointer (some ⟨g8, 0, none⟩)) (by simp [execOp, Rg.ev, go_sem, q7]) ⟨rfl, hR, (⟨Chg.refl _ _, id⟩)⟩
                  refine ⟨fun i => Rg.at_runW [73] rfl ?_, ?_⟩
                  · intro ρ W hR ⟨q73, _⟩
                    replace q73 : ρ 73 = .pointer (some ⟨g8, 0, none⟩) := q73
                    refine ⟨rfl, ?_⟩
                    have c0_ : W.cell? ⟨g8, 0, none⟩ = some (.int .i64 x.client) := ((hE.chg hR.1 hg8).cell 0).trans rfl
                    exact Rg.run_ok (v := .int .i64 x.client) (by simp [execOp, Rg.ev, go_sem, q73, c0_]) ⟨rfl, hR, (⟨Chg.refl _ _, id⟩)⟩
                  refine ⟨fun i => Rg.at_runW [74] rfl ?_, ?_⟩
                  · intro ρ W hR ⟨q74, _⟩
                    replace q74 : ρ 74 = .int .i64 x.client := q74
                    refine ⟨rfl, ?_⟩
                    exact Rg.run_ok (v := .int .u8 x.client) (by simp [execOp, Rg.ev, go_sem, q74, HWC]) ⟨rfl, hR, Chg.refl _ _, id⟩
                  refine ⟨fun i => Rg.at_runW [75] rfl ?_, ?_⟩
                  · intro ρ W hR ⟨q75, _⟩
                    replace q75 : ρ 75 = .int .u8 x.client := q75
                    refine ⟨rfl, ?_⟩
                    refine Rg.run_ok (v := .slice (some ⟨W.heap.size, 0, none⟩) 1 1) (W' := W.alloc (.cells #[.int .u8 x.client] 5)) (by simp [execOp, Rg.ev, go_sem, q75]) ⟨?_, ⟨hR.1.alloc _, fun h => (hR.2 h).alloc' _⟩, ⟨(Chg.refl _ _).alloc _, fun h => own_ext h ((Ext.rfl' _).alloc' _)⟩⟩
                    have h := lit8 W vc W.heap.size rfl
                    rw [hvc2] at h
                    refine ⟨h, Off.of_own fun k hk => ?_⟩
                    have h0_ : W.heap.size = k := Option.some.inj hk
                    intro hm
                    have h1_ := HSB _ hm
                    have h2_ := hR.1.size
                    omega
                  refine ⟨Rg.at_runW [72, 76] rfl ?_, ?_⟩
                  · intro ρ W hR ⟨q72, q76, _⟩
                    replace q72 : ρ 72 = .slice A b.length c := q72
                    replace q76 : (fun v W => Bs W v [vc] ∧ Off v SB) (ρ 76) W := q76
                    refine ⟨rfl, ?_⟩
                    obtain ⟨w_, hr_, hn_, hc_⟩ := run_app1A w W (own_ext hb (hR.2 rfl)) hroom hb0 (by omega) q76.1 22
                    exact Rg.run_ok (v := (.slice A (b.length + 1) c)) (W' := w_) (by simp only [execOp, Rg.ev, resolve, invoke, builtin, Sem.run_bind, Sem.run_pure, Result.andThen_ok, List.map_toArray, List.map_cons, List.map_nil, q72, hr_]) ⟨⟨rfl, hn_⟩, ⟨hR.1.trans (by rw [← HSBE.out]; exact hc_), fun h => by cases h⟩, by rw [← HSBE.out]; exact hc_, fun _ => hn_⟩
                  refine ⟨fun i => Rg.at_runW [7] rfl ?_, ?_⟩
                  · intro ρ W hR ⟨q7, _⟩
                    replace q7 : ρ 7 = .pointer (some ⟨g8, 0, none⟩) := q7
                    refine ⟨rfl, ?_⟩
                    exact Rg.run_ok (v := .pointer (some ⟨g8, 1, none⟩)) (by simp [execOp, Rg.ev, go_sem, q7]) ⟨rfl, hR, (⟨Chg.refl _ _, id⟩)⟩
                  refine ⟨fun i => Rg.at_runW [78] rfl ?_, ?_⟩
                  · intro ρ W hR ⟨q78, _⟩
                    replace q78 : ρ 78 = .pointer (some ⟨g8, 1, none⟩) := q78
                    refine ⟨rfl, ?_⟩
                    have c1_ : W.cell? ⟨g8, 1, none⟩ = some (.int .u64 x.high) := ((hE.chg hR.1 hg8).cell 1).trans rfl
                    exact Rg.run_ok (v := .int .u64 x.high) (by simp [execOp, Rg.ev, go_sem, q78, c1_]) ⟨rfl, hR, (⟨Chg.refl _ _, id⟩)⟩
                  refine ⟨fun i => Rg.at_runW [77, 79] rfl ?_, ?_⟩
                  · intro ρ W hR ⟨q77, q79, _⟩
                    replace q77 : (fun v W => v = (.slice A (b.length + 1) c) ∧ Nw w W v (b ++ [vc])) (ρ 77) W := q77
                    replace q79 : ρ 79 = .int .u64 x.high := q79
                    refine ⟨rfl, ?_⟩
                    refine Rg.run_enter (by simp [execOp, Rg.ev, go_sem, q79]; exact ⟨⟨rfl, rfl⟩, rfl⟩) ?_
                    refine (dPut8 _ (b ++ [vc]) x.high W hxh (by simp; omega) (Bs.own q77.2)).mono ?_
                    rintro e w2 ⟨m_, Am, cm, hm_, rfl, hz, hxx⟩
                    have hm' := hm_.out
                    subst hm'
                    exact ⟨_, rfl, own_base hz hR.1.size, ⟨hR.1.trans (hxx.chg _), fun h => (hR.2 h).trans' hxx⟩, hxx.chg _, fun h => own_ext h hxx⟩
                  refine ⟨fun i => Rg.at_runW [7] rfl ?_, ?_⟩
                  · intro ρ W hR ⟨q7, _⟩
                    replace q7 : ρ 7 = .pointer (some ⟨g8, 0, none⟩) := q7
                    refine ⟨rfl, ?_⟩
                    exact Rg.run_ok (v := .pointer (some ⟨g8, 2, none⟩)) (by simp [execOp, Rg.ev, go_sem, q7]) ⟨rfl, hR, (⟨Chg.refl _ _, id⟩)⟩
                  refine ⟨fun i => Rg.at_runW [81] rfl ?_, ?_⟩
                  · intro ρ W hR ⟨q81, _⟩
                    replace q81 : ρ 81 = .pointer (some ⟨g8, 2, none⟩) := q81
                    refine ⟨rfl, ?_⟩
                    have c2_ : W.cell? ⟨g8, 2, none⟩ = some (.slice Ad x.done.length cd) := ((hE.chg hR.1 hg8).cell 2).trans rfl
                    exact Rg.run_ok (v := .slice Ad x.done.length cd) (by simp [execOp, Rg.ev, go_sem, q81, c2_]) ⟨rfl, hR, (⟨Chg.refl _ _, id⟩)⟩
                  refine ⟨fun i => Rg.at_runW [82] rfl ?_, ?_⟩
                  · intro ρ W hR ⟨q82, _⟩
                    replace q82 : ρ 82 = .slice Ad x.done.length cd := q82
                    refine ⟨rfl, ?_⟩
                    exact Rg.run_ok (v := .int .i64 x.done.length) (by simp [execOp, Rg.ev, go_sem, q82]) ⟨rfl, hR, (⟨Chg.refl _ _, id⟩)⟩
                  refine ⟨fun i => Rg.at_runW [83] rfl ?_, ?_⟩
                  · intro ρ W hR ⟨q83, _⟩
                    replace q83 : ρ 83 = .int .i64 x.done.length := q83
                    refine ⟨rfl, ?_⟩
                    exact Rg.run_ok (v := .int .u8 x.done.length) (by simp [execOp, Rg.ev, go_sem, q83, HWD]) ⟨rfl, hR, Chg.refl _ _, id⟩
                  refine ⟨fun i => Rg.at_runW [84] rfl ?_, ?_⟩
                  · intro ρ W hR ⟨q84, _⟩
                    replace q84 : ρ 84 = .int .u8 x.done.length := q84
                    refine ⟨rfl, ?_⟩
                    refine Rg.run_ok (v := .slice (some ⟨W.heap.size, 0, none⟩) 1 1) (W' := W.alloc (.cells #[.int .u8 x.done.length] 5)) (by simp [execOp, Rg.ev, go_sem, q84]) ⟨?_, ⟨hR.1.alloc _, fun h => (hR.2 h).alloc' _⟩, ⟨(Chg.refl _ _).alloc _, fun h => own_ext h ((Ext.rfl' _).alloc' _)⟩⟩
                    have h := lit8 W vd W.heap.size rfl
                    rw [hvd2] at h
                    refine ⟨h, Off.of_own fun k hk => ?_⟩
                    have h0_ : W.heap.size = k := Option.some.inj hk
                    intro hm
                    have h1_ := HSB _ hm
                    have h2_ := hR.1.size
                    omega
                  trivial
                case en =>
                  intro tm W hR hsz hk
                  rw [Rg.fin_eq (ds := [72, 73, 74, 75, 76, 77, 78, 79, 80, 81, 82, 83, 84, 85]) rfl rfl rfl hsz hk]
                  have k72 : tm.getD 72 undef = .slice A b.length c := hk 72
                  have k73 : tm.getD 73 undef = .pointer (some ⟨g8, 0, none⟩) := hk 73
                  have k74 : tm.getD 74 undef = .int .i64 x.client := hk 74
                  have k75 : tm.getD 75 undef = .int .u8 x.client := hk 75
                  have k76 : (fun v W => Bs W v [vc] ∧ Off v SB) (tm.getD 76 undef) W := hk 76
                  have k77 : (fun v W => v = (.slice A (b.length + 1) c) ∧ Nw w W v (b ++ [vc])) (tm.getD 77 undef) W := hk 77
                  have k78 : tm.getD 78 undef = .pointer (some ⟨g8, 1, none⟩) := hk 78
                  have k79 : tm.getD 79 undef = .int .u64 x.high := hk 79
                  have k80 : (fun v W => Nw W4 W v (b ++ [vc] ++ be 8 x.high.toNat)) (tm.getD 80 undef) W := hk 80
                  have k81 : tm.getD 81 undef = .pointer (some ⟨g8, 2, none⟩) := hk 81
                  have k82 : tm.getD 82 undef = .slice Ad x.done.length cd := hk 82
                  have k83 : tm.getD 83 undef = .int .i64 x.done.length := hk 83
                  have k84 : tm.getD 84 undef = .int .u8 x.done.length := hk 84
                  have k85 : (fun v W => Bs W v [vd] ∧ Off v SB) (tm.getD 85 undef) W := hk 85
                  clear hk hsz
                  simp only [Rg.putAll, List.setIfInBounds_toArray, List.set_cons_zero, List.set_cons_succ, k72, k73, k74, k75, k78, k79, k81, k82, k83, k84]
                  clear k72
                  clear k73
                  clear k74
                  clear k75
                  generalize tm.getD 76 undef = u76 at *
                  generalize tm.getD 77 undef = u77 at *
                  clear k78
                  clear k79
                  generalize tm.getD 80 undef = u80 at *
                  clear k81
                  clear k82
                  clear k83
                  clear k84
                  generalize tm.getD 85 undef = u85 at *
                  clear k76 k77
                  obtain ⟨b4, hb4⟩ : ∃ b4, b ++ [vc] ++ be 8 x.high.toNat = b4 := ⟨_, rfl⟩
                  rw [hb4] at k80
                  have HB4 := hide hb4
                  have hb4l : b4.length + 1 ≤ 100000000000000 := by rw [← hb4]; simp only [List.length_append, be_length, List.length_cons, List.length_nil]; omega
                  clear hb4
                  obtain ⟨A5, c5, hv5, -, -⟩ := own_slice (id k80)
                  subst hv5
                  have hxW := hxr.then_ hR.1 HSW
                  simp only [List.drop_succ_cons, List.drop_zero]
                  go_wp2_with (at_builtin; refine wpList_app w _ rfl (.tmp 80) (.tmp 85) rfl (.slice A5 b4.length c5) b4 rfl (own_base k80 hxr.size) hxW _ [vd] rfl k85.1 (by simp only [List.length_cons, List.length_nil]; omega) ?_; intro k4 A4 c4 W6 hk4 hz4 hx4 hg4)
                  go_meet
                  case rel => exact ⟨k4, A4, c4, rfl, hide (by rw [hk4.out, ← HB4.out]), hz4, hR.1.then_new hg4.chg' (fun i hi => (k80.lt i (by simpa using hi)).1)⟩
              · refine Rg.regionT Tryz.checked.mixed 123 14 (by kernel_rfl) [
                  (fun x_ _ => x_ = .slice A b.length c),
                  (fun x_ _ => x_ = .pointer (some ⟨g8, 0, none⟩)),
                  (fun x_ _ => x_ = .int .i64 x.client),
                  (fun x_ _ => x_ = .int .u8 x.client),
                  (fun v W => Bs W v [vc]),
                  (fun v W => Nw W4 W v (b ++ [vc])),
                  (fun x_ _ => x_ = .pointer (some ⟨g8, 1, none⟩)),
                  (fun x_ _ => x_ = .int .u64 x.high),
                  (fun v W => Nw W4 W v (b ++ [vc] ++ be 8 x.high.toNat)),
                  (fun x_ _ => x_ = .pointer (some ⟨g8, 2, none⟩)),
                  (fun x_ _ => x_ = .slice Ad x.done.length cd),
                  (fun x_ _ => x_ = .int .i64 x.done.length),
                  (fun x_ _ => x_ = .int .u8 x.done.length),
                  (fun v W => Bs W v [vd])] (fun W => Ext W4 W) Ext rfl rfl rfl
                  ?st ((Ext.rfl' W4).drew') ?ob ?en
                case st => exact ⟨fun _ _ _ h _ => h, fun _ _ _ h _ => h, fun _ _ _ h _ => h, fun _ _ _ h _ => h, fun _ _ _ h hx => h.ext hx, fun _ _ _ h hx => own_ext h hx, fun _ _ _ h _ => h, fun _ _ _ h _ => h, fun _ _ _ h hx => own_ext h hx, fun _ _ _ h _ => h, fun _ _ _ h _ => h, fun _ _ _ h _ => h, fun _ _ _ h _ => h, fun _ _ _ h hx => h.ext hx, trivial⟩
                case ob =>
                  refine ⟨Rg.at_run [3] rfl ?_, ?_⟩
                  · intro ρ W hR ⟨q3, _⟩
                    replace q3 : ρ 3 = .slice A b.length c := q3
                    refine ⟨rfl, ?_⟩
                    exact Rg.run_ok (v := .slice A b.length c) (by simp [execOp, Rg.ev, go_sem, q3]) ⟨rfl, hR, Ext.rfl' _⟩
                  refine ⟨Rg.at_run [7] rfl ?_, ?_⟩
                  · intro ρ W hR ⟨q7, _⟩
                    replace q7 : ρ 7 = .pointer (some ⟨g8, 0, none⟩) := q7
                    refine ⟨rfl, ?_⟩
                    exact Rg.run_ok (v := .pointer (some ⟨g8, 0, none⟩)) (by simp [execOp, Rg.ev, go_sem, q7]) ⟨rfl, hR, Ext.rfl' _⟩
                  refine ⟨Rg.at_run [73] rfl ?_, ?_⟩
                  · intro ρ W hR ⟨q73, _⟩
                    replace q73 : ρ 73 = .pointer (some ⟨g8, 0, none⟩) := q73
                    refine ⟨rfl, ?_⟩
                    have c0_ : W.cell? ⟨g8, 0, none⟩ = some (.int .i64 x.client) := ((hE.ext hR).cell 0).trans rfl
                    exact Rg.run_ok (v := .int .i64 x.client) (by simp [execOp, Rg.ev, go_sem, q73, c0_]) ⟨rfl, hR, Ext.rfl' _⟩
                  refine ⟨Rg.at_run [74] rfl ?_, ?_⟩
                  · intro ρ W hR ⟨q74, _⟩
                    replace q74 : ρ 74 = .int .i64 x.client := q74
                    refine ⟨rfl, ?_⟩
                    exact Rg.run_ok (v := .int .u8 x.client) (by simp [execOp, Rg.ev, go_sem, q74, HWC]) ⟨rfl, hR, Ext.rfl' _⟩
                  refine ⟨Rg.at_run [75] rfl ?_, ?_⟩
                  · intro ρ W hR ⟨q75, _⟩
                    replace q75 : ρ 75 = .int .u8 x.client := q75
                    refine ⟨rfl, ?_⟩
                    refine Rg.run_ok (v := .slice (some ⟨W.heap.size, 0, none⟩) 1 1) (W' := W.alloc (.cells #[.int .u8 x.client] 5)) (by simp [execOp, Rg.ev, go_sem, q75]) ⟨?_, hR.alloc' _, (Ext.rfl' _).alloc' _⟩
                    have h := lit8 W vc W.heap.size rfl
                    rw [hvc2] at h
                    exact h
                  refine ⟨Rg.at_run [72, 76] rfl ?_, ?_⟩
                  · intro ρ W hR ⟨q72, q76, _⟩
                    replace q72 : ρ 72 = .slice A b.length c := q72
                    replace q76 : (fun v W => Bs W v [vc]) (ρ 76) W := q76
                    refine ⟨rfl, ?_⟩
                    obtain ⟨v_, w_, hr_, hn_, hx_⟩ := run_app1B w W (own_ext hb hR) hroom hb0 (by omega) q76 22
                    exact Rg.run_ok (v := v_) (W' := w_) (by simp only [execOp, Rg.ev, resolve, invoke, builtin, Sem.run_bind, Sem.run_pure, Result.andThen_ok, List.map_toArray, List.map_cons, List.map_nil, q72, hr_]) ⟨hn_.trans hR, hR.trans' hx_, hx_⟩
                  refine ⟨Rg.at_run [7] rfl ?_, ?_⟩
                  · intro ρ W hR ⟨q7, _⟩
                    replace q7 : ρ 7 = .pointer (some ⟨g8, 0, none⟩) := q7
                    refine ⟨rfl, ?_⟩
                    exact Rg.run_ok (v := .pointer (some ⟨g8, 1, none⟩)) (by simp [execOp, Rg.ev, go_sem, q7]) ⟨rfl, hR, Ext.rfl' _⟩
                  refine ⟨Rg.at_run [78] rfl ?_, ?_⟩
                  · intro ρ W hR ⟨q78, _⟩
                    replace q78 : ρ 78 = .pointer (some ⟨g8, 1, none⟩) := q78
                    refine ⟨rfl, ?_⟩
                    have c1_ : W.cell? ⟨g8, 1, none⟩ = some (.int .u64 x.high) := ((hE.ext hR).cell 1).trans rfl
                    exact Rg.run_ok (v := .int .u64 x.high) (by simp [execOp, Rg.ev, go_sem, q78, c1_]) ⟨rfl, hR, Ext.rfl' _⟩
                  refine ⟨Rg.at_run [77, 79] rfl ?_, ?_⟩
                  · intro ρ W hR ⟨q77, q79, _⟩
                    replace q77 : (fun v W => Nw W4 W v (b ++ [vc])) (ρ 77) W := q77
                    replace q79 : ρ 79 = .int .u64 x.high := q79
                    refine ⟨rfl, ?_⟩
                    refine Rg.run_enter (by simp [execOp, Rg.ev, go_sem, q79]; exact ⟨⟨rfl, rfl⟩, rfl⟩) ?_
                    refine (dPut8 _ (b ++ [vc]) x.high W hxh (by simp; omega) (Bs.own q77)).mono ?_
                    rintro e w2 ⟨m_, Am, cm, hm_, rfl, hz, hxx⟩
                    have hm' := hm_.out
                    subst hm'
                    exact ⟨_, rfl, hz.trans (hR), hR.trans' hxx, hxx⟩
                  refine ⟨Rg.at_run [7] rfl ?_, ?_⟩
                  · intro ρ W hR ⟨q7, _⟩
                    replace q7 : ρ 7 = .pointer (some ⟨g8, 0, none⟩) := q7
                    refine ⟨rfl, ?_⟩
                    exact Rg.run_ok (v := .pointer (some ⟨g8, 2, none⟩)) (by simp [execOp, Rg.ev, go_sem, q7]) ⟨rfl, hR, Ext.rfl' _⟩
                  refine ⟨Rg.at_run [81] rfl ?_, ?_⟩
                  · intro ρ W hR ⟨q81, _⟩
                    replace q81 : ρ 81 = .pointer (some ⟨g8, 2, none⟩) := q81
                    refine ⟨rfl, ?_⟩
                    have c2_ : W.cell? ⟨g8, 2, none⟩ = some (.slice Ad x.done.length cd) := ((hE.ext hR).cell 2).trans rfl
                    exact Rg.run_ok (v := .slice Ad x.done.length cd) (by simp [execOp, Rg.ev, go_sem, q81, c2_]) ⟨rfl, hR, Ext.rfl' _⟩
                  refine ⟨Rg.at_run [82] rfl ?_, ?_⟩
                  · intro ρ W hR ⟨q82, _⟩
                    replace q82 : ρ 82 = .slice Ad x.done.length cd := q82
                    refine ⟨rfl, ?_⟩
                    exact Rg.run_ok (v := .int .i64 x.done.length) (by simp [execOp, Rg.ev, go_sem, q82]) ⟨rfl, hR, Ext.rfl' _⟩
                  refine ⟨Rg.at_run [83] rfl ?_, ?_⟩
                  · intro ρ W hR ⟨q83, _⟩
                    replace q83 : ρ 83 = .int .i64 x.done.length := q83
                    refine ⟨rfl, ?_⟩
                    exact Rg.run_ok (v := .int .u8 x.done.length) (by simp [execOp, Rg.ev, go_sem, q83, HWD]) ⟨rfl, hR, Ext.rfl' _⟩
                  refine ⟨Rg.at_run [84] rfl ?_, ?_⟩
                  · intro ρ W hR ⟨q84, _⟩
                    replace q84 : ρ 84 = .int .u8 x.done.length := q84
                    refine ⟨rfl, ?_⟩
                    refine Rg.run_ok (v := .slice (some ⟨W.heap.size, 0, none⟩) 1 1) (W' := W.alloc (.cells #[.int .u8 x.done.length] 5)) (by simp [execOp, Rg.ev, go_sem, q84]) ⟨?_, hR.alloc' _, (Ext.rfl' _).alloc' _⟩
                    have h := lit8 W vd W.heap.size rfl
                    rw [hvd2] at h
                    exact h
                  trivial
                case en =>
                  intro tm W hR hsz hk
                  rw [Rg.fin_eq (ds := [72, 73, 74, 75, 76, 77, 78, 79, 80, 81, 82, 83, 84, 85]) rfl rfl rfl hsz hk]
                  have k72 : tm.getD 72 undef = .slice A b.length c := hk 72
                  have k73 : tm.getD 73 undef = .pointer (some ⟨g8, 0, none⟩) := hk 73
                  have k74 : tm.getD 74 undef = .int .i64 x.client := hk 74
                  have k75 : tm.getD 75 undef = .int .u8 x.client := hk 75
                  have k76 : (fun v W => Bs W v [vc]) (tm.getD 76 undef) W := hk 76
                  have k77 : (fun v W => Nw W4 W v (b ++ [vc])) (tm.getD 77 undef) W := hk 77
                  have k78 : tm.getD 78 undef = .pointer (some ⟨g8, 1, none⟩) := hk 78
                  have k79 : tm.getD 79 undef = .int .u64 x.high := hk 79
                  have k80 : (fun v W => Nw W4 W v (b ++ [vc] ++ be 8 x.high.toNat)) (tm.getD 80 undef) W := hk 80
                  have k81 : tm.getD 81 undef = .pointer (some ⟨g8, 2, none⟩) := hk 81
                  have k82 : tm.getD 82 undef = .slice Ad x.done.length cd := hk 82
                  have k83 : tm.getD 83 undef = .int .i64 x.done.length := hk 83
                  have k84 : tm.getD 84 undef = .int .u8 x.done.length := hk 84
                  have k85 : (fun v W => Bs W v [vd]) (tm.getD 85 undef) W := hk 85
                  clear hk hsz
                  simp only [Rg.putAll, List.setIfInBounds_toArray, List.set_cons_zero, List.set_cons_succ, k72, k73, k74, k75, k78, k79, k81, k82, k83, k84]
                  clear k72
                  clear k73
                  clear k74
                  clear k75
                  generalize tm.getD 76 undef = u76 at *
                  generalize tm.getD 77 undef = u77 at *
                  clear k78
                  clear k79
                  generalize tm.getD 80 undef = u80 at *
                  clear k81
                  clear k82
                  clear k83
                  clear k84
                  generalize tm.getD 85 undef = u85 at *
                  clear k76 k77
                  obtain ⟨b4, hb4⟩ : ∃ b4, b ++ [vc] ++ be 8 x.high.toNat = b4 := ⟨_, rfl⟩
                  rw [hb4] at k80
                  have HB4 := hide hb4
                  have hb4l : b4.length + 1 ≤ 100000000000000 := by rw [← hb4]; simp only [List.length_append, be_length, List.length_cons, List.length_nil]; omega
                  clear hb4
                  obtain ⟨A5, c5, hv5, -, -⟩ := own_slice (id k80)
                  subst hv5
                  have hxW := hxr.trans' hR
                  simp only [List.drop_succ_cons, List.drop_zero]
                  go_wp2_with (at_builtin; refine wpList_app w _ rfl (.tmp 80) (.tmp 85) rfl (.slice A5 b4.length c5) b4 rfl (own_base k80 hxr.size) hxW _ [vd] rfl k85 (by simp only [List.length_cons, List.length_nil]; omega) ?_; intro k4 A4 c4 W6 hk4 hz4 hx4 hg4)
                  go_meet
                  case rel => exact ⟨k4, A4, c4, rfl, hide (by rw [hk4.out, ← HB4.out]), hz4, (hR.chg SB).then_new hg4.chg' (fun i hi => (k80.lt i (by simpa using hi)).1)⟩
            case rest =>
              obtain ⟨b2, A2, c2, rfl, HB2, hb2_, hc2⟩ := hcut
              generalize wc = W5 at *
              replace hE := hE.chg hc2 hg8
              replace hBr := hBr.chg hc2 hgS
              replace hxr := hxr.then_ hc2 HSW
              clear hb hc2 HSB HSW hgS hg8 HSBE hgg8
              have hl2 : b2.length + (x.done.map dnB).flatten.length ≤ 100000000000000 := by rw [HB2.out]; simp only [List.length_append, be_length, List.length_cons, List.length_nil]; omega
              have HB5 : Hid (b2 = b ++ be 1 x.client.toNat ++ be 8 x.high.toNat ++ be 1 x.done.length) := hide (by
                have h1 := HVC.out
                have h2 := HVD.out
                rw [Int.toNat_natCast] at h2
                rw [HB2.out, h1, h2])
              clear HB2 hvc2 hvd2 HVC HVD
              go_wp2_with fail
              go_loopw [8, 3] (fun i vb wr => ∃ (q : Nat) (b3 : Bytes) (A : Option Addr) (c : Nat), q ≤ x.done.length ∧ i = .int .i64 q ∧ vb = .slice A b3.length c ∧ Nw w wr (.slice A b3.length c) b3 ∧ Hid (b3 = b2 ++ ((x.done.take q).map dnB).flatten) ∧ Ext w wr ∧ Blk wr g 28 (stcells s (.slice Al s.links.length cl) (.slice (some ad) s.sess.length ca)).toArray ∧ Blk wr g8 56 (secells x (.slice Ad x.done.length cd)).toArray) (fun i _ _ => (x.done.length - intOf i).toNat)
              case atStart => exact ⟨0, b2, A2, c2, by omega, rfl, rfl, hb2_, hide (by simp), hxr, hBr, hE⟩
              case round =>
                clear hb2_ hxr hBr hE
                obtain ⟨q, b3, A3, c3, hq, rfl, rfl, hb3, hbe3, hxr, hBr, hE3⟩ := hrel
                have ee2 := (hE3.cell 2).trans rfl
                by_cases hlt : q < x.done.length
                · obtain ⟨ad3, d, rfl, hdk, hbk3, p0, p1, p2, hdq, hde, hdt⟩ := dn_at (hd0.ext hxr) (k := q) hlt
                  have hab3 : (ad3.add (q * 3)).block < wr.heap.size := by rw [block_of_add]; exact hbk3
                  have hde0 := hxe d (List.mem_of_getElem? hdk.out)
                  have hde1 := hxe2 d (List.mem_of_getElem? hdk.out)
                  have HWE : IntKind.u8.wrap d.an.err = d.an.err := by rw [IntKind.wrap_u8]; omega
                  obtain ⟨ve, hve, hve2⟩ := be1_byte hde0 hde1
                  have HVE := hide hve
                  clear hve
                  have hbl3 : Hid (b3.length + (dnB d).length ≤ 100000000000000) := hide (by
                    rw [hbe3.out, List.length_append]
                    have := bflat_mem dnB hdk.out
                    omega)
                  have hxl3 := hbl3.out
                  rw [dnB_len] at hxl3
                  have HBE3 : Hid (b3 ++ dnB d = b2 ++ ((x.done.take (q + 1)).map dnB).flatten) := hide (by rw [bflat_snoc dnB hdk.out, hbe3.out, List.append_assoc])
                  have hb1 : (0 : Int) ≤ q := by omega
                  have hb2 : (q : Int) < x.done.length := by omega
                  have HLT3 := hide hlt
                  clear hlt hbe3
                  go_upto_region 21 with fail
                  refine Rg.regionT Tryz.checked.mixed 123 17 (by kernel_rfl) [
                    (fun x_ _ => x_ = .slice A3 b3.length c3),
                    (fun x_ _ => x_ = .pointer (some ⟨g8, 2, none⟩)),
                    (fun x_ _ => x_ = .slice (some ad3) x.done.length cd),
                    (fun x_ _ => x_ = .int .i64 q),
                    (fun x_ _ => x_ = .pointer (some (ad3.add (q * 3)))),
                    (fun x_ _ => x_ = .pointer (some (ad3.add (q * 3)))),
                    (fun x_ _ => x_ = .int .u64 d.seq),
                    (fun v W => Nw wr W v (b3 ++ be 8 d.seq.toNat)),
                    (fun x_ _ => x_ = .pointer (some ⟨g8, 2, none⟩)),
                    (fun x_ _ => x_ = .slice (some ad3) x.done.length cd),
                    (fun x_ _ => x_ = .int .i64 q),
                    (fun x_ _ => x_ = .pointer (some (ad3.add (q * 3)))),
                    (fun x_ _ => x_ = .pointer (some ⟨(ad3.add (q * 3)).block, (ad3.add (q * 3)).off + 1, none⟩)),
                    (fun x_ _ => x_ = .pointer (some ⟨(ad3.add (q * 3)).block, (ad3.add (q * 3)).off + 1, none⟩)),
                    (fun x_ _ => x_ = .int .i64 d.an.err),
                    (fun x_ _ => x_ = .int .u8 d.an.err),
                    (fun v W => Bs W v [ve])] (fun W => Ext wr W) Ext rfl rfl rfl
                    ?st ((Ext.rfl' wr).drew') ?ob ?en
                  case st => exact ⟨fun _ _ _ h _ => h, fun _ _ _ h _ => h, fun _ _ _ h _ => h, fun _ _ _ h _ => h, fun _ _ _ h _ => h, fun _ _ _ h _ => h, fun _ _ _ h _ => h, fun _ _ _ h hx => own_ext h hx, fun _ _ _ h _ => h, fun _ _ _ h _ => h, fun _ _ _ h _ => h, fun _ _ _ h _ => h, fun _ _ _ h _ => h, fun _ _ _ h _ => h, fun _ _ _ h _ => h, fun _ _ _ h _ => h, fun _ _ _ h hx => h.ext hx, trivial⟩
                  case ob =>
                    refine ⟨Rg.at_run [3] rfl ?_, ?_⟩
                    · intro ρ W hR ⟨q3, _⟩
                      replace q3 : ρ 3 = .slice A3 b3.length c3 := q3
                      refine ⟨rfl, ?_⟩
                      exact Rg.run_ok (v := .slice A3 b3.length c3) (by simp [execOp, Rg.ev, go_sem, q3]) ⟨rfl, hR, Ext.rfl' _⟩
                    refine ⟨Rg.at_run [7] rfl ?_, ?_⟩
                    · intro ρ W hR ⟨q7, _⟩
                      replace q7 : ρ 7 = .pointer (some ⟨g8, 0, none⟩) := q7
                      refine ⟨rfl, ?_⟩
                      exact Rg.run_ok (v := .pointer (some ⟨g8, 2, none⟩)) (by simp [execOp, Rg.ev, go_sem, q7]) ⟨rfl, hR, Ext.rfl' _⟩
                    refine ⟨Rg.at_run [95] rfl ?_, ?_⟩
                    · intro ρ W hR ⟨q95, _⟩
                      replace q95 : ρ 95 = .pointer (some ⟨g8, 2, none⟩) := q95
                      refine ⟨rfl, ?_⟩
                      have c2_ : W.cell? ⟨g8, 2, none⟩ = some (.slice (some ad3) x.done.length cd) := ((hE3.ext hR).cell 2).trans rfl
                      exact Rg.run_ok (v := .slice (some ad3) x.done.length cd) (by simp [execOp, Rg.ev, go_sem, q95, c2_]) ⟨rfl, hR, Ext.rfl' _⟩
                    refine ⟨Rg.at_run [8] rfl ?_, ?_⟩
                    · intro ρ W hR ⟨q8, _⟩
                      replace q8 : ρ 8 = .int .i64 q := q8
                      refine ⟨rfl, ?_⟩
                      exact Rg.run_ok (v := .int .i64 q) (by simp [execOp, Rg.ev, go_sem, q8]) ⟨rfl, hR, Ext.rfl' _⟩
                    refine ⟨Rg.at_run [96, 97] rfl ?_, ?_⟩
                    · intro ρ W hR ⟨q96, q97, _⟩
                      replace q96 : ρ 96 = .slice (some ad3) x.done.length cd := q96
                      replace q97 : ρ 97 = .int .i64 q := q97
                      refine ⟨rfl, ?_⟩
                      exact Rg.run_ok (v := .pointer (some (ad3.add (q * 3)))) (by simp [execOp, Rg.ev, go_sem, q96, q97, hb1, hb2]) ⟨rfl, hR, Ext.rfl' _⟩
                    refine ⟨Rg.at_run [98] rfl ?_, ?_⟩
                    · intro ρ W hR ⟨q98, _⟩
                      replace q98 : ρ 98 = .pointer (some (ad3.add (q * 3))) := q98
                      refine ⟨rfl, ?_⟩
                      exact Rg.run_ok (v := .pointer (some (ad3.add (q * 3)))) (by simp [execOp, Rg.ev, go_sem, q98]) ⟨rfl, hR, Ext.rfl' _⟩
                    refine ⟨Rg.at_run [99] rfl ?_, ?_⟩
                    · intro ρ W hR ⟨q99, _⟩
                      replace q99 : ρ 99 = .pointer (some (ad3.add (q * 3))) := q99
                      refine ⟨rfl, ?_⟩
                      have c0_ : W.cell? (ad3.add (q * 3)) = some (.int .u64 d.seq) := (hR.cell (p := ad3.add (q * 3)) hab3).trans p0
                      exact Rg.run_ok (v := .int .u64 d.seq) (by simp [execOp, Rg.ev, go_sem, q99, c0_]) ⟨rfl, hR, Ext.rfl' _⟩
                    refine ⟨Rg.at_run [94, 100] rfl ?_, ?_⟩
                    · intro ρ W hR ⟨q94, q100, _⟩
                      replace q94 : ρ 94 = .slice A3 b3.length c3 := q94
                      replace q100 : ρ 100 = .int .u64 d.seq := q100
                      refine ⟨rfl, ?_⟩
                      refine Rg.run_enter (by simp [execOp, Rg.ev, go_sem, q94, q100]; exact ⟨⟨rfl, rfl⟩, rfl⟩) ?_
                      refine (dPut8 _ b3 d.seq W hdq (by omega) ((Bs.own hb3).ext hR)).mono ?_
                      rintro e w2 ⟨m_, Am, cm, hm_, rfl, hz, hxx⟩
                      have hm' := hm_.out
                      subst hm'
                      exact ⟨_, rfl, hz.trans (hR), hR.trans' hxx, hxx⟩
                    refine ⟨Rg.at_run [7] rfl ?_, ?_⟩
                    · intro ρ W hR ⟨q7, _⟩
                      replace q7 : ρ 7 = .pointer (some ⟨g8, 0, none⟩) := q7
                      refine ⟨rfl, ?_⟩
                      exact Rg.run_ok (v := .pointer (some ⟨g8, 2, none⟩)) (by simp [execOp, Rg.ev, go_sem, q7]) ⟨rfl, hR, Ext.rfl' _⟩
                    refine ⟨Rg.at_run [102] rfl ?_, ?_⟩
                    · intro ρ W hR ⟨q102, _⟩
                      replace q102 : ρ 102 = .pointer (some ⟨g8, 2, none⟩) := q102
                      refine ⟨rfl, ?_⟩
                      have c2_ : W.cell? ⟨g8, 2, none⟩ = some (.slice (some ad3) x.done.length cd) := ((hE3.ext hR).cell 2).trans rfl
                      exact Rg.run_ok (v := .slice (some ad3) x.done.length cd) (by simp [execOp, Rg.ev, go_sem, q102, c2_]) ⟨rfl, hR, Ext.rfl' _⟩
                    refine ⟨Rg.at_run [8] rfl ?_, ?_⟩
                    · intro ρ W hR ⟨q8, _⟩
                      replace q8 : ρ 8 = .int .i64 q := q8
                      refine ⟨rfl, ?_⟩
                      exact Rg.run_ok (v := .int .i64 q) (by simp [execOp, Rg.ev, go_sem, q8]) ⟨rfl, hR, Ext.rfl' _⟩
                    refine ⟨Rg.at_run [103, 104] rfl ?_, ?_⟩
                    · intro ρ W hR ⟨q103, q104, _⟩
                      replace q103 : ρ 103 = .slice (some ad3) x.done.length cd := q103
                      replace q104 : ρ 104 = .int .i64 q := q104
                      refine ⟨rfl, ?_⟩
                      exact Rg.run_ok (v := .pointer (some (ad3.add (q * 3)))) (by simp [execOp, Rg.ev, go_sem, q103, q104, hb1, hb2]) ⟨rfl, hR, Ext.rfl' _⟩
                    refine ⟨Rg.at_run [105] rfl ?_, ?_⟩
                    · intro ρ W hR ⟨q105, _⟩
                      replace q105 : ρ 105 = .pointer (some (ad3.add (q * 3))) := q105
                      refine ⟨rfl, ?_⟩
                      exact Rg.run_ok (v := .pointer (some ⟨(ad3.add (q * 3)).block, (ad3.add (q * 3)).off + 1, none⟩)) (by simp [execOp, Rg.ev, go_sem, q105]) ⟨rfl, hR, Ext.rfl' _⟩
                    refine ⟨Rg.at_run [106] rfl ?_, ?_⟩
                    · intro ρ W hR ⟨q106, _⟩
                      replace q106 : ρ 106 = .pointer (some ⟨(ad3.add (q * 3)).block, (ad3.add (q * 3)).off + 1, none⟩) := q106
                      refine ⟨rfl, ?_⟩
                      exact Rg.run_ok (v := .pointer (some ⟨(ad3.add (q * 3)).block, (ad3.add (q * 3)).off + 1, none⟩)) (by simp [execOp, Rg.ev, go_sem, q106]) ⟨rfl, hR, Ext.rfl' _⟩
                    refine ⟨Rg.at_run [107] rfl ?_, ?_⟩
                    · intro ρ W hR ⟨q107, _⟩
                      replace q107 : ρ 107 = .pointer (some ⟨(ad3.add (q * 3)).block, (ad3.add (q * 3)).off + 1, none⟩) := q107
                      refine ⟨rfl, ?_⟩
                      have c1_ : W.cell? ⟨(ad3.add (q * 3)).block, (ad3.add (q * 3)).off + 1, none⟩ = some (.int .i64 d.an.err) := (hR.cell (p := ⟨(ad3.add (q * 3)).block, (ad3.add (q * 3)).off + 1, none⟩) hab3).trans p1
                      exact Rg.run_ok (v := .int .i64 d.an.err) (by simp [execOp, Rg.ev, go_sem, q107, c1_]) ⟨rfl, hR, Ext.rfl' _⟩
                    refine ⟨Rg.at_run [108] rfl ?_, ?_⟩
                    · intro ρ W hR ⟨q108, _⟩
                      replace q108 : ρ 108 = .int .i64 d.an.err := q108
                      refine ⟨rfl, ?_⟩
                      exact Rg.run_ok (v := .int .u8 d.an.err) (by simp [execOp, Rg.ev, go_sem, q108, HWE]) ⟨rfl, hR, Ext.rfl' _⟩
                    refine ⟨Rg.at_run [109] rfl ?_, ?_⟩
                    · intro ρ W hR ⟨q109, _⟩
                      replace q109 : ρ 109 = .int .u8 d.an.err := q109
                      refine ⟨rfl, ?_⟩
                      refine Rg.run_ok (v := .slice (some ⟨W.heap.size, 0, none⟩) 1 1) (W' := W.alloc (.cells #[.int .u8 d.an.err] 5)) (by simp [execOp, Rg.ev, go_sem, q109]) ⟨?_, hR.alloc' _, (Ext.rfl' _).alloc' _⟩
                      have h := lit8 W ve W.heap.size rfl
                      rw [hve2] at h
                      exact h
                    trivial
                  case en =>
                    intro tm W hR hsz hk
                    rw [Rg.fin_eq (ds := [94, 95, 96, 97, 98, 99, 100, 101, 102, 103, 104, 105, 106, 107, 108, 109, 110]) rfl rfl rfl hsz hk]
                    have k94 : tm.getD 94 undef = .slice A3 b3.length c3 := hk 94
                    have k95 : tm.getD 95 undef = .pointer (some ⟨g8, 2, none⟩) := hk 95
                    have k96 : tm.getD 96 undef = .slice (some ad3) x.done.length cd := hk 96
                    have k97 : tm.getD 97 undef = .int .i64 q := hk 97
                    have k98 : tm.getD 98 undef = .pointer (some (ad3.add (q * 3))) := hk 98
                    have k99 : tm.getD 99 undef = .pointer (some (ad3.add (q * 3))) := hk 99
                    have k100 : tm.getD 100 undef = .int .u64 d.seq := hk 100
                    have k101 : (fun v W => Nw wr W v (b3 ++ be 8 d.seq.toNat)) (tm.getD 101 undef) W := hk 101
                    have k102 : tm.getD 102 undef = .pointer (some ⟨g8, 2, none⟩) := hk 102
                    have k103 : tm.getD 103 undef = .slice (some ad3) x.done.length cd := hk 103
                    have k104 : tm.getD 104 undef = .int .i64 q := hk 104
                    have k105 : tm.getD 105 undef = .pointer (some (ad3.add (q * 3))) := hk 105
                    have k106 : tm.getD 106 undef = .pointer (some ⟨(ad3.add (q * 3)).block, (ad3.add (q * 3)).off + 1, none⟩) := hk 106
                    have k107 : tm.getD 107 undef = .pointer (some ⟨(ad3.add (q * 3)).block, (ad3.add (q * 3)).off + 1, none⟩) := hk 107
                    have k108 : tm.getD 108 undef = .int .i64 d.an.err := hk 108
                    have k109 : tm.getD 109 undef = .int .u8 d.an.err := hk 109
                    have k110 : (fun v W => Bs W v [ve]) (tm.getD 110 undef) W := hk 110
                    clear hk hsz
                    simp only [Rg.putAll, List.setIfInBounds_toArray, List.set_cons_zero, List.set_cons_succ, k94, k95, k96, k97, k98, k99, k100, k102, k103, k104, k105, k106, k107, k108, k109]
                    clear k94
                    clear k95
                    clear k96
                    clear k97
                    clear k98
                    clear k99
                    clear k100
                    generalize tm.getD 101 undef = u101 at *
                    clear k102
                    clear k103
                    clear k104
                    clear k105
                    clear k106
                    clear k107
                    clear k108
                    clear k109
                    generalize tm.getD 110 undef = u110 at *
                    obtain ⟨b4, hb4⟩ : ∃ b4, b3 ++ be 8 d.seq.toNat = b4 := ⟨_, rfl⟩
                    rw [hb4] at k101
                    have HB6 := hide hb4
                    have hb4l : b4.length = b3.length + 8 := by rw [← hb4]; simp only [List.length_append, be_length]
                    clear hb4
                    obtain ⟨A5, c5, hv5, -, -⟩ := own_slice (id k101)
                    subst hv5
                    have hxW := hxr.trans' hR
                    have hE4 := hE3.ext hR
                    have hB4 := hBr.ext hR
                    have ee4 := (hE4.cell 2).trans rfl
                    have hn101 := own_base (base' := w.heap.size) k101 hxr.size
                    clear ee2
                    simp only [List.drop_succ_cons, List.drop_zero]
                    refine wpList_app wr _ rfl (.tmp 101) (.tmp 110) rfl (.slice A5 b4.length c5) b4 rfl k101 hR _ [ve] rfl k110 (by simp only [List.length_cons, List.length_nil]; omega) ?_
                    intro k4 A4 c4 W6 hk4 hz4 hx4 hg4
                    go_upto_region 22 with fail
                    replace hE4 := hE3.ext hx4
                    replace hB4 := hBr.ext hx4
                    replace ee4 := (hE4.cell 2).trans rfl
                    replace p2 := (hx4.cell (p := ⟨(ad3.add (q * 3)).block, (ad3.add (q * 3)).off + 2, none⟩) hab3).trans p2
                    have hl4 : k4.length + d.an.text.length ≤ 100000000000000 := by rw [hk4.out]; simp only [List.length_append, List.length_cons, List.length_nil]; omega
                    have HB4 : Hid (k4 ++ txB d.an.text = b2 ++ ((x.done.take (q + 1)).map dnB).flatten) := hide (by rw [← HBE3.out, hk4.out, ← HB6.out, ← HVE.out]; simp [dnB])
                    clear hk4 HVE hve2 k101 k110 hn101 HBE3 hE3 hBr hb3 hR hxW
                    obtain ⟨Ac, cc, W7, hcv, hbs7, hx7⟩ := conv_bytes W6 d.an.text (by omega)
                    go_wp2_with fail
                    refine (dPutB _ _ k4 d.an.text W7 (by omega) (hz4.bs.ext hx7) hbs7).mono ?_
                    rintro e w8 ⟨m8, Am8, cm8, hm8, rfl, hz8, hx8⟩
                    go_wp2_with fail
                    go_roundw
                    case rel => exact ⟨q + 1, m8, Am8, cm8, by have := HLT3.out; omega, by go_num, rfl, own_base hz8 (Nat.le_trans hxr.size (hx4.trans' hx7).size), hide (by rw [hm8.out]; exact HB4.out), ((hxr.trans' hx4).trans' hx7).trans' hx8, (hB4.ext hx7).ext hx8, (hE4.ext hx7).ext hx8⟩
                    case measure => have := HLT3.out; simp [intOf]; omega
                · obtain rfl : q = x.done.length := by omega
                  rw [List.take_length] at hbe3
                  have HB4 : Hid (b3 = bz ++ ((s.sess.take (m + 1)).map seB).flatten) := hide (by rw [← HBE.out, hbe3.out, HB5.out]; simp [seB, seH])
                  go_wp2_with fail
                  go_roundw
                  case rel => exact ⟨m + 1, b3, A3, c3, by have := HLT.out; omega, by go_num, rfl, hb3, HB4, hxr, hBr⟩
                  case measure => have := HLT.out; simp [intOf]; omega
          · obtain rfl : m = s.sess.length := by omega
            rw [List.take_length] at hbe
            have HF : Hid (b = stB s) := hide (by rw [hbe.out, HBZ.out]; rfl)
            go_wp2
            go_ret
            exact ⟨b, A, c, HF, rfl, hb, hxr⟩
end Go.Proofs.YtamimdlaclglkaaGreat
