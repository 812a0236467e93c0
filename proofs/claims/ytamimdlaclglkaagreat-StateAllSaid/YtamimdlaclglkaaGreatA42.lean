/- A part of the proof of 'StateAll'. -/
import Derived.Test.YtamimdlaclglkaaGreatA41
import Derived.Test.YtamimdlaclglkaaGreatA12
import Derived.Test.YtamimdlaclglkaaGreatA26
import Derived.Deep.DeepCutAuto
namespace Go.Proofs.YtamimdlaclglkaaGreat
set_option linter.unusedVariables false
set_option linter.unusedSimpArgs false
set_option linter.unnecessarySimpa false
set_option maxRecDepth 100000
open Go.RowKit
theorem KInv.len {done : List Dn} {seq H : Int} {a : An} {k : Nat} {l : List Dn} {put : Bool} (h : KInv done seq H a k l put) : l.length ≤ k + 1 := by
 have h1 : ((done.take k).filter (keepQ seq H)).length ≤ k := Nat.le_trans (List.length_filter_le _ _) (by rw [List.length_take]; omega)
 cases put with
 | false => rw [(h.no rfl).1]; omega
 | true =>
  rw [(h.yes rfl).1]
  unfold dput
  simp only [List.length_append, List.length_cons, List.length_take, List.length_drop]
  omega
set_option maxHeartbeats 6400000 in
theorem rkeep_b (s : St) (cs : List Value) (c : Cm) (a : An) (w : World) (hs : stE.rep w noneAt cs s) (hc : c.wide) (ha : I64 a.err ∧ a.text.length ≤ maxLen) (hl : s.sess.length ≤ 1000)
  (hd : ∀ x ∈ s.sess, RiseD x.done ∧ x.done.length ≤ 1000) :
  Calls Tryz.prog 33 #[.agg cs.toArray, cv c, .agg (acells a).toArray] w fun e w' => RetAgg stE noneAt w w' e (keep s c.client c.seq a) := by
 obtain ⟨vl, vs, rfl, s1, s2, s3, s4⟩ := st_rep.1 hs
 obtain ⟨Al, cl, rfl, -, -⟩ := s3.form
 obtain ⟨As, cs', rfl, q3, q4⟩ := s4.form
 unfold maxLen at q4
 obtain ⟨kind, client, seq, name, url, till⟩ := c
 obtain ⟨k0, k1, c0, c1, q0, q1, n1, u1, t0, t1⟩ := hc
 simp only at k0 k1 c0 c1 q0 q1 n1 u1 t0 t1
 obtain ⟨hB, hC, hA, hR, hx0, hsz0⟩ := new4 w 28 37 33 28 (stcells s (.slice Al s.links.length cl) (.slice As s.sess.length cs')).toArray (ccells ⟨kind, client, seq, name, url, till⟩) (acells a).toArray #[.int .u64 0, .int .u64 0, .slice none 0 0, .slice none 0 0]
 have HSE := hide (fun W cs h => rsession_b s cs client W h ⟨c0, c1⟩)
 obtain ⟨S, hS⟩ : ∃ S, sown s.sess client = S := ⟨_, rfl⟩
 have hSd : RiseD S.done ∧ S.done.length ≤ 1000 := by
  rw [← hS]
  unfold sown
  split
  ·rename_i x hx
   split
   ·exact hd x (List.mem_of_getElem? hx)
   ·exact ⟨.nil, by simp⟩
  ·exact ⟨.nil, by simp⟩
 show Calls Tryz.prog 33 _ w fun e w' => RetAgg stE noneAt w w' e (keep s client seq a)
 have HK : Hid (keep s client seq a = ⟨s.now, s.count, s.links, swith s.sess (skeep S seq a)⟩) := by unfold Hid keep; rw [hS]
 rw [HK.out]
 have hScl : S.client = client := by rw [← hS]; exact sown_client _ _
 have HSH := hide hS
 have HX := hide hs
 clear hS hd hs
 go_enter Tryz.func33, Tryz.ntmps33
 go_wp2_with fail
 refine (HSE.out _ _ (stE.ext HX.out hx0)).mono ?_
 rintro e W1 ⟨rfl, hx1⟩
 obtain ⟨i, is, hsat⟩ : ∃ i is, sat s.sess client = (i, is) := ⟨_, _, rfl⟩
 rw [hsat]
 have hil : i ≤ s.sess.length := by
  have : i = cntP (ltC client) s.sess := (congrArg Prod.fst hsat).symm
  rw [this]; exact cntP_le _ _
 have HST := hide hsat
 replace hB := hB.ext hx1
 replace hC := hC.ext hx1
 replace hA := hA.ext hx1
 replace hR := hR.ext hx1
 replace hx0 := hx0.trans' hx1
 obtain ⟨g, hg⟩ : ∃ g, w.heap.size = g := ⟨_, rfl⟩
 rw [hg] at hB hC hA hR hsz0
 obtain ⟨g8, hg8⟩ : ∃ g, W1.heap.size = g := ⟨_, rfl⟩
 have hg38 : g + 3 < g8 := by have := hR.lt; omega
 clear hx1 hsz0 hsat
 change Blk _ (g + 1 + 1) _ _ at hA
 change Blk _ (g + 1 + 1 + 1) _ _ at hR
 have y1 := (hC.cell 1).trans rfl
 go_upto_if 24 with fail
 go_cut [] (fun wx => ∃ Av cv, Blk wx g8 56 #[.int .i64 client, .int .u64 S.high, .slice Av S.done.length cv] ∧ Enc.Sl dnE wx (fun k => k = g8) (.slice Av S.done.length cv) S.done ∧ Ext W1 wx ∧ U64 S.high)
 case first =>
  cases is with
  | false =>
   have hSN : S = ⟨client, 0, []⟩ := HSH.out.symm.trans (sown_sat_no HST.out)
   have hb := Blk.new W1 56 #[.int .i64 client, .int .u64 0, .slice none 0 0]
   rw [hg8] at hb
   have hxb : Ext W1 (W1.alloc (.cells #[.int .i64 client, .int .u64 0, .slice none 0 0] 56)) := (Ext.rfl' W1).alloc' _
   go_wp2_with fail
   go_meet
   case rel =>
    rw [hSN]
    exact ⟨none, 0, hb, Enc.Sl.nil _ _ _, hxb, by constructor <;> simp⟩
  | true =>
   obtain ⟨x, hxi, hxc, hxS⟩ := sown_sat_yes HST.out
   obtain rfl : x = S := hxS.symm.trans HSH.out
   have hi : i < s.sess.length := (List.getElem?_eq_some_iff.1 hxi).1
   obtain ⟨ad, y, v, rfl, hy, hbk, p0, p1, p2, r1, r2, r3⟩ := se_at (s4.ext hx0) (k := i) hi
   obtain rfl : x = y := Option.some.inj (hxi.symm.trans hy.out)
   obtain ⟨Av, cv', rfl, -, -⟩ := r3.form
   have hab : (ad.add (i * 3)).block < W1.heap.size := by unfold Addr.add; split <;> exact hbk
   have hxa : Ext W1 (W1.alloc (.cells #[.int .i64 client, .int .u64 0, .slice none 0 0] 56)) := (Ext.rfl' W1).alloc' _
   replace p0 := (hxa.cell (p := ad.add (i * 3)) hab).trans p0
   replace p1 := (hxa.cell (p := ⟨(ad.add (i * 3)).block, (ad.add (i * 3)).off + 1, none⟩) hab).trans p1
   replace p2 := (hxa.cell (p := ⟨(ad.add (i * 3)).block, (ad.add (i * 3)).off + 2, none⟩) hab).trans p2
   have hb := Blk.new W1 56 #[.int .i64 client, .int .u64 x.high, .slice Av x.done.length cv']
   rw [hg8] at hb
   have hxb : Ext W1 (W1.alloc (.cells #[.int .i64 client, .int .u64 x.high, .slice Av x.done.length cv'] 56)) := (Ext.rfl' W1).alloc' _
   have b3 := ((hB.alloc (.cells #[.int .i64 client, .int .u64 0, .slice none 0 0] 56)).cell 3).trans rfl
   go_wp2_with fail
   go_meet
   case rel => exact ⟨Av, cv', hb, (r3.mono (Y := fun k => k = g8) fun k hk h => absurd h (by omega)).ext hxb, hxb, r2⟩
 case rest =>
  obtain ⟨Av, cvv, hO, hSl, hx2, hSU⟩ := hcut
  obtain ⟨H, hH⟩ : ∃ H, max S.high seq = H := ⟨_, rfl⟩
  have HH := hide hH
  have hHU : U64 H := ⟨by have := hSU.1; omega, by have := hSU.2; omega⟩
  clear hH
  generalize wc = W2 at *
  have o1 := (hO.cell 1).trans rfl
  have f1 := hO.frozen 1
  have y2 := ((hC.ext hx2).cell 2).trans rfl
  clear y1
  go_upto_region 5 with fail
  go_cut [] (fun wx => Blk wx g8 56 #[.int .i64 client, .int .u64 H, .slice Av S.done.length cvv] ∧ Chg [g8] W2 wx)
  case first =>
   by_cases hmx : seq ≤ S.high
   ·have hmx2 : ¬ S.high < seq := by omega
    have hHe : H = S.high := by rw [← HH.out]; omega
    go_wp2_with fail
    go_meet
    case rel => exact ⟨by first | (rw [hHe]; exact hO.set_ 1 _) | (rw [← HH.out]; exact hO.set_ 1 _), (Chg.refl _ _).set (by simp) _⟩
   ·have hmx2 : S.high < seq := by omega
    have hHe : H = seq := by rw [← HH.out]; omega
    go_wp2_with fail
    go_meet
    case rel => exact ⟨by first | (rw [hHe]; exact hO.set_ 1 _) | (rw [← HH.out]; exact hO.set_ 1 _), (Chg.refl _ _).set (by simp) _⟩
  case rest =>
   clear o1 f1 y2
   obtain ⟨hO3, hc3⟩ := hcut
   have hx3 : Ext W1 wc := hx2.then_ hc3 (by simp; omega)
   have hSl3 := hSl.chg hc3 (fun k hk _ => by simpa using hk)
   generalize wc = W3 at *
   clear hO hc3 hx2 hSl
   replace hB := hB.ext hx3
   replace hC := hC.ext hx3
   replace hA := hA.ext hx3
   replace hR := hR.ext hx3
   replace hx0 := hx0.trans' hx3
   have hgU : w.heap.size = g := hg
   go_wp2_with fail
   go_loopw [10, 11, 12] (fun vl vp vi wr => ∃ (k : Nat) (l : List Dn) (A : Option Addr) (cc : Nat) (put : Bool), (k : Int) ≤ S.done.length ∧ vl = .slice A l.length cc ∧ vp = .bool put ∧ vi = .int .i64 k ∧ KInv S.done seq H a k l put ∧ Own 68 dnE W3 wr noneAt (.slice A l.length cc) l ∧ l.length ≤ k + 1 ∧ Ext W3 wr) (fun _ _ vi _ => (S.done.length - intOf vi).toNat)
   case atStart => exact ⟨0, [], none, 0, false, by omega, rfl, rfl, rfl, KInv.start _ _ _ _, Own.nil _ _ _ _ _, by simp, Ext.rfl' _⟩
   case round =>
    obtain ⟨k, l, A, cc, put, hk, rfl, rfl, rfl, hI, hown, hlk, hx4⟩ := hrel
    have hOr := hO3.ext hx4
    have o2 := (hOr.cell 2).trans rfl
    by_cases hlt : (k : Int) < S.done.length
    ·have HLT := hide hlt
     obtain ⟨ad, d, rfl, hdk, hb, p0, p1, p2, r1, r2, r3⟩ := dn_at (hSl3.ext hx4) (k := k) (by omega)
     have y2 := ((hC.ext hx4).cell 2).trans rfl
     go_upto_region 11 with fail
     go_cut [55] (fun b wx => b = .bool (!put && decide (seq < d.seq)) ∧ Ext wr wx)
     case first =>
      have hdx := (Ext.rfl' wr).drew'
      cases put with
      | true =>
       go_region
       go_wp2_with fail
       go_meet
       case rel => exact ⟨rfl, hdx⟩
      | false =>
       by_cases hgt : seq < d.seq
       ·go_region
        go_wp2_with fail
        go_meet
        case rel => exact ⟨by simp [hgt], hdx⟩
       ·go_region
        go_wp2_with fail
        go_meet
        case rel => exact ⟨by simp [hgt], hdx⟩
     case rest =>
      obtain ⟨rfl, hx5⟩ := hcut
      obtain ⟨b0, hb0⟩ : ∃ b0, (!put && decide (seq < d.seq)) = b0 := ⟨_, rfl⟩
      have HB0 := hide hb0
      rw [hb0]
      clear hb0
      have hown5 := hown.ext hx5
      have hx35 := hx4.trans' hx5
      have HX5 := hide hx5
      clear hx5
      generalize wc = W5 at *
      have hA5 := hA.ext hx35
      have a0 := (hA5.cell 0).trans rfl
      have a1 := (hA5.cell 1).trans rfl
      have y5 := ((hC.ext hx35).cell 2).trans rfl
      clear o2 p0 p1 p2 y2
      go_upto_if 55 with fail
      go_cut [10, 11] (fun vl vp wx => ∃ l2 A2 c2 put2, vl = .slice A2 l2.length c2 ∧ vp = .bool put2 ∧ KInv S.done seq H a k l2 put2 ∧ (put2 = false → d.seq ≤ seq) ∧ Own 68 dnE W3 wx noneAt (.slice A2 l2.length c2) l2 ∧ Ext W3 wx)
      case first =>
       have hl5 := hI.len
       have hka : k < S.done.length := by have := HLT.out; omega
       have hk1 : k ≤ 1000 := by omega
       cases b0 with
       | false =>
        have hpf : put = false → d.seq ≤ seq := by
         intro h
         have := HB0.out
         subst h
         simpa using this
        go_wp2_with fail
        go_meet
        case rel => exact ⟨l, A, cc, put, rfl, rfl, hI, hpf, hown5, hx35⟩
       | true =>
        obtain ⟨hpf, hgt⟩ : put = false ∧ seq < d.seq := by have := HB0.out; simpa using this
        have hxa : Ext W5 (W5.alloc (.cells (dcells ⟨seq, a⟩).toArray 68)) := (Ext.rfl' W5).alloc' _
        have hlit := Sl.one 68 (E := dnE) (w := W5) (X := fun i => noneAt i ∨ (Value.slice A l.length cc).ownBlock = some i) (cs := dcells ⟨seq, a⟩) (a := ⟨seq, a⟩) (dn_rep.2 ⟨rfl, ⟨q0, q1⟩, ha.1, ha.2⟩) W5.heap.size rfl (fun h => h.elim (fun h => h.elim) fun h => by have := (hown5.lt _ h).2; omega)
        go_wp2_with (at_builtin; refine wpList_own elt_dn 54 Tryz.underlying54 rfl _ _ rfl (hown5.ext hxa) rfl (hx35.trans' hxa) (m := [⟨seq, a⟩]) (y := .slice (some ⟨W5.heap.size, 0, none⟩) 1 1) rfl hlit (fun h => h.elim) (by simp only [List.length_singleton]; omega) (by simp only [List.length_singleton]; omega) ?_; intro l2 A2 c2 w2 hl2 hown2 hxx hcc)
        go_meet
        case rel =>
         have hl2' := hl2.out
         subst hl2'
         exact ⟨_, A2, c2, true, rfl, rfl, hI.mid hSd.1 hdk.out hgt hpf, (fun h => by cases h), hown2, hxx⟩
      case rest =>
       obtain ⟨l2, A2, c2, put2, rfl, rfl, hI2, hp2, hown2, hx36⟩ := hcut
       have hO6 := hO3.ext hx36
       have hC6 := hC.ext hx36
       obtain ⟨ad', d', had, hdk', hb', p0, p1, p2, -, -, -⟩ := dn_at (hSl3.ext hx36) (k := k) (by have := HLT.out; omega)
       obtain rfl := Option.some.inj had
       obtain rfl : d = d' := Option.some.inj (hdk.out.symm.trans hdk'.out)
       clear had hdk'
       generalize wc = W6 at *
       have hab : (ad.add (k * 3)).block < W6.heap.size := by unfold Addr.add; split <;> exact hb'
       have hb1 : (0 : Int) ≤ k := by omega
       have hb2 : (k : Int) < S.done.length := HLT.out
       clear a0 a1 y5
       go_upto_region 13 with fail
       go_cut [83] (fun b wx => b = .bool (keepQ seq H d) ∧ Ext W6 wx)
       case first =>
        by_cases heq : d.seq = seq
        ·have hkq : keepQ seq H d = false := by simp [keepQ, heq]
         refine Rg.regionT Tryz.checked.mixed 124 21 (by kernel_rfl) [
          (fun x_ _ => x_ = .pointer (some ⟨g8, 2, none⟩)),
          (fun x_ _ => x_ = .slice (some ad) S.done.length cvv),
          (fun x_ _ => x_ = .int .i64 k),
          (fun x_ _ => x_ = .pointer (some (ad.add (k * 3)))),
          (fun x_ _ => x_ = .pointer (some (ad.add (k * 3)))),
          (fun x_ _ => x_ = .int .u64 d.seq),
          (fun x_ _ => x_ = .pointer (some ⟨g + 1, 2, none⟩)),
          (fun x_ _ => x_ = .int .u64 seq),
          (fun x_ _ => x_ = .bool false),
          (fun x_ _ => x_ = .bool false),
          (fun x_ _ => x_ = undef),
          (fun x_ _ => x_ = undef),
          (fun x_ _ => x_ = undef),
          (fun x_ _ => x_ = undef),
          (fun x_ _ => x_ = undef),
          (fun x_ _ => x_ = undef),
          (fun x_ _ => x_ = undef),
          (fun x_ _ => x_ = undef),
          (fun x_ _ => x_ = undef),
          (fun x_ _ => x_ = undef),
          (fun x_ _ => x_ = .bool false)] (fun W => Ext W6 W) Ext rfl rfl rfl
          ?st ((Ext.rfl' W6).drew') ?ob ?en
         case st => exact ⟨fun _ _ _ h _ => h, fun _ _ _ h _ => h, fun _ _ _ h _ => h, fun _ _ _ h _ => h, fun _ _ _ h _ => h, fun _ _ _ h _ => h, fun _ _ _ h _ => h, fun _ _ _ h _ => h, fun _ _ _ h _ => h, fun _ _ _ h _ => h, fun _ _ _ h _ => h, fun _ _ _ h _ => h, fun _ _ _ h _ => h, fun _ _ _ h _ => h, fun _ _ _ h _ => h, fun _ _ _ h _ => h, fun _ _ _ h _ => h, fun _ _ _ h _ => h, fun _ _ _ h _ => h, fun _ _ _ h _ => h, fun _ _ _ h _ => h, trivial⟩
         case ob =>
          refine ⟨Rg.at_run [9] rfl ?_, ?_⟩
          ·intro ρ W hR ⟨q9, _⟩
           replace q9 : ρ 9 = .pointer (some ⟨g8, 0, none⟩) := q9
           refine ⟨rfl, ?_⟩
           exact Rg.run_ok (v := .pointer (some ⟨g8, 2, none⟩)) (by simp [execOp, Rg.ev, go_sem, q9]) ⟨rfl, hR, Ext.rfl' _⟩
          refine ⟨Rg.at_run [63] rfl ?_, ?_⟩
          ·intro ρ W hR ⟨q63, _⟩
           replace q63 : ρ 63 = .pointer (some ⟨g8, 2, none⟩) := q63
           refine ⟨rfl, ?_⟩
           have c2_ : W.cell? ⟨g8, 2, none⟩ = some (.slice (some ad) S.done.length cvv) := ((hO6.ext hR).cell 2).trans rfl
           exact Rg.run_ok (v := .slice (some ad) S.done.length cvv) (by simp [execOp, Rg.ev, go_sem, q63, c2_]) ⟨rfl, hR, Ext.rfl' _⟩
          refine ⟨Rg.at_run [12] rfl ?_, ?_⟩
          ·intro ρ W hR ⟨q12, _⟩
           replace q12 : ρ 12 = .int .i64 k := q12
           refine ⟨rfl, ?_⟩
           exact Rg.run_ok (v := .int .i64 k) (by simp [execOp, Rg.ev, go_sem, q12]) ⟨rfl, hR, Ext.rfl' _⟩
          refine ⟨Rg.at_run [64, 65] rfl ?_, ?_⟩
          ·intro ρ W hR ⟨q64, q65, _⟩
           replace q64 : ρ 64 = .slice (some ad) S.done.length cvv := q64
           replace q65 : ρ 65 = .int .i64 k := q65
           refine ⟨rfl, ?_⟩
           exact Rg.run_ok (v := .pointer (some (ad.add (k * 3)))) (by simp [execOp, Rg.ev, go_sem, q64, q65, hb1, hb2]) ⟨rfl, hR, Ext.rfl' _⟩
          refine ⟨Rg.at_run [66] rfl ?_, ?_⟩
          ·intro ρ W hR ⟨q66, _⟩
           replace q66 : ρ 66 = .pointer (some (ad.add (k * 3))) := q66
           refine ⟨rfl, ?_⟩
           exact Rg.run_ok (v := .pointer (some (ad.add (k * 3)))) (by simp [execOp, Rg.ev, go_sem, q66]) ⟨rfl, hR, Ext.rfl' _⟩
          refine ⟨Rg.at_run [67] rfl ?_, ?_⟩
          ·intro ρ W hR ⟨q67, _⟩
           replace q67 : ρ 67 = .pointer (some (ad.add (k * 3))) := q67
           refine ⟨rfl, ?_⟩
           have c_ : W.cell? (ad.add (k * 3)) = some (.int .u64 d.seq) := (hR.cell hab).trans p0
           exact Rg.run_ok (v := .int .u64 d.seq) (by simp [execOp, Rg.ev, go_sem, q67, c_]) ⟨rfl, hR, Ext.rfl' _⟩
          refine ⟨Rg.at_run [4] rfl ?_, ?_⟩
          ·intro ρ W hR ⟨q4, _⟩
           replace q4 : ρ 4 = .pointer (some ⟨g + 1, 0, none⟩) := q4
           refine ⟨rfl, ?_⟩
           exact Rg.run_ok (v := .pointer (some ⟨g + 1, 2, none⟩)) (by simp [execOp, Rg.ev, go_sem, q4]) ⟨rfl, hR, Ext.rfl' _⟩
          refine ⟨Rg.at_run [69] rfl ?_, ?_⟩
          ·intro ρ W hR ⟨q69, _⟩
           replace q69 : ρ 69 = .pointer (some ⟨g + 1, 2, none⟩) := q69
           refine ⟨rfl, ?_⟩
           have c2_ : W.cell? ⟨g + 1, 2, none⟩ = some (.int .u64 seq) := ((hC6.ext hR).cell 2).trans rfl
           exact Rg.run_ok (v := .int .u64 seq) (by simp [execOp, Rg.ev, go_sem, q69, c2_]) ⟨rfl, hR, Ext.rfl' _⟩
          refine ⟨Rg.at_run [68, 70] rfl ?_, ?_⟩
          ·intro ρ W hR ⟨q68, q70, _⟩
           replace q68 : ρ 68 = .int .u64 d.seq := q68
           replace q70 : ρ 70 = .int .u64 seq := q70
           refine ⟨rfl, ?_⟩
           exact Rg.run_ok (v := .bool false) (by simp [execOp, Rg.ev, go_sem, q68, q70, heq]) ⟨rfl, hR, Ext.rfl' _⟩
          refine ⟨Rg.at_run [71] rfl ?_, ?_⟩
          ·intro ρ W hR ⟨q71, _⟩
           replace q71 : ρ 71 = .bool false := q71
           refine ⟨rfl, ?_⟩
           exact Rg.run_ok (v := .bool false) (by simp [execOp, Rg.ev, go_sem, q71]) ⟨rfl, hR, Ext.rfl' _⟩
          refine ⟨Rg.at_skip [9, 72] rfl (by intro ρ W hR ⟨q9, q72, _⟩; replace q9 : ρ 9 = .pointer (some ⟨g8, 0, none⟩) := q9; replace q72 : ρ 72 = .bool false := q72; exact ⟨by simp [Rg.wants, q72], rfl, Ext.rfl' _⟩), ?_⟩
          refine ⟨Rg.at_skip [73, 72] rfl (by intro ρ W hR ⟨q73, q72, _⟩; replace q73 : ρ 73 = undef := q73; replace q72 : ρ 72 = .bool false := q72; exact ⟨by simp [Rg.wants, q72], rfl, Ext.rfl' _⟩), ?_⟩
          refine ⟨Rg.at_skip [12, 72] rfl (by intro ρ W hR ⟨q12, q72, _⟩; replace q12 : ρ 12 = .int .i64 k := q12; replace q72 : ρ 72 = .bool false := q72; exact ⟨by simp [Rg.wants, q72], rfl, Ext.rfl' _⟩), ?_⟩
          refine ⟨Rg.at_skip [74, 75, 72] rfl (by intro ρ W hR ⟨q74, q75, q72, _⟩; replace q74 : ρ 74 = undef := q74; replace q75 : ρ 75 = undef := q75; replace q72 : ρ 72 = .bool false := q72; exact ⟨by simp [Rg.wants, q72], rfl, Ext.rfl' _⟩), ?_⟩
          refine ⟨Rg.at_skip [76, 72] rfl (by intro ρ W hR ⟨q76, q72, _⟩; replace q76 : ρ 76 = undef := q76; replace q72 : ρ 72 = .bool false := q72; exact ⟨by simp [Rg.wants, q72], rfl, Ext.rfl' _⟩), ?_⟩
          refine ⟨Rg.at_skip [77, 72] rfl (by intro ρ W hR ⟨q77, q72, _⟩; replace q77 : ρ 77 = undef := q77; replace q72 : ρ 72 = .bool false := q72; exact ⟨by simp [Rg.wants, q72], rfl, Ext.rfl' _⟩), ?_⟩
          refine ⟨Rg.at_skip [9, 72] rfl (by intro ρ W hR ⟨q9, q72, _⟩; replace q9 : ρ 9 = .pointer (some ⟨g8, 0, none⟩) := q9; replace q72 : ρ 72 = .bool false := q72; exact ⟨by simp [Rg.wants, q72], rfl, Ext.rfl' _⟩), ?_⟩
          refine ⟨Rg.at_skip [79, 72] rfl (by intro ρ W hR ⟨q79, q72, _⟩; replace q79 : ρ 79 = undef := q79; replace q72 : ρ 72 = .bool false := q72; exact ⟨by simp [Rg.wants, q72], rfl, Ext.rfl' _⟩), ?_⟩
          refine ⟨Rg.at_skip [78, 80, 72] rfl (by intro ρ W hR ⟨q78, q80, q72, _⟩; replace q78 : ρ 78 = undef := q78; replace q80 : ρ 80 = undef := q80; replace q72 : ρ 72 = .bool false := q72; exact ⟨by simp [Rg.wants, q72], rfl, Ext.rfl' _⟩), ?_⟩
          refine ⟨Rg.at_skip [81, 72] rfl (by intro ρ W hR ⟨q81, q72, _⟩; replace q81 : ρ 81 = undef := q81; replace q72 : ρ 72 = .bool false := q72; exact ⟨by simp [Rg.wants, q72], rfl, Ext.rfl' _⟩), ?_⟩
          refine ⟨Rg.at_run [72, 82] rfl ?_, ?_⟩
          ·intro ρ W hR ⟨q72, q82, _⟩
           replace q72 : ρ 72 = .bool false := q72
           replace q82 : ρ 82 = undef := q82
           refine ⟨rfl, ?_⟩
           exact Rg.run_ok (v := .bool false) (by simp [execOp, Rg.ev, go_sem, q72, q82]) ⟨rfl, hR, Ext.rfl' _⟩
          trivial
         case en =>
          intro tm W hR hsz hk
          rw [Rg.fin_eq (ds := [63, 64, 65, 66, 67, 68, 69, 70, 71, 72, 73, 74, 75, 76, 77, 78, 79, 80, 81, 82, 83]) rfl rfl rfl hsz hk]
          have k63 : tm.getD 63 undef = .pointer (some ⟨g8, 2, none⟩) := hk 63
          have k64 : tm.getD 64 undef = .slice (some ad) S.done.length cvv := hk 64
          have k65 : tm.getD 65 undef = .int .i64 k := hk 65
          have k66 : tm.getD 66 undef = .pointer (some (ad.add (k * 3))) := hk 66
          have k67 : tm.getD 67 undef = .pointer (some (ad.add (k * 3))) := hk 67
          have k68 : tm.getD 68 undef = .int .u64 d.seq := hk 68
          have k69 : tm.getD 69 undef = .pointer (some ⟨g + 1, 2, none⟩) := hk 69
          have k70 : tm.getD 70 undef = .int .u64 seq := hk 70
          have k71 : tm.getD 71 undef = .bool false := hk 71
          have k72 : tm.getD 72 undef = .bool false := hk 72
          have k73 : tm.getD 73 undef = undef := hk 73
          have k74 : tm.getD 74 undef = undef := hk 74
          have k75 : tm.getD 75 undef = undef := hk 75
          have k76 : tm.getD 76 undef = undef := hk 76
          have k77 : tm.getD 77 undef = undef := hk 77
          have k78 : tm.getD 78 undef = undef := hk 78
          have k79 : tm.getD 79 undef = undef := hk 79
          have k80 : tm.getD 80 undef = undef := hk 80
          have k81 : tm.getD 81 undef = undef := hk 81
          have k82 : tm.getD 82 undef = undef := hk 82
          have k83 : tm.getD 83 undef = .bool false := hk 83
          clear hk hsz
          simp only [Rg.putAll, List.setIfInBounds_toArray, List.set_cons_zero, List.set_cons_succ, k63, k64, k65, k66, k67, k68, k69, k70, k71, k72, k73, k74, k75, k76, k77, k78, k79, k80, k81, k82, k83]
          clear k63
          clear k64
          clear k65
          clear k66
          clear k67
          clear k68
          clear k69
          clear k70
          clear k71
          clear k72
          clear k73
          clear k74
          clear k75
          clear k76
          clear k77
          clear k78
          clear k79
          clear k80
          clear k81
          clear k82
          clear k83
          refine Rg.nil_list ?_
          go_wp2_with fail
          go_meet
          case rel => exact ⟨by rw [hkq], hR⟩
        ·cases hst : stale d.seq H with
         | true =>
          have hkq : keepQ seq H d = false := by simp [keepQ, hst]
          have HSL := hide (fun W => hst ▸ rstale_b d.seq H W r1 hHU)
          refine Rg.regionT Tryz.checked.mixed 124 21 (by kernel_rfl) [
           (fun x_ _ => x_ = .pointer (some ⟨g8, 2, none⟩)),
           (fun x_ _ => x_ = .slice (some ad) S.done.length cvv),
           (fun x_ _ => x_ = .int .i64 k),
           (fun x_ _ => x_ = .pointer (some (ad.add (k * 3)))),
           (fun x_ _ => x_ = .pointer (some (ad.add (k * 3)))),
           (fun x_ _ => x_ = .int .u64 d.seq),
           (fun x_ _ => x_ = .pointer (some ⟨g + 1, 2, none⟩)),
           (fun x_ _ => x_ = .int .u64 seq),
           (fun x_ _ => x_ = .bool true),
           (fun x_ _ => x_ = .bool true),
           (fun x_ _ => x_ = .pointer (some ⟨g8, 2, none⟩)),
           (fun x_ _ => x_ = .slice (some ad) S.done.length cvv),
           (fun x_ _ => x_ = .int .i64 k),
           (fun x_ _ => x_ = .pointer (some (ad.add (k * 3)))),
           (fun x_ _ => x_ = .pointer (some (ad.add (k * 3)))),
           (fun x_ _ => x_ = .int .u64 d.seq),
           (fun x_ _ => x_ = .pointer (some ⟨g8, 1, none⟩)),
           (fun x_ _ => x_ = .int .u64 H),
           (fun x_ _ => x_ = .bool true),
           (fun x_ _ => x_ = .bool false),
           (fun x_ _ => x_ = .bool false)] (fun W => Ext W6 W) Ext rfl rfl rfl
           ?st ((Ext.rfl' W6).drew') ?ob ?en
          case st => exact ⟨fun _ _ _ h _ => h, fun _ _ _ h _ => h, fun _ _ _ h _ => h, fun _ _ _ h _ => h, fun _ _ _ h _ => h, fun _ _ _ h _ => h, fun _ _ _ h _ => h, fun _ _ _ h _ => h, fun _ _ _ h _ => h, fun _ _ _ h _ => h, fun _ _ _ h _ => h, fun _ _ _ h _ => h, fun _ _ _ h _ => h, fun _ _ _ h _ => h, fun _ _ _ h _ => h, fun _ _ _ h _ => h, fun _ _ _ h _ => h, fun _ _ _ h _ => h, fun _ _ _ h _ => h, fun _ _ _ h _ => h, fun _ _ _ h _ => h, trivial⟩
          case ob =>
           refine ⟨Rg.at_run [9] rfl ?_, ?_⟩
           ·intro ρ W hR ⟨q9, _⟩
            replace q9 : ρ 9 = .pointer (some ⟨g8, 0, none⟩) := q9
            refine ⟨rfl, ?_⟩
            exact Rg.run_ok (v := .pointer (some ⟨g8, 2, none⟩)) (by simp [execOp, Rg.ev, go_sem, q9]) ⟨rfl, hR, Ext.rfl' _⟩
           refine ⟨Rg.at_run [63] rfl ?_, ?_⟩
           ·intro ρ W hR ⟨q63, _⟩
            replace q63 : ρ 63 = .pointer (some ⟨g8, 2, none⟩) := q63
            refine ⟨rfl, ?_⟩
            have c2_ : W.cell? ⟨g8, 2, none⟩ = some (.slice (some ad) S.done.length cvv) := ((hO6.ext hR).cell 2).trans rfl
            exact Rg.run_ok (v := .slice (some ad) S.done.length cvv) (by simp [execOp, Rg.ev, go_sem, q63, c2_]) ⟨rfl, hR, Ext.rfl' _⟩
           refine ⟨Rg.at_run [12] rfl ?_, ?_⟩
           ·intro ρ W hR ⟨q12, _⟩
            replace q12 : ρ 12 = .int .i64 k := q12
            refine ⟨rfl, ?_⟩
            exact Rg.run_ok (v := .int .i64 k) (by simp [execOp, Rg.ev, go_sem, q12]) ⟨rfl, hR, Ext.rfl' _⟩
           refine ⟨Rg.at_run [64, 65] rfl ?_, ?_⟩
           ·intro ρ W hR ⟨q64, q65, _⟩
            replace q64 : ρ 64 = .slice (some ad) S.done.length cvv := q64
            replace q65 : ρ 65 = .int .i64 k := q65
            refine ⟨rfl, ?_⟩
            exact Rg.run_ok (v := .pointer (some (ad.add (k * 3)))) (by simp [execOp, Rg.ev, go_sem, q64, q65, hb1, hb2]) ⟨rfl, hR, Ext.rfl' _⟩
           refine ⟨Rg.at_run [66] rfl ?_, ?_⟩
           ·intro ρ W hR ⟨q66, _⟩
            replace q66 : ρ 66 = .pointer (some (ad.add (k * 3))) := q66
            refine ⟨rfl, ?_⟩
            exact Rg.run_ok (v := .pointer (some (ad.add (k * 3)))) (by simp [execOp, Rg.ev, go_sem, q66]) ⟨rfl, hR, Ext.rfl' _⟩
           refine ⟨Rg.at_run [67] rfl ?_, ?_⟩
           ·intro ρ W hR ⟨q67, _⟩
            replace q67 : ρ 67 = .pointer (some (ad.add (k * 3))) := q67
            refine ⟨rfl, ?_⟩
            have c_ : W.cell? (ad.add (k * 3)) = some (.int .u64 d.seq) := (hR.cell hab).trans p0
            exact Rg.run_ok (v := .int .u64 d.seq) (by simp [execOp, Rg.ev, go_sem, q67, c_]) ⟨rfl, hR, Ext.rfl' _⟩
           refine ⟨Rg.at_run [4] rfl ?_, ?_⟩
           ·intro ρ W hR ⟨q4, _⟩
            replace q4 : ρ 4 = .pointer (some ⟨g + 1, 0, none⟩) := q4
            refine ⟨rfl, ?_⟩
            exact Rg.run_ok (v := .pointer (some ⟨g + 1, 2, none⟩)) (by simp [execOp, Rg.ev, go_sem, q4]) ⟨rfl, hR, Ext.rfl' _⟩
           refine ⟨Rg.at_run [69] rfl ?_, ?_⟩
           ·intro ρ W hR ⟨q69, _⟩
            replace q69 : ρ 69 = .pointer (some ⟨g + 1, 2, none⟩) := q69
            refine ⟨rfl, ?_⟩
            have c2_ : W.cell? ⟨g + 1, 2, none⟩ = some (.int .u64 seq) := ((hC6.ext hR).cell 2).trans rfl
            exact Rg.run_ok (v := .int .u64 seq) (by simp [execOp, Rg.ev, go_sem, q69, c2_]) ⟨rfl, hR, Ext.rfl' _⟩
           refine ⟨Rg.at_run [68, 70] rfl ?_, ?_⟩
           ·intro ρ W hR ⟨q68, q70, _⟩
            replace q68 : ρ 68 = .int .u64 d.seq := q68
            replace q70 : ρ 70 = .int .u64 seq := q70
            refine ⟨rfl, ?_⟩
            exact Rg.run_ok (v := .bool true) (by simp [execOp, Rg.ev, go_sem, q68, q70, heq]) ⟨rfl, hR, Ext.rfl' _⟩
           refine ⟨Rg.at_run [71] rfl ?_, ?_⟩
           ·intro ρ W hR ⟨q71, _⟩
            replace q71 : ρ 71 = .bool true := q71
            refine ⟨rfl, ?_⟩
            exact Rg.run_ok (v := .bool true) (by simp [execOp, Rg.ev, go_sem, q71]) ⟨rfl, hR, Ext.rfl' _⟩
           refine ⟨Rg.at_run [9, 72] rfl ?_, ?_⟩
           ·intro ρ W hR ⟨q9, q72, _⟩
            replace q9 : ρ 9 = .pointer (some ⟨g8, 0, none⟩) := q9
            replace q72 : ρ 72 = .bool true := q72
            refine ⟨by simp [Rg.wants, q72], ?_⟩
            exact Rg.run_ok (v := .pointer (some ⟨g8, 2, none⟩)) (by simp [execOp, Rg.ev, go_sem, q9]) ⟨rfl, hR, Ext.rfl' _⟩
           refine ⟨Rg.at_run [73, 72] rfl ?_, ?_⟩
           ·intro ρ W hR ⟨q73, q72, _⟩
            replace q73 : ρ 73 = .pointer (some ⟨g8, 2, none⟩) := q73
            replace q72 : ρ 72 = .bool true := q72
            refine ⟨by simp [Rg.wants, q72], ?_⟩
            have c2_ : W.cell? ⟨g8, 2, none⟩ = some (.slice (some ad) S.done.length cvv) := ((hO6.ext hR).cell 2).trans rfl
            exact Rg.run_ok (v := .slice (some ad) S.done.length cvv) (by simp [execOp, Rg.ev, go_sem, q73, c2_]) ⟨rfl, hR, Ext.rfl' _⟩
           refine ⟨Rg.at_run [12, 72] rfl ?_, ?_⟩
           ·intro ρ W hR ⟨q12, q72, _⟩
            replace q12 : ρ 12 = .int .i64 k := q12
            replace q72 : ρ 72 = .bool true := q72
            refine ⟨by simp [Rg.wants, q72], ?_⟩
            exact Rg.run_ok (v := .int .i64 k) (by simp [execOp, Rg.ev, go_sem, q12]) ⟨rfl, hR, Ext.rfl' _⟩
           refine ⟨Rg.at_run [74, 75, 72] rfl ?_, ?_⟩
           ·intro ρ W hR ⟨q74, q75, q72, _⟩
            replace q74 : ρ 74 = .slice (some ad) S.done.length cvv := q74
            replace q75 : ρ 75 = .int .i64 k := q75
            replace q72 : ρ 72 = .bool true := q72
            refine ⟨by simp [Rg.wants, q72], ?_⟩
            exact Rg.run_ok (v := .pointer (some (ad.add (k * 3)))) (by simp [execOp, Rg.ev, go_sem, q74, q75, hb1, hb2]) ⟨rfl, hR, Ext.rfl' _⟩
           refine ⟨Rg.at_run [76, 72] rfl ?_, ?_⟩
           ·intro ρ W hR ⟨q76, q72, _⟩
            replace q76 : ρ 76 = .pointer (some (ad.add (k * 3))) := q76
            replace q72 : ρ 72 = .bool true := q72
            refine ⟨by simp [Rg.wants, q72], ?_⟩
            exact Rg.run_ok (v := .pointer (some (ad.add (k * 3)))) (by simp [execOp, Rg.ev, go_sem, q76]) ⟨rfl, hR, Ext.rfl' _⟩
           refine ⟨Rg.at_run [77, 72] rfl ?_, ?_⟩
           ·intro ρ W hR ⟨q77, q72, _⟩
            replace q77 : ρ 77 = .pointer (some (ad.add (k * 3))) := q77
            replace q72 : ρ 72 = .bool true := q72
            refine ⟨by simp [Rg.wants, q72], ?_⟩
            have c_ : W.cell? (ad.add (k * 3)) = some (.int .u64 d.seq) := (hR.cell hab).trans p0
            exact Rg.run_ok (v := .int .u64 d.seq) (by simp [execOp, Rg.ev, go_sem, q77, c_]) ⟨rfl, hR, Ext.rfl' _⟩
           refine ⟨Rg.at_run [9, 72] rfl ?_, ?_⟩
           ·intro ρ W hR ⟨q9, q72, _⟩
            replace q9 : ρ 9 = .pointer (some ⟨g8, 0, none⟩) := q9
            replace q72 : ρ 72 = .bool true := q72
            refine ⟨by simp [Rg.wants, q72], ?_⟩
            exact Rg.run_ok (v := .pointer (some ⟨g8, 1, none⟩)) (by simp [execOp, Rg.ev, go_sem, q9]) ⟨rfl, hR, Ext.rfl' _⟩
           refine ⟨Rg.at_run [79, 72] rfl ?_, ?_⟩
           ·intro ρ W hR ⟨q79, q72, _⟩
            replace q79 : ρ 79 = .pointer (some ⟨g8, 1, none⟩) := q79
            replace q72 : ρ 72 = .bool true := q72
            refine ⟨by simp [Rg.wants, q72], ?_⟩
            have c1_ : W.cell? ⟨g8, 1, none⟩ = some (.int .u64 H) := ((hO6.ext hR).cell 1).trans rfl
            exact Rg.run_ok (v := .int .u64 H) (by simp [execOp, Rg.ev, go_sem, q79, c1_]) ⟨rfl, hR, Ext.rfl' _⟩
           refine ⟨Rg.at_run [78, 80, 72] rfl ?_, ?_⟩
           ·intro ρ W hR ⟨q78, q80, q72, _⟩
            replace q78 : ρ 78 = .int .u64 d.seq := q78
            replace q80 : ρ 80 = .int .u64 H := q80
            replace q72 : ρ 72 = .bool true := q72
            refine ⟨by simp [Rg.wants, q72], ?_⟩
            refine Rg.run_enter (by simp [execOp, Rg.ev, go_sem, q78, q80]; exact ⟨⟨rfl, rfl⟩, rfl⟩) ?_
            refine (HSL.out W).mono ?_
            rintro e_ w2 ⟨rfl, rfl⟩
            exact ⟨_, rfl, rfl, hR, Ext.rfl' _⟩
           refine ⟨Rg.at_run [81, 72] rfl ?_, ?_⟩
           ·intro ρ W hR ⟨q81, q72, _⟩
            replace q81 : ρ 81 = .bool true := q81
            replace q72 : ρ 72 = .bool true := q72
            refine ⟨by simp [Rg.wants, q72], ?_⟩
            exact Rg.run_ok (v := .bool false) (by simp [execOp, Rg.ev, go_sem, q81]) ⟨rfl, hR, Ext.rfl' _⟩
           refine ⟨Rg.at_run [72, 82] rfl ?_, ?_⟩
           ·intro ρ W hR ⟨q72, q82, _⟩
            replace q72 : ρ 72 = .bool true := q72
            replace q82 : ρ 82 = .bool false := q82
            refine ⟨rfl, ?_⟩
            exact Rg.run_ok (v := .bool false) (by simp [execOp, Rg.ev, go_sem, q72, q82]) ⟨rfl, hR, Ext.rfl' _⟩
           trivial
          case en =>
           intro tm W hR hsz hk
           rw [Rg.fin_eq (ds := [63, 64, 65, 66, 67, 68, 69, 70, 71, 72, 73, 74, 75, 76, 77, 78, 79, 80, 81, 82, 83]) rfl rfl rfl hsz hk]
           have k63 : tm.getD 63 undef = .pointer (some ⟨g8, 2, none⟩) := hk 63
           have k64 : tm.getD 64 undef = .slice (some ad) S.done.length cvv := hk 64
           have k65 : tm.getD 65 undef = .int .i64 k := hk 65
           have k66 : tm.getD 66 undef = .pointer (some (ad.add (k * 3))) := hk 66
           have k67 : tm.getD 67 undef = .pointer (some (ad.add (k * 3))) := hk 67
           have k68 : tm.getD 68 undef = .int .u64 d.seq := hk 68
           have k69 : tm.getD 69 undef = .pointer (some ⟨g + 1, 2, none⟩) := hk 69
           have k70 : tm.getD 70 undef = .int .u64 seq := hk 70
           have k71 : tm.getD 71 undef = .bool true := hk 71
           have k72 : tm.getD 72 undef = .bool true := hk 72
           have k73 : tm.getD 73 undef = .pointer (some ⟨g8, 2, none⟩) := hk 73
           have k74 : tm.getD 74 undef = .slice (some ad) S.done.length cvv := hk 74
           have k75 : tm.getD 75 undef = .int .i64 k := hk 75
           have k76 : tm.getD 76 undef = .pointer (some (ad.add (k * 3))) := hk 76
           have k77 : tm.getD 77 undef = .pointer (some (ad.add (k * 3))) := hk 77
           have k78 : tm.getD 78 undef = .int .u64 d.seq := hk 78
           have k79 : tm.getD 79 undef = .pointer (some ⟨g8, 1, none⟩) := hk 79
           have k80 : tm.getD 80 undef = .int .u64 H := hk 80
           have k81 : tm.getD 81 undef = .bool true := hk 81
           have k82 : tm.getD 82 undef = .bool false := hk 82
           have k83 : tm.getD 83 undef = .bool false := hk 83
           clear hk hsz
           simp only [Rg.putAll, List.setIfInBounds_toArray, List.set_cons_zero, List.set_cons_succ, k63, k64, k65, k66, k67, k68, k69, k70, k71, k72, k73, k74, k75, k76, k77, k78, k79, k80, k81, k82, k83]
           clear k63
           clear k64
           clear k65
           clear k66
           clear k67
           clear k68
           clear k69
           clear k70
           clear k71
           clear k72
           clear k73
           clear k74
           clear k75
           clear k76
           clear k77
           clear k78
           clear k79
           clear k80
           clear k81
           clear k82
           clear k83
           refine Rg.nil_list ?_
           go_wp2_with fail
           go_meet
           case rel => exact ⟨by rw [hkq], hR⟩
         | false =>
          have hkq : keepQ seq H d = true := by simp [keepQ, hst, heq]
          have HSL := hide (fun W => hst ▸ rstale_b d.seq H W r1 hHU)
          refine Rg.regionT Tryz.checked.mixed 124 21 (by kernel_rfl) [
           (fun x_ _ => x_ = .pointer (some ⟨g8, 2, none⟩)),
           (fun x_ _ => x_ = .slice (some ad) S.done.length cvv),
           (fun x_ _ => x_ = .int .i64 k),
           (fun x_ _ => x_ = .pointer (some (ad.add (k * 3)))),
           (fun x_ _ => x_ = .pointer (some (ad.add (k * 3)))),
           (fun x_ _ => x_ = .int .u64 d.seq),
           (fun x_ _ => x_ = .pointer (some ⟨g + 1, 2, none⟩)),
           (fun x_ _ => x_ = .int .u64 seq),
           (fun x_ _ => x_ = .bool true),
           (fun x_ _ => x_ = .bool true),
           (fun x_ _ => x_ = .pointer (some ⟨g8, 2, none⟩)),
           (fun x_ _ => x_ = .slice (some ad) S.done.length cvv),
           (fun x_ _ => x_ = .int .i64 k),
           (fun x_ _ => x_ = .pointer (some (ad.add (k * 3)))),
           (fun x_ _ => x_ = .pointer (some (ad.add (k * 3)))),
           (fun x_ _ => x_ = .int .u64 d.seq),
           (fun x_ _ => x_ = .pointer (some ⟨g8, 1, none⟩)),
           (fun x_ _ => x_ = .int .u64 H),
           (fun x_ _ => x_ = .bool false),
           (fun x_ _ => x_ = .bool true),
           (fun x_ _ => x_ = .bool true)] (fun W => Ext W6 W) Ext rfl rfl rfl
           ?st ((Ext.rfl' W6).drew') ?ob ?en
          case st => exact ⟨fun _ _ _ h _ => h, fun _ _ _ h _ => h, fun _ _ _ h _ => h, fun _ _ _ h _ => h, fun _ _ _ h _ => h, fun _ _ _ h _ => h, fun _ _ _ h _ => h, fun _ _ _ h _ => h, fun _ _ _ h _ => h, fun _ _ _ h _ => h, fun _ _ _ h _ => h, fun _ _ _ h _ => h, fun _ _ _ h _ => h, fun _ _ _ h _ => h, fun _ _ _ h _ => h, fun _ _ _ h _ => h, fun _ _ _ h _ => h, fun _ _ _ h _ => h, fun _ _ _ h _ => h, fun _ _ _ h _ => h, fun _ _ _ h _ => h, trivial⟩
          case ob =>
           refine ⟨Rg.at_run [9] rfl ?_, ?_⟩
           ·intro ρ W hR ⟨q9, _⟩
            replace q9 : ρ 9 = .pointer (some ⟨g8, 0, none⟩) := q9
            refine ⟨rfl, ?_⟩
            exact Rg.run_ok (v := .pointer (some ⟨g8, 2, none⟩)) (by simp [execOp, Rg.ev, go_sem, q9]) ⟨rfl, hR, Ext.rfl' _⟩
           refine ⟨Rg.at_run [63] rfl ?_, ?_⟩
           ·intro ρ W hR ⟨q63, _⟩
            replace q63 : ρ 63 = .pointer (some ⟨g8, 2, none⟩) := q63
            refine ⟨rfl, ?_⟩
            have c2_ : W.cell? ⟨g8, 2, none⟩ = some (.slice (some ad) S.done.length cvv) := ((hO6.ext hR).cell 2).trans rfl
            exact Rg.run_ok (v := .slice (some ad) S.done.length cvv) (by simp [execOp, Rg.ev, go_sem, q63, c2_]) ⟨rfl, hR, Ext.rfl' _⟩
           refine ⟨Rg.at_run [12] rfl ?_, ?_⟩
           ·intro ρ W hR ⟨q12, _⟩
            replace q12 : ρ 12 = .int .i64 k := q12
            refine ⟨rfl, ?_⟩
            exact Rg.run_ok (v := .int .i64 k) (by simp [execOp, Rg.ev, go_sem, q12]) ⟨rfl, hR, Ext.rfl' _⟩
           refine ⟨Rg.at_run [64, 65] rfl ?_, ?_⟩
           ·intro ρ W hR ⟨q64, q65, _⟩
            replace q64 : ρ 64 = .slice (some ad) S.done.length cvv := q64
            replace q65 : ρ 65 = .int .i64 k := q65
            refine ⟨rfl, ?_⟩
            exact Rg.run_ok (v := .pointer (some (ad.add (k * 3)))) (by simp [execOp, Rg.ev, go_sem, q64, q65, hb1, hb2]) ⟨rfl, hR, Ext.rfl' _⟩
           refine ⟨Rg.at_run [66] rfl ?_, ?_⟩
           ·intro ρ W hR ⟨q66, _⟩
            replace q66 : ρ 66 = .pointer (some (ad.add (k * 3))) := q66
            refine ⟨rfl, ?_⟩
            exact Rg.run_ok (v := .pointer (some (ad.add (k * 3)))) (by simp [execOp, Rg.ev, go_sem, q66]) ⟨rfl, hR, Ext.rfl' _⟩
           refine ⟨Rg.at_run [67] rfl ?_, ?_⟩
           ·intro ρ W hR ⟨q67, _⟩
            replace q67 : ρ 67 = .pointer (some (ad.add (k * 3))) := q67
            refine ⟨rfl, ?_⟩
            have c_ : W.cell? (ad.add (k * 3)) = some (.int .u64 d.seq) := (hR.cell hab).trans p0
            exact Rg.run_ok (v := .int .u64 d.seq) (by simp [execOp, Rg.ev, go_sem, q67, c_]) ⟨rfl, hR, Ext.rfl' _⟩
           refine ⟨Rg.at_run [4] rfl ?_, ?_⟩
           ·intro ρ W hR ⟨q4, _⟩
            replace q4 : ρ 4 = .pointer (some ⟨g + 1, 0, none⟩) := q4
            refine ⟨rfl, ?_⟩
            exact Rg.run_ok (v := .pointer (some ⟨g + 1, 2, none⟩)) (by simp [execOp, Rg.ev, go_sem, q4]) ⟨rfl, hR, Ext.rfl' _⟩
           refine ⟨Rg.at_run [69] rfl ?_, ?_⟩
           ·intro ρ W hR ⟨q69, _⟩
            replace q69 : ρ 69 = .pointer (some ⟨g + 1, 2, none⟩) := q69
            refine ⟨rfl, ?_⟩
            have c2_ : W.cell? ⟨g + 1, 2, none⟩ = some (.int .u64 seq) := ((hC6.ext hR).cell 2).trans rfl
            exact Rg.run_ok (v := .int .u64 seq) (by simp [execOp, Rg.ev, go_sem, q69, c2_]) ⟨rfl, hR, Ext.rfl' _⟩
           refine ⟨Rg.at_run [68, 70] rfl ?_, ?_⟩
           ·intro ρ W hR ⟨q68, q70, _⟩
            replace q68 : ρ 68 = .int .u64 d.seq := q68
            replace q70 : ρ 70 = .int .u64 seq := q70
            refine ⟨rfl, ?_⟩
            exact Rg.run_ok (v := .bool true) (by simp [execOp, Rg.ev, go_sem, q68, q70, heq]) ⟨rfl, hR, Ext.rfl' _⟩
           refine ⟨Rg.at_run [71] rfl ?_, ?_⟩
           ·intro ρ W hR ⟨q71, _⟩
            replace q71 : ρ 71 = .bool true := q71
            refine ⟨rfl, ?_⟩
            exact Rg.run_ok (v := .bool true) (by simp [execOp, Rg.ev, go_sem, q71]) ⟨rfl, hR, Ext.rfl' _⟩
           refine ⟨Rg.at_run [9, 72] rfl ?_, ?_⟩
           ·intro ρ W hR ⟨q9, q72, _⟩
            replace q9 : ρ 9 = .pointer (some ⟨g8, 0, none⟩) := q9
            replace q72 : ρ 72 = .bool true := q72
            refine ⟨by simp [Rg.wants, q72], ?_⟩
            exact Rg.run_ok (v := .pointer (some ⟨g8, 2, none⟩)) (by simp [execOp, Rg.ev, go_sem, q9]) ⟨rfl, hR, Ext.rfl' _⟩
           refine ⟨Rg.at_run [73, 72] rfl ?_, ?_⟩
           ·intro ρ W hR ⟨q73, q72, _⟩
            replace q73 : ρ 73 = .pointer (some ⟨g8, 2, none⟩) := q73
            replace q72 : ρ 72 = .bool true := q72
            refine ⟨by simp [Rg.wants, q72], ?_⟩
            have c2_ : W.cell? ⟨g8, 2, none⟩ = some (.slice (some ad) S.done.length cvv) := ((hO6.ext hR).cell 2).trans rfl
            exact Rg.run_ok (v := .slice (some ad) S.done.length cvv) (by simp [execOp, Rg.ev, go_sem, q73, c2_]) ⟨rfl, hR, Ext.rfl' _⟩
           refine ⟨Rg.at_run [12, 72] rfl ?_, ?_⟩
           ·intro ρ W hR ⟨q12, q72, _⟩
            replace q12 : ρ 12 = .int .i64 k := q12
            replace q72 : ρ 72 = .bool true := q72
            refine ⟨by simp [Rg.wants, q72], ?_⟩
            exact Rg.run_ok (v := .int .i64 k) (by simp [execOp, Rg.ev, go_sem, q12]) ⟨rfl, hR, Ext.rfl' _⟩
           refine ⟨Rg.at_run [74, 75, 72] rfl ?_, ?_⟩
           ·intro ρ W hR ⟨q74, q75, q72, _⟩
            replace q74 : ρ 74 = .slice (some ad) S.done.length cvv := q74
            replace q75 : ρ 75 = .int .i64 k := q75
            replace q72 : ρ 72 = .bool true := q72
            refine ⟨by simp [Rg.wants, q72], ?_⟩
            exact Rg.run_ok (v := .pointer (some (ad.add (k * 3)))) (by simp [execOp, Rg.ev, go_sem, q74, q75, hb1, hb2]) ⟨rfl, hR, Ext.rfl' _⟩
           refine ⟨Rg.at_run [76, 72] rfl ?_, ?_⟩
           ·intro ρ W hR ⟨q76, q72, _⟩
            replace q76 : ρ 76 = .pointer (some (ad.add (k * 3))) := q76
            replace q72 : ρ 72 = .bool true := q72
            refine ⟨by simp [Rg.wants, q72], ?_⟩
            exact Rg.run_ok (v := .pointer (some (ad.add (k * 3)))) (by simp [execOp, Rg.ev, go_sem, q76]) ⟨rfl, hR, Ext.rfl' _⟩
           refine ⟨Rg.at_run [77, 72] rfl ?_, ?_⟩
           ·intro ρ W hR ⟨q77, q72, _⟩
            replace q77 : ρ 77 = .pointer (some (ad.add (k * 3))) := q77
            replace q72 : ρ 72 = .bool true := q72
            refine ⟨by simp [Rg.wants, q72], ?_⟩
            have c_ : W.cell? (ad.add (k * 3)) = some (.int .u64 d.seq) := (hR.cell hab).trans p0
            exact Rg.run_ok (v := .int .u64 d.seq) (by simp [execOp, Rg.ev, go_sem, q77, c_]) ⟨rfl, hR, Ext.rfl' _⟩
           refine ⟨Rg.at_run [9, 72] rfl ?_, ?_⟩
           ·intro ρ W hR ⟨q9, q72, _⟩
            replace q9 : ρ 9 = .pointer (some ⟨g8, 0, none⟩) := q9
            replace q72 : ρ 72 = .bool true := q72
            refine ⟨by simp [Rg.wants, q72], ?_⟩
            exact Rg.run_ok (v := .pointer (some ⟨g8, 1, none⟩)) (by simp [execOp, Rg.ev, go_sem, q9]) ⟨rfl, hR, Ext.rfl' _⟩
           refine ⟨Rg.at_run [79, 72] rfl ?_, ?_⟩
           ·intro ρ W hR ⟨q79, q72, _⟩
            replace q79 : ρ 79 = .pointer (some ⟨g8, 1, none⟩) := q79
            replace q72 : ρ 72 = .bool true := q72
            refine ⟨by simp [Rg.wants, q72], ?_⟩
            have c1_ : W.cell? ⟨g8, 1, none⟩ = some (.int .u64 H) := ((hO6.ext hR).cell 1).trans rfl
            exact Rg.run_ok (v := .int .u64 H) (by simp [execOp, Rg.ev, go_sem, q79, c1_]) ⟨rfl, hR, Ext.rfl' _⟩
           refine ⟨Rg.at_run [78, 80, 72] rfl ?_, ?_⟩
           ·intro ρ W hR ⟨q78, q80, q72, _⟩
            replace q78 : ρ 78 = .int .u64 d.seq := q78
            replace q80 : ρ 80 = .int .u64 H := q80
            replace q72 : ρ 72 = .bool true := q72
            refine ⟨by simp [Rg.wants, q72], ?_⟩
            refine Rg.run_enter (by simp [execOp, Rg.ev, go_sem, q78, q80]; exact ⟨⟨rfl, rfl⟩, rfl⟩) ?_
            refine (HSL.out W).mono ?_
            rintro e_ w2 ⟨rfl, rfl⟩
            exact ⟨_, rfl, rfl, hR, Ext.rfl' _⟩
           refine ⟨Rg.at_run [81, 72] rfl ?_, ?_⟩
           ·intro ρ W hR ⟨q81, q72, _⟩
            replace q81 : ρ 81 = .bool false := q81
            replace q72 : ρ 72 = .bool true := q72
            refine ⟨by simp [Rg.wants, q72], ?_⟩
            exact Rg.run_ok (v := .bool true) (by simp [execOp, Rg.ev, go_sem, q81]) ⟨rfl, hR, Ext.rfl' _⟩
           refine ⟨Rg.at_run [72, 82] rfl ?_, ?_⟩
           ·intro ρ W hR ⟨q72, q82, _⟩
            replace q72 : ρ 72 = .bool true := q72
            replace q82 : ρ 82 = .bool true := q82
            refine ⟨rfl, ?_⟩
            exact Rg.run_ok (v := .bool true) (by simp [execOp, Rg.ev, go_sem, q72, q82]) ⟨rfl, hR, Ext.rfl' _⟩
           trivial
          case en =>
           intro tm W hR hsz hk
           rw [Rg.fin_eq (ds := [63, 64, 65, 66, 67, 68, 69, 70, 71, 72, 73, 74, 75, 76, 77, 78, 79, 80, 81, 82, 83]) rfl rfl rfl hsz hk]
           have k63 : tm.getD 63 undef = .pointer (some ⟨g8, 2, none⟩) := hk 63
           have k64 : tm.getD 64 undef = .slice (some ad) S.done.length cvv := hk 64
           have k65 : tm.getD 65 undef = .int .i64 k := hk 65
           have k66 : tm.getD 66 undef = .pointer (some (ad.add (k * 3))) := hk 66
           have k67 : tm.getD 67 undef = .pointer (some (ad.add (k * 3))) := hk 67
           have k68 : tm.getD 68 undef = .int .u64 d.seq := hk 68
           have k69 : tm.getD 69 undef = .pointer (some ⟨g + 1, 2, none⟩) := hk 69
           have k70 : tm.getD 70 undef = .int .u64 seq := hk 70
           have k71 : tm.getD 71 undef = .bool true := hk 71
           have k72 : tm.getD 72 undef = .bool true := hk 72
           have k73 : tm.getD 73 undef = .pointer (some ⟨g8, 2, none⟩) := hk 73
           have k74 : tm.getD 74 undef = .slice (some ad) S.done.length cvv := hk 74
           have k75 : tm.getD 75 undef = .int .i64 k := hk 75
           have k76 : tm.getD 76 undef = .pointer (some (ad.add (k * 3))) := hk 76
           have k77 : tm.getD 77 undef = .pointer (some (ad.add (k * 3))) := hk 77
           have k78 : tm.getD 78 undef = .int .u64 d.seq := hk 78
           have k79 : tm.getD 79 undef = .pointer (some ⟨g8, 1, none⟩) := hk 79
           have k80 : tm.getD 80 undef = .int .u64 H := hk 80
           have k81 : tm.getD 81 undef = .bool false := hk 81
           have k82 : tm.getD 82 undef = .bool true := hk 82
           have k83 : tm.getD 83 undef = .bool true := hk 83
           clear hk hsz
           simp only [Rg.putAll, List.setIfInBounds_toArray, List.set_cons_zero, List.set_cons_succ, k63, k64, k65, k66, k67, k68, k69, k70, k71, k72, k73, k74, k75, k76, k77, k78, k79, k80, k81, k82, k83]
           clear k63
           clear k64
           clear k65
           clear k66
           clear k67
           clear k68
           clear k69
           clear k70
           clear k71
           clear k72
           clear k73
           clear k74
           clear k75
           clear k76
           clear k77
           clear k78
           clear k79
           clear k80
           clear k81
           clear k82
           clear k83
           refine Rg.nil_list ?_
           go_wp2_with fail
           go_meet
           case rel => exact ⟨by rw [hkq], hR⟩
       case rest =>
        obtain ⟨rfl, hx7⟩ := hcut
        have hx37 := hx36.trans' hx7
        have hown7 := hown2.ext hx7
        have hO7 := hO6.ext hx7
        have o2 := (hO7.cell 2).trans rfl
        replace p0 := (hx7.cell (p := ad.add (k * 3)) hab).trans p0
        replace p1 := (hx7.cell (p := ⟨(ad.add (k * 3)).block, (ad.add (k * 3)).off + 1, none⟩) hab).trans p1
        replace p2 := (hx7.cell (p := ⟨(ad.add (k * 3)).block, (ad.add (k * 3)).off + 2, none⟩) hab).trans p2
        generalize wc = W7 at *
        have HST3 := hide (hI2.step hdk.out hp2)
        have hl5 := hI2.len
        have hk1 : k ≤ 1000 := by omega
        cases hkq : keepQ seq H d with
        | false =>
         rw [hkq] at HST3
         go_wp2_with fail
         go_roundw
         case rel => exact ⟨k + 1, l2, A2, c2, put2, by omega, rfl, rfl, by go_num, HST3.out, hown7, by omega, hx37⟩
         case measure => simp [intOf]; omega
        | true =>
         rw [hkq] at HST3
         have hxa : Ext W7 (W7.alloc (.cells (dcells d).toArray 68)) := (Ext.rfl' W7).alloc' _
         have hlit := Sl.one 68 (E := dnE) (w := W7) (X := fun i => noneAt i ∨ (Value.slice A2 l2.length c2).ownBlock = some i) (cs := dcells d) (a := d) (dn_rep.2 ⟨rfl, r1, r2, r3⟩) W7.heap.size rfl (fun h => h.elim (fun h => h.elim) fun h => by have := (hown7.lt _ h).2; omega)
         go_wp2_with (at_builtin; refine wpList_own elt_dn 54 Tryz.underlying54 rfl _ _ rfl (hown7.ext hxa) rfl (hx37.trans' hxa) (m := [d]) (y := .slice (some ⟨W7.heap.size, 0, none⟩) 1 1) rfl hlit (fun h => h.elim) (by simp only [List.length_singleton]; omega) (by simp only [List.length_singleton]; omega) ?_; intro l3 A3 c3 w3 hl3 hown3 hxx hcc)
         have hl3' := hl3.out
         subst hl3'
         go_roundw
         case rel => exact ⟨k + 1, l2 ++ [d], A3, c3, put2, by omega, rfl, rfl, by go_num, HST3.out, hown3, by simp only [List.length_append, List.length_singleton]; omega, hxx⟩
         case measure => simp [intOf]; omega
    ·obtain rfl : k = S.done.length := by omega
     have hl8 := hI.len
     obtain ⟨N, hN⟩ : ∃ N, skeep S seq a = N := ⟨_, rfl⟩
     have HNN := hide hN
     have hNd : (if put = true then l else l ++ [⟨seq, a⟩]) = N.done := by
      rw [hI.done, ← hN, skeep_done, HH.out]
     have hNc : N.client = client := by rw [← hN]; exact hScl
     have hNh : N.high = H := by rw [← hN]; exact HH.out
     have HND := hide hNd
     clear hN hNd
     have hg8l : g8 < W3.heap.size := hO3.lt
     have hA8 := hA.ext hx4
     have a0 := (hA8.cell 0).trans rfl
     have a1 := (hA8.cell 1).trans rfl
     have y8 := ((hC.ext hx4).cell 2).trans rfl
     generalize wr = W8 at *
     go_upto_if 93 with fail
     go_cut [10] (fun vl wx => ∃ A2 c2, vl = .slice A2 N.done.length c2 ∧ Own 68 dnE W3 wx noneAt (.slice A2 N.done.length c2) N.done ∧ Ext W3 wx)
     case first =>
      cases put with
      | true =>
       have hld : l = N.done := HND.out
       subst hld
       go_wp2_with fail
       go_meet
       case rel => exact ⟨A, cc, rfl, hown, hx4⟩
      | false =>
       have hld : l ++ [⟨seq, a⟩] = N.done := HND.out
       have hxa : Ext W8 (W8.alloc (.cells (dcells ⟨seq, a⟩).toArray 68)) := (Ext.rfl' W8).alloc' _
       have hlit := Sl.one 68 (E := dnE) (w := W8) (X := fun i => noneAt i ∨ (Value.slice A l.length cc).ownBlock = some i) (cs := dcells ⟨seq, a⟩) (a := ⟨seq, a⟩) (dn_rep.2 ⟨rfl, ⟨q0, q1⟩, ha.1, ha.2⟩) W8.heap.size rfl (fun h => h.elim (fun h => h.elim) fun h => by have := (hown.lt _ h).2; omega)
       go_wp2_with (at_builtin; refine wpList_own elt_dn 54 Tryz.underlying54 rfl _ _ rfl (hown.ext hxa) rfl (hx4.trans' hxa) (m := [⟨seq, a⟩]) (y := .slice (some ⟨W8.heap.size, 0, none⟩) 1 1) rfl hlit (fun h => h.elim) (by simp only [List.length_singleton]; omega) (by simp only [List.length_singleton]; omega) ?_; intro l2 A2 c2 w2 hl2 hown2 hxx hcc)
       go_meet
       case rel =>
        have hl2' := hl2.out.trans hld
        subst hl2'
        exact ⟨A2, c2, rfl, hown2, hxx⟩
     case rest =>
      obtain ⟨A2, c2, rfl, hownN, hx9⟩ := hcut
      generalize wc = W9 at *
      clear a0 a1 y8 hA8 o2 hOr hown hI HND hl8
      have hO9 := hO3.ext hx9
      have o2 := (hO9.cell 2).trans rfl
      have f2 := hO9.frozen 2
      have hs10 : Chg [g8] W9 (W9.setCell ⟨g8, 2, none⟩ (.slice A2 N.done.length c2)) := (Chg.refl _ _).set (by simp) _
      have hO10 := hO9.set_ 2 (.slice A2 N.done.length c2)
      have hB10 := (hB.ext hx9).chg hs10 (by simp; omega)
      have hR10 := (hR.ext hx9).chg hs10 (by simp; omega)
      have hx10 := (hx0.trans' hx9).then_ hs10 (by simp; omega)
      have hSlN : Enc.Sl dnE (W9.setCell ⟨g8, 2, none⟩ (.slice A2 N.done.length c2)) (fun k => g ≤ k ∧ k ≤ g8) (.slice A2 N.done.length c2) N.done :=
       ((hownN.widen (Y := fun k => g ≤ k ∧ k ≤ g8) (fun h => dn_widen h) (fun k hk => by omega)).chg hs10 (fun k hk _ => by have := List.mem_singleton.1 hk; omega)).sl
      have hrN : seE.rep (W9.setCell ⟨g8, 2, none⟩ (.slice A2 N.done.length c2)) (fun k => g ≤ k ∧ k ≤ g8) (secells N (.slice A2 N.done.length c2)) N := se_rep.2 ⟨_, rfl, by rw [hNc]; exact ⟨c0, c1⟩, by rw [hNh]; exact hHU, hSlN⟩
      have hsz10 : g8 < (W9.setCell ⟨g8, 2, none⟩ (.slice A2 N.done.length c2)).heap.size := hO10.lt
      go_upto_region 18 with fail
      generalize W9.setCell ⟨g8, 2, none⟩ (.slice A2 N.done.length c2) = W10 at *
      clear hs10 hSlN hownN hx9 hO9 o2 f2
      have b3 := (hB10.cell 3).trans rfl
      have hic : i ≤ cs' := by omega
      have hy1 : Enc.Sl seE W10 (fun k => (g ≤ k ∧ k ≤ g8) ∨ (Value.slice none 0 0).ownBlock = some k) (.slice As i cs') (s.sess.take i) := (Sl.front (s4.mono fun k hk h => by
       rcases h with h | h
       ·omega
       ·cases h) hil).ext hx10
      go_upto_region 20 with (at_builtin; refine wpList_own elt_se 26 Tryz.underlying26 rfl _ _ rfl (Own.nil 56 seE W10 W10 (fun k => g ≤ k ∧ k ≤ g8)) rfl (Ext.rfl' W10) (m := s.sess.take i) (y := .slice As i cs') rfl hy1 (fun h => by omega) (by rw [List.length_take]; simp only [List.length_nil]; omega) (by rw [List.length_take]; simp only [List.length_nil]; omega) ?_; intro l1 A1 c1 w11 hl1 hown1 hx11 hc11)
      have hO11 := hO10.ext hx11
      have o0 := (hO11.cell 0).trans rfl
      have o1 := (hO11.cell 1).trans rfl
      have o2 := (hO11.cell 2).trans rfl
      have hxa : Ext w11 (w11.alloc (.cells #[.int .i64 client, .int .u64 H, .slice A2 N.done.length c2] 56)) := (Ext.rfl' w11).alloc' _
      have hrN' : seE.rep w11 (fun k => (g ≤ k ∧ k ≤ g8) ∨ (Value.slice A1 l1.length c1).ownBlock = some k) [.int .i64 client, .int .u64 H, .slice A2 N.done.length c2] N := by
       have h := seE.ext (seE.mono (Y := fun k => (g ≤ k ∧ k ≤ g8) ∨ (Value.slice A1 l1.length c1).ownBlock = some k) hrN fun k hk h => h.elim id fun h => by have := (hown1.lt k h).1; omega) hx11
       unfold secells at h
       rw [hNc, hNh] at h
       exact h
      have hl1l : l1.length ≤ 1000 := by rw [hl1.out]; simp; omega
      have hlit := Sl.one 56 hrN' w11.heap.size rfl (fun h => h.elim (fun h => by have := hx11.size; omega) fun h => by have := (hown1.lt _ h).2; omega)
      go_upto_if 113 with (at_builtin; refine wpList_own elt_se 26 Tryz.underlying26 rfl _ _ rfl (hown1.ext hxa) rfl (hx11.trans' hxa) (m := [N]) (y := .slice (some ⟨w11.heap.size, 0, none⟩) 1 1) rfl hlit (fun h => by have := (hx11.trans' hxa).size; omega) (by simp only [List.length_singleton]; omega) (by simp only [List.length_singleton]; omega) ?_; intro l2 A3 c3 w12 hl2 hown2 hx12 hc12)
      have hl2e : Hid (l2 = s.sess.take i ++ [N]) := by unfold Hid; rw [hl2.out, hl1.out]; rfl
      have hl2l : l2.length ≤ 1001 := by rw [hl2.out]; simp; omega
      obtain ⟨j, hj, hjl⟩ : ∃ j : Nat, j = (if is = true then i + 1 else i) ∧ j ≤ s.sess.length := by
       refine ⟨_, rfl, ?_⟩
       split
       ·rename_i h
        subst h
        obtain ⟨x, hxi, -, -⟩ := sown_sat_yes HST.out
        exact (List.getElem?_eq_some_iff.1 hxi).1
       ·exact hil
      have HJ := hide hj
      clear hj
      go_cut [7] (fun vi wx => vi = .int .i64 j ∧ Ext w12 wx)
      case first =>
       cases is with
       | true =>
        obtain rfl : j = i + 1 := HJ.out
        go_wp2_with fail
        go_meet
        case rel => exact ⟨by go_num, Ext.rfl' _⟩
       | false =>
        obtain rfl : j = i := HJ.out
        go_wp2_with fail
        go_meet
        case rel => exact ⟨rfl, Ext.rfl' _⟩
      case rest =>
       obtain ⟨rfl, hx13⟩ := hcut
       replace hx12 := hx12.trans' hx13
       replace hown2 := hown2.ext hx13
       have hx1 := hx10.trans' hx12
       have hB13 := hB10.ext hx12
       have hR13 := hR10.ext hx12
       generalize wc = W13 at *
       clear b3 o0 o1 o2 hlit hrN' hxa hO11
       have b0 := (hB13.cell 0).trans rfl
       have b1 := (hB13.cell 1).trans rfl
       have b2 := (hB13.cell 2).trans rfl
       have b3 := (hB13.cell 3).trans rfl
       have hy3 : Enc.Sl seE W13 (fun k => (g ≤ k ∧ k ≤ g8) ∨ (Value.slice A3 l2.length c3).ownBlock = some k) (.slice (cutA 3 As cs' j) (s.sess.length - j) (cs' - j)) (s.sess.drop j) := (Sl.rest (s4.mono fun k hk h => by
        rcases h with h | h
        ·omega
        ·have := (hown2.lt k h).1; have := hx10.size; omega) hjl).ext hx1
       have hjc : j ≤ cs' := by omega
       have hsd : (s.sess.drop j).length = s.sess.length - j := List.length_drop
       go_upto_region 24 with (at_builtin; refine wpList_own elt_se 26 Tryz.underlying26 rfl _ _ rfl hown2 rfl hx12 (m := s.sess.drop j) (y := .slice (cutA 3 As cs' j) (s.sess.length - j) (cs' - j)) rfl hy3 (fun h => by have := hx12.size; omega) (by rw [hsd]; omega) (by rw [hsd]; omega) ?_; intro l3 A4 c4 w14 hl3 hown3 hx14 hc14; have z3 := (hB10.ext hx14).frozen 3; have d3 := ((hB10.ext hx14).cell 3).trans rfl)
       have hs15 : Chg [g] w14 (w14.setCell ⟨g, 3, none⟩ (.slice A4 l3.length c4)) := (Chg.refl _ _).set (by simp) _
       have hB15 := (hB10.ext hx14).set_ 3 (.slice A4 l3.length c4)
       have hR15 := (hR10.ext hx14).chg hs15 (by simp; omega)
       have hown15 := hown3.chg hs15 (fun k hk _ => by have := List.mem_singleton.1 hk; omega)
       have hx15 := (hx10.trans' hx14).then_ hs15 (by simp; omega)
       generalize w14.setCell ⟨g, 3, none⟩ (.slice A4 l3.length c4) = W15 at *
       clear b0 b1 b2 b3 z3 d3 hs15 hc14 hown3
       have b0 := (hB15.cell 0).trans rfl
       have b1 := (hB15.cell 1).trans rfl
       have b2 := (hB15.cell 2).trans rfl
       have b3 := (hB15.cell 3).trans rfl
       have e0 := (hR15.cell 0).trans rfl
       have e1 := (hR15.cell 1).trans rfl
       have e2 := (hR15.cell 2).trans rfl
       have e3 := (hR15.cell 3).trans rfl
       have f0 := hR15.frozen 0
       have f1 := hR15.frozen 1
       have f2 := hR15.frozen 2
       have f3 := hR15.frozen 3
       go_wp2
       try simp only [Exit.inBlock, Exit.then]
       obtain ⟨hfin, hcf⟩ := put4 hR15 (.int .u64 s.now) (.int .u64 s.count) (.slice Al s.links.length cl) (.slice A4 l3.length c4)
       refine bodyPost_ret (results_cell_row rfl _ _ (g + 1 + 1 + 1) 28 #[.int .u64 s.now, .int .u64 s.count, .slice Al s.links.length cl, .slice A4 l3.length c4] (0, 0) _ rfl hfin Tryz.underlying28 rfl (by kernel_rfl)) rfl ?_
       have hl3e : swith s.sess (skeep S seq a) = l3 := by
        rw [HNN.out, hl3.out, hl2e.out]
        unfold swith
        rw [hNc, HST.out, HJ.out]
        cases is with
        | true =>
         obtain ⟨x, hxi, -, -⟩ := sown_sat_yes HST.out
         simp only [if_true]
         rw [List.set_eq_take_append_cons_drop, if_pos (List.getElem?_eq_some_iff.1 hxi).1]
         simp
        | false => simp
       rw [hl3e]
       have hxf := hx15.then_ hcf (by simp; omega)
       exact ⟨stcells ⟨s.now, s.count, s.links, l3⟩ (.slice Al s.links.length cl) (.slice A4 l3.length c4), rfl, st_rep.2 ⟨_, _, rfl, s1, s2, s3.ext hxf, slN (hown15.chg hcf (fun k hk _ => by have := List.mem_singleton.1 hk; omega)).sl⟩, hxf⟩
end Go.Proofs.YtamimdlaclglkaaGreat
