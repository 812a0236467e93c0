import Derived.Test.YtggfemdgccgbpaaPk36
import Derived.RegionTactic
import Derived.Test.YtggfemdgccgbpaaPk1
/- LinksTime. -/
namespace Go.Proofs.Ytggfemdgccgbpaa
set_option linter.unusedVariables false
set_option linter.unusedSimpArgs false
set_option linter.unnecessarySimpa false
set_option maxRecDepth 100000
open Go.RowKit
theorem filt_at {α : Type} {l : List α} {p : α → Bool} {i : Nat} {x : α} (h : l[i]? = some x) :
    (p x = false → ((l.take (i + 1)).filter p).length = ((l.take i).filter p).length) ∧
    (p x = true → (l.filter p)[((l.take i).filter p).length]? = some x ∧ ((l.take (i + 1)).filter p).length = ((l.take i).filter p).length + 1) := by
  obtain ⟨hl, rfl⟩ := List.getElem?_eq_some_iff.1 h
  have e1 : l.take (i + 1) = l.take i ++ [l[i]] := List.take_succ_eq_append_getElem hl
  constructor
  · intro hp
    rw [e1, List.filter_append]
    simp [hp]
  · intro hp
    refine ⟨?_, by rw [e1, List.filter_append]; simp [hp]⟩
    have e2 : l.filter p = (l.take i).filter p ++ l[i] :: (l.drop (i + 1)).filter p := by
      conv => lhs; rw [← List.take_append_drop i l, List.drop_eq_getElem_cons hl]
      rw [List.filter_append, List.filter_cons, if_pos hp]
    rw [e2]
    simp
theorem time_law (s : St) {n : Int} (hn : n ≤ 4294967295) : ldo s ⟨4, 0, 0, [], [], n⟩ = (⟨max s.now n, s.count, s.links.filter (live (max s.now n)), s.sess⟩, ⟨0, []⟩) := by
  unfold ldo ldoW
  rw [if_pos rfl]
  unfold ltime
  rw [if_neg (by simp only; omega)]
set_option maxHeartbeats 6400000 in
theorem linksTime_walk (x : Value) (b : Bytes) (n : Int) (w : World) (hx : Bs w x b) (hn : 0 ≤ n ∧ n ≤ 4294967295) :
    Calls Try.prog 7 #[x, .int .u32 n] w fun e w' => e = .returned (.bool true) ∧ Ext w w' := by
  obtain ⟨Ax, cx, rfl, -, -, -⟩ := id hx
  go_enter Try.func7, Try.ntmps7
  go_wp2_with fail
  refine (begun18_b w).mono ?_
  rintro e w1 ⟨rfl, hx1⟩
  by_cases h1 : (100 : Int) < b.length
  · go_wp2_with fail
    go_ret
    exact ⟨rfl, hx1⟩
  have HB := hide h1
  go_wp2_with fail
  refine (run_b _ b w1 (hx.ext hx1) (by have := HB.out; omega)).mono ?_
  rintro e w2 ⟨s, A0, c0, B0, d0, hi, hse, rfl, hr, hxd⟩
  replace hx1 := hx1.trans' hxd
  clear hxd
  have HSE := hide hse
  clear hse
  have H1 := hide (fun W cs h => ldoL_b noneAt s cs ⟨4, 0, 0, [], [], n⟩ W (fun _ h => h.elim) h hi HSE.out ⟨by simp, by simp, by simp, by simp, by simp, by simp, by simp [maxLen], by simp [maxLen], hn.1, by simp only; omega⟩ (by simp) (by simp))
  obtain ⟨t, ht⟩ : ∃ t, t = (⟨max s.now n, s.count, s.links.filter (live (max s.now n)), s.sess⟩ : St) := ⟨_, rfl⟩
  rw [time_law s hn.2, ← ht] at H1
  have htn : Hid (t.now = max s.now n) := hide (by rw [ht])
  have htc : Hid (t.count = s.count) := hide (by rw [ht])
  have htl : Hid (t.links = s.links.filter (live (max s.now n))) := hide (by rw [ht])
  clear ht
  obtain ⟨g1, hg⟩ : ∃ g_, w2.heap.size = g_ := ⟨_, rfl⟩
  have hS := Blk.new w2 28 (#[.int .u64 s.now, .int .u64 s.count, .slice A0 s.links.length c0, .slice B0 s.sess.length d0])
  rw [hg] at hS
  have hz : Ext w2 (w2.alloc (.cells (#[.int .u64 s.now, .int .u64 s.count, .slice A0 s.links.length c0, .slice B0 s.sess.length d0]) 28)) := (Ext.rfl' w2).alloc' _
  replace hr := stE.ext hr hz
  replace hx1 := hx1.trans' hz
  go_upto_region 6 with fail
  try rw [hg]
  clear hz hg
  generalize w2.alloc (.cells (#[.int .u64 s.now, .int .u64 s.count, .slice A0 s.links.length c0, .slice B0 s.sess.length d0]) 28) = w3 at *
  have hS_0 := (hS.cell 0).trans rfl
  have hS_1 := (hS.cell 1).trans rfl
  have hS_2 := (hS.cell 2).trans rfl
  have hS_3 := (hS.cell 3).trans rfl
  go_wp2_with fail
  refine (H1.out _ _ hr).mono ?_
  rintro e w4 hret
  obtain ⟨A1, c1, B1, d1, rfl, hrt, hxd⟩ := hret.at
  clear hret
  clear hS_0 hS_1 hS_2 hS_3
  replace hS := hS.ext hxd
  replace hr := stE.ext hr hxd
  replace hx1 := hx1.trans' hxd
  clear hxd
  obtain ⟨hT, hA, hz⟩ := two_al w4 28 33 (#[.int .u64 t.now, .int .u64 t.count, .slice A1 t.links.length c1, .slice B1 t.sess.length d1]) (#[.int .i64 0, str []])
  obtain ⟨g2, hg⟩ : ∃ g_, w4.heap.size = g_ := ⟨_, rfl⟩
  replace hS := hS.ext hz
  replace hr := stE.ext hr hz
  replace hrt := stE.ext hrt hz
  replace hx1 := hx1.trans' hz
  clear hz
  rw [hg] at hT hA
  go_upto_region 7 with fail
  try rw [hg]
  clear hg
  generalize ((w4.alloc (.cells (#[.int .u64 t.now, .int .u64 t.count, .slice A1 t.links.length c1, .slice B1 t.sess.length d1]) 28)).alloc (.cells (#[.int .i64 0, str []]) 33)) = w5 at *
  obtain ⟨vl, vs, hcs, s1, s2, s3, s4⟩ := st_rep.1 hr
  obtain ⟨rfl, rfl⟩ : Value.slice A0 s.links.length c0 = vl ∧ Value.slice B0 s.sess.length d0 = vs := by simpa using hcs
  clear hcs
  obtain ⟨vl, vs, hcs, -, -, t3, t4⟩ := st_rep.1 hrt
  obtain ⟨rfl, rfl⟩ : Value.slice A1 t.links.length c1 = vl ∧ Value.slice B1 t.sess.length d1 = vs := by simpa using hcs
  clear hcs
  obtain ⟨q, hq⟩ : ∃ q, live (max s.now n) = q := ⟨_, rfl⟩
  rw [hq] at htl
  have HQ := hide hq
  clear hq
  have hll : s.links.length ≤ 40 := hi.len
  have hn0 := hi.now0
  have hn1 := hi.now1
  have htl40 : t.links.length ≤ 40 := by rw [htl.out]; exact Nat.le_trans (List.length_filter_le _ _) hll
  go_wp2_with fail
  go_loopw [8, 9] (fun k i wr => ∃ m : Nat, m ≤ s.links.length ∧ i = .int .i64 m ∧ k = .int .i64 ((s.links.take m).filter q).length ∧ Ext w5 wr) (fun _ i _ => (s.links.length - intOf i).toNat)
  case atStart => exact ⟨0, by omega, rfl, rfl, Ext.rfl' _⟩
  case round =>
    obtain ⟨m, hm, rfl, rfl, hxr⟩ := hrel
    replace hS := hS.ext hxr
    replace hT := hT.ext hxr
    replace hA := hA.ext hxr
    have hS_0 := (hS.cell 0).trans rfl
    have hS_1 := (hS.cell 1).trans rfl
    have hS_2 := (hS.cell 2).trans rfl
    have hT_0 := (hT.cell 0).trans rfl
    have hT_1 := (hT.cell 1).trans rfl
    have hT_2 := (hT.cell 2).trans rfl
    by_cases hlt : (m : Int) < s.links.length
    · obtain ⟨ad, y, rfl, hyk, hbp, p0, p1, p2, p3, -⟩ := ln_at (s3.ext hxr) (k := m) (by omega)
      obtain ⟨fa, fb⟩ := filt_at (p := q) hyk.out
      have hm0 : (0 : Int) ≤ m := by omega
      obtain ⟨gx, hg⟩ : ∃ g_, wr.heap.size = g_ := ⟨_, rfl⟩
      have hX := Blk.new wr 48 (lcells y).toArray
      rw [hg] at hX
      have hz : Ext wr (wr.alloc (.cells (lcells y).toArray 48)) := (Ext.rfl' wr).alloc' _
      go_upto_region 12 with fail
      try rw [hg]
      clear hg
      generalize (wr.alloc (.cells (lcells y).toArray 48)) = w6 at *
      replace hS := hS.ext hz
      replace hT := hT.ext hz
      replace hxr := hxr.trans' hz
      have hX_0 := (hX.cell 0).trans rfl
      have hX_1 := (hX.cell 1).trans rfl
      have hX_2 := (hX.cell 2).trans rfl
      have hX_3 := (hX.cell 3).trans rfl
      clear hS_0 hS_1 hS_2 hT_0 hT_1 hT_2 p0 p1 p2 p3
      have hS_0 := (hS.cell 0).trans rfl
      have hS_2 := (hS.cell 2).trans rfl
      have hT_2 := (hT.cell 2).trans rfl
      have hlv : q y = (decide (y.till = 0) || decide (max s.now n < y.till)) := by rw [← HQ.out]; rfl
      cases hqy : q y with
      | false =>
        rw [hqy] at hlv
        have hlv2 := hlv.symm
        simp only [Bool.or_eq_false_iff, decide_eq_false_iff_not] at hlv2
        obtain ⟨z1, z2⟩ := hlv2
        have z3 : (y.till != 0) = true := by simpa using z1
        have z4 : y.till ≤ max s.now n := by omega
        have FA := hide (fa hqy)
        have HQY := hide hqy
        clear fa fb hlv z1 z2 hqy
        go_wp2_with fail
        go_roundw
        case rel => exact ⟨m + 1, by omega, by go_num, by rw [FA.out], hxr⟩
        case measure => simp [intOf]; omega
      | true =>
        rw [hqy] at hlv
        obtain ⟨f1, f2⟩ := fb hqy
        rw [← htl.out] at f1
        obtain ⟨k, hk⟩ : ∃ k, ((s.links.take m).filter q).length = k := ⟨_, rfl⟩
        rw [hk] at f1 f2 ⊢
        have hkl : k < t.links.length := (List.getElem?_eq_some_iff.1 f1).1
        have F1 := hide f1
        have F2 := hide f2
        have HQY := hide hqy
        clear f1 f2 fa fb hqy
        obtain ⟨ad2, y2, hA1, hyk2, hbr, r0, r1, r2, r3, -⟩ := ln_at (t3.ext hxr) (k := k) hkl
        subst hA1
        obtain rfl : y = y2 := Option.some.inj (F1.out.symm.trans hyk2.out)
        have hk0 : (0 : Int) ≤ k := by omega
        have hkl' : (k : Int) < t.links.length := by omega
        by_cases z : y.till = 0
        · have z1 : (y.till != 0) = false := by simp [z]
          have HZ := hide z
          clear z hlv
          go_wp2_with fail
          refine Rg.regionT Try.checked.mixed 94 14 (by kernel_rfl) [
            (fun x_ _ => x_ = .int .i64 k),
            (fun x_ _ => x_ = .pointer (some ⟨g2, 2, none⟩)),
            (fun x_ _ => x_ = .slice (some ad2) t.links.length c1),
            (fun x_ _ => x_ = .int .i64 t.links.length),
            (fun x_ _ => x_ = .bool false),
            (fun x_ _ => x_ = .bool false),
            (fun x_ _ => x_ = .pointer (some ⟨g2, 2, none⟩)),
            (fun x_ _ => x_ = .slice (some ad2) t.links.length c1),
            (fun x_ _ => x_ = .int .i64 k),
            (fun x_ _ => x_ = .pointer (some (ad2.add (k * 4)))),
            (fun x_ _ => x_ = .agg #[str y.name, str y.url, .int .u64 y.till, .bool y.made]),
            (fun x_ _ => x_ = .agg #[str y.name, str y.url, .int .u64 y.till, .bool y.made]),
            (fun x_ _ => x_ = .bool false),
            (fun x_ _ => x_ = .bool false)] (fun W => Ext w6 W) Ext rfl rfl rfl
            ?st ((Ext.rfl' w6).drew') ?ob ?en
          case st => exact ⟨fun _ _ _ h _ => h, fun _ _ _ h _ => h, fun _ _ _ h _ => h, fun _ _ _ h _ => h, fun _ _ _ h _ => h, fun _ _ _ h _ => h, fun _ _ _ h _ => h, fun _ _ _ h _ => h, fun _ _ _ h _ => h, fun _ _ _ h _ => h, fun _ _ _ h _ => h, fun _ _ _ h _ => h, fun _ _ _ h _ => h, fun _ _ _ h _ => h, trivial⟩
          case ob =>
            refine ⟨Rg.at_run [8] rfl ?_, ?_⟩
            · intro ρ W hR ⟨q8, _⟩
              replace q8 : ρ 8 = .int .i64 k := q8
              refine ⟨rfl, ?_⟩
              exact Rg.run_ok (v := .int .i64 k) (by simp [execOp, Rg.ev, go_sem, q8]) ⟨rfl, hR, Ext.rfl' _⟩
            refine ⟨Rg.at_run [6] rfl ?_, ?_⟩
            · intro ρ W hR ⟨q6, _⟩
              replace q6 : ρ 6 = .pointer (some ⟨g2, 0, none⟩) := q6
              refine ⟨rfl, ?_⟩
              exact Rg.run_ok (v := .pointer (some ⟨g2, 2, none⟩)) (by simp [execOp, Rg.ev, go_sem, q6]) ⟨rfl, hR, Ext.rfl' _⟩
            refine ⟨Rg.at_run [52] rfl ?_, ?_⟩
            · intro ρ W hR ⟨q52, _⟩
              replace q52 : ρ 52 = .pointer (some ⟨g2, 2, none⟩) := q52
              refine ⟨rfl, ?_⟩
              have c2_ : W.cell? ⟨g2, 2, none⟩ = some (.slice (some ad2) t.links.length c1) := ((hT.ext hR).cell 2).trans rfl
              exact Rg.run_ok (v := .slice (some ad2) t.links.length c1) (by simp [execOp, Rg.ev, go_sem, q52, c2_]) ⟨rfl, hR, Ext.rfl' _⟩
            refine ⟨Rg.at_run [53] rfl ?_, ?_⟩
            · intro ρ W hR ⟨q53, _⟩
              replace q53 : ρ 53 = .slice (some ad2) t.links.length c1 := q53
              refine ⟨rfl, ?_⟩
              exact Rg.run_ok (v := .int .i64 t.links.length) (by simp [execOp, Rg.ev, go_sem, q53]) ⟨rfl, hR, Ext.rfl' _⟩
            refine ⟨Rg.at_run [51, 54] rfl ?_, ?_⟩
            · intro ρ W hR ⟨q51, q54, _⟩
              replace q51 : ρ 51 = .int .i64 k := q51
              replace q54 : ρ 54 = .int .i64 t.links.length := q54
              refine ⟨rfl, ?_⟩
              exact Rg.run_ok (v := .bool false) (by simp [execOp, Rg.ev, go_sem, q51, q54]; omega) ⟨rfl, hR, Ext.rfl' _⟩
            refine ⟨Rg.at_run [55] rfl ?_, ?_⟩
            · intro ρ W hR ⟨q55, _⟩
              replace q55 : ρ 55 = .bool false := q55
              refine ⟨rfl, ?_⟩
              exact Rg.run_ok (v := .bool false) (by simp [execOp, Rg.ev, go_sem, q55]) ⟨rfl, hR, Ext.rfl' _⟩
            refine ⟨Rg.at_run [6, 56] rfl ?_, ?_⟩
            · intro ρ W hR ⟨q6, q56, _⟩
              replace q6 : ρ 6 = .pointer (some ⟨g2, 0, none⟩) := q6
              replace q56 : ρ 56 = .bool false := q56
              refine ⟨by simp [Rg.wants, q56], ?_⟩
              exact Rg.run_ok (v := .pointer (some ⟨g2, 2, none⟩)) (by simp [execOp, Rg.ev, go_sem, q6]) ⟨rfl, hR, Ext.rfl' _⟩
            refine ⟨Rg.at_run [57, 56] rfl ?_, ?_⟩
            · intro ρ W hR ⟨q57, q56, _⟩
              replace q57 : ρ 57 = .pointer (some ⟨g2, 2, none⟩) := q57
              replace q56 : ρ 56 = .bool false := q56
              refine ⟨by simp [Rg.wants, q56], ?_⟩
              have c2_ : W.cell? ⟨g2, 2, none⟩ = some (.slice (some ad2) t.links.length c1) := ((hT.ext hR).cell 2).trans rfl
              exact Rg.run_ok (v := .slice (some ad2) t.links.length c1) (by simp [execOp, Rg.ev, go_sem, q57, c2_]) ⟨rfl, hR, Ext.rfl' _⟩
            refine ⟨Rg.at_run [8, 56] rfl ?_, ?_⟩
            · intro ρ W hR ⟨q8, q56, _⟩
              replace q8 : ρ 8 = .int .i64 k := q8
              replace q56 : ρ 56 = .bool false := q56
              refine ⟨by simp [Rg.wants, q56], ?_⟩
              exact Rg.run_ok (v := .int .i64 k) (by simp [execOp, Rg.ev, go_sem, q8]) ⟨rfl, hR, Ext.rfl' _⟩
            refine ⟨Rg.at_run [58, 59, 56] rfl ?_, ?_⟩
            · intro ρ W hR ⟨q58, q59, q56, _⟩
              replace q58 : ρ 58 = .slice (some ad2) t.links.length c1 := q58
              replace q59 : ρ 59 = .int .i64 k := q59
              replace q56 : ρ 56 = .bool false := q56
              refine ⟨by simp [Rg.wants, q56], ?_⟩
              exact Rg.run_ok (v := .pointer (some (ad2.add (k * 4)))) (by simp [execOp, Rg.ev, go_sem, q58, q59, hk0, hkl']) ⟨rfl, hR, Ext.rfl' _⟩
            refine ⟨Rg.at_run [60, 56] rfl ?_, ?_⟩
            · intro ρ W hR ⟨q60, q56, _⟩
              replace q60 : ρ 60 = .pointer (some (ad2.add (k * 4))) := q60
              replace q56 : ρ 56 = .bool false := q56
              refine ⟨by simp [Rg.wants, q56], ?_⟩
              have hab_ : (ad2.add (k * 4)).block < w6.heap.size := by rw [block_of_add]; exact hbr
              have c0_ : W.cell? (ad2.add (k * 4)) = some (str y.name) := (hR.cell (p := (ad2.add (k * 4))) hab_).trans r0
              have c1_ : W.cell? ⟨(ad2.add (k * 4)).block, (ad2.add (k * 4)).off + 1, none⟩ = some (str y.url) := (hR.cell (p := ⟨(ad2.add (k * 4)).block, (ad2.add (k * 4)).off + 1, none⟩) hab_).trans r1
              have c2_ : W.cell? ⟨(ad2.add (k * 4)).block, (ad2.add (k * 4)).off + 2, none⟩ = some (.int .u64 y.till) := (hR.cell (p := ⟨(ad2.add (k * 4)).block, (ad2.add (k * 4)).off + 2, none⟩) hab_).trans r2
              have c3_ : W.cell? ⟨(ad2.add (k * 4)).block, (ad2.add (k * 4)).off + 3, none⟩ = some (.bool y.made) := (hR.cell (p := ⟨(ad2.add (k * 4)).block, (ad2.add (k * 4)).off + 3, none⟩) hab_).trans r3
              exact Rg.run_ok (v := .agg #[str y.name, str y.url, .int .u64 y.till, .bool y.made]) (by simp [execOp, Rg.ev, go_sem, q60, c0_, c1_, c2_, c3_]) ⟨rfl, hR, Ext.rfl' _⟩
            refine ⟨Rg.at_run [10, 56] rfl ?_, ?_⟩
            · intro ρ W hR ⟨q10, q56, _⟩
              replace q10 : ρ 10 = .pointer (some ⟨gx, 0, none⟩) := q10
              replace q56 : ρ 56 = .bool false := q56
              refine ⟨by simp [Rg.wants, q56], ?_⟩
              have c0_ : W.cell? ⟨gx, 0, none⟩ = some (str y.name) := ((hX.ext hR).cell 0).trans rfl
              have c1_ : W.cell? ⟨gx, 1, none⟩ = some (str y.url) := ((hX.ext hR).cell 1).trans rfl
              have c2_ : W.cell? ⟨gx, 2, none⟩ = some (.int .u64 y.till) := ((hX.ext hR).cell 2).trans rfl
              have c3_ : W.cell? ⟨gx, 3, none⟩ = some (.bool y.made) := ((hX.ext hR).cell 3).trans rfl
              exact Rg.run_ok (v := .agg #[str y.name, str y.url, .int .u64 y.till, .bool y.made]) (by simp [execOp, Rg.ev, go_sem, q10, c0_, c1_, c2_, c3_]) ⟨rfl, hR, Ext.rfl' _⟩
            refine ⟨Rg.at_run [61, 62, 56] rfl ?_, ?_⟩
            · intro ρ W hR ⟨q61, q62, q56, _⟩
              replace q61 : ρ 61 = .agg #[str y.name, str y.url, .int .u64 y.till, .bool y.made] := q61
              replace q62 : ρ 62 = .agg #[str y.name, str y.url, .int .u64 y.till, .bool y.made] := q62
              replace q56 : ρ 56 = .bool false := q56
              refine ⟨by simp [Rg.wants, q56], ?_⟩
              exact Rg.run_ok (v := .bool false) (by simp [execOp, Rg.ev, go_sem, q61, q62]) ⟨rfl, hR, Ext.rfl' _⟩
            refine ⟨Rg.at_run [56, 63] rfl ?_, ?_⟩
            · intro ρ W hR ⟨q56, q63, _⟩
              replace q56 : ρ 56 = .bool false := q56
              replace q63 : ρ 63 = .bool false := q63
              refine ⟨rfl, ?_⟩
              exact Rg.run_ok (v := .bool false) (by simp [execOp, Rg.ev, go_sem, q56, q63]) ⟨rfl, hR, Ext.rfl' _⟩
            trivial
          case en =>
            intro tm W hR hsz hk
            rw [Rg.fin_eq (ds := [51, 52, 53, 54, 55, 56, 57, 58, 59, 60, 61, 62, 63, 64]) rfl rfl rfl hsz hk]
            have k51 : tm.getD 51 undef = .int .i64 k := hk 51
            have k52 : tm.getD 52 undef = .pointer (some ⟨g2, 2, none⟩) := hk 52
            have k53 : tm.getD 53 undef = .slice (some ad2) t.links.length c1 := hk 53
            have k54 : tm.getD 54 undef = .int .i64 t.links.length := hk 54
            have k55 : tm.getD 55 undef = .bool false := hk 55
            have k56 : tm.getD 56 undef = .bool false := hk 56
            have k57 : tm.getD 57 undef = .pointer (some ⟨g2, 2, none⟩) := hk 57
            have k58 : tm.getD 58 undef = .slice (some ad2) t.links.length c1 := hk 58
            have k59 : tm.getD 59 undef = .int .i64 k := hk 59
            have k60 : tm.getD 60 undef = .pointer (some (ad2.add (k * 4))) := hk 60
            have k61 : tm.getD 61 undef = .agg #[str y.name, str y.url, .int .u64 y.till, .bool y.made] := hk 61
            have k62 : tm.getD 62 undef = .agg #[str y.name, str y.url, .int .u64 y.till, .bool y.made] := hk 62
            have k63 : tm.getD 63 undef = .bool false := hk 63
            have k64 : tm.getD 64 undef = .bool false := hk 64
            clear hk hsz
            simp only [Rg.putAll, List.setIfInBounds_toArray, List.set_cons_zero, List.set_cons_succ, k51, k52, k53, k54, k55, k56, k57, k58, k59, k60, k61, k62, k63, k64]
            clear k51
            clear k52
            clear k53
            clear k54
            clear k55
            clear k56
            clear k57
            clear k58
            clear k59
            clear k60
            clear k61
            clear k62
            clear k63
            clear k64
            refine Rg.nil_list ?_
            go_wp2_with fail
            go_roundw
            case rel => exact ⟨m + 1, by omega, by go_num, by rw [F2.out]; go_num, hxr.trans' hR⟩
            case measure => simp [intOf]; omega
        · have z1 : (y.till != 0) = true := by simpa using z
          have z2 : ¬ y.till ≤ max s.now n := by simpa [z] using hlv
          clear z hlv
          go_wp2_with fail
          refine Rg.regionT Try.checked.mixed 94 14 (by kernel_rfl) [
            (fun x_ _ => x_ = .int .i64 k),
            (fun x_ _ => x_ = .pointer (some ⟨g2, 2, none⟩)),
            (fun x_ _ => x_ = .slice (some ad2) t.links.length c1),
            (fun x_ _ => x_ = .int .i64 t.links.length),
            (fun x_ _ => x_ = .bool false),
            (fun x_ _ => x_ = .bool false),
            (fun x_ _ => x_ = .pointer (some ⟨g2, 2, none⟩)),
            (fun x_ _ => x_ = .slice (some ad2) t.links.length c1),
            (fun x_ _ => x_ = .int .i64 k),
            (fun x_ _ => x_ = .pointer (some (ad2.add (k * 4)))),
            (fun x_ _ => x_ = .agg #[str y.name, str y.url, .int .u64 y.till, .bool y.made]),
            (fun x_ _ => x_ = .agg #[str y.name, str y.url, .int .u64 y.till, .bool y.made]),
            (fun x_ _ => x_ = .bool false),
            (fun x_ _ => x_ = .bool false)] (fun W => Ext w6 W) Ext rfl rfl rfl
            ?st ((Ext.rfl' w6).drew') ?ob ?en
          case st => exact ⟨fun _ _ _ h _ => h, fun _ _ _ h _ => h, fun _ _ _ h _ => h, fun _ _ _ h _ => h, fun _ _ _ h _ => h, fun _ _ _ h _ => h, fun _ _ _ h _ => h, fun _ _ _ h _ => h, fun _ _ _ h _ => h, fun _ _ _ h _ => h, fun _ _ _ h _ => h, fun _ _ _ h _ => h, fun _ _ _ h _ => h, fun _ _ _ h _ => h, trivial⟩
          case ob =>
            refine ⟨Rg.at_run [8] rfl ?_, ?_⟩
            · intro ρ W hR ⟨q8, _⟩
              replace q8 : ρ 8 = .int .i64 k := q8
              refine ⟨rfl, ?_⟩
              exact Rg.run_ok (v := .int .i64 k) (by simp [execOp, Rg.ev, go_sem, q8]) ⟨rfl, hR, Ext.rfl' _⟩
            refine ⟨Rg.at_run [6] rfl ?_, ?_⟩
            · intro ρ W hR ⟨q6, _⟩
              replace q6 : ρ 6 = .pointer (some ⟨g2, 0, none⟩) := q6
              refine ⟨rfl, ?_⟩
              exact Rg.run_ok (v := .pointer (some ⟨g2, 2, none⟩)) (by simp [execOp, Rg.ev, go_sem, q6]) ⟨rfl, hR, Ext.rfl' _⟩
            refine ⟨Rg.at_run [52] rfl ?_, ?_⟩
            · intro ρ W hR ⟨q52, _⟩
              replace q52 : ρ 52 = .pointer (some ⟨g2, 2, none⟩) := q52
              refine ⟨rfl, ?_⟩
              have c2_ : W.cell? ⟨g2, 2, none⟩ = some (.slice (some ad2) t.links.length c1) := ((hT.ext hR).cell 2).trans rfl
              exact Rg.run_ok (v := .slice (some ad2) t.links.length c1) (by simp [execOp, Rg.ev, go_sem, q52, c2_]) ⟨rfl, hR, Ext.rfl' _⟩
            refine ⟨Rg.at_run [53] rfl ?_, ?_⟩
            · intro ρ W hR ⟨q53, _⟩
              replace q53 : ρ 53 = .slice (some ad2) t.links.length c1 := q53
              refine ⟨rfl, ?_⟩
              exact Rg.run_ok (v := .int .i64 t.links.length) (by simp [execOp, Rg.ev, go_sem, q53]) ⟨rfl, hR, Ext.rfl' _⟩
            refine ⟨Rg.at_run [51, 54] rfl ?_, ?_⟩
            · intro ρ W hR ⟨q51, q54, _⟩
              replace q51 : ρ 51 = .int .i64 k := q51
              replace q54 : ρ 54 = .int .i64 t.links.length := q54
              refine ⟨rfl, ?_⟩
              exact Rg.run_ok (v := .bool false) (by simp [execOp, Rg.ev, go_sem, q51, q54]; omega) ⟨rfl, hR, Ext.rfl' _⟩
            refine ⟨Rg.at_run [55] rfl ?_, ?_⟩
            · intro ρ W hR ⟨q55, _⟩
              replace q55 : ρ 55 = .bool false := q55
              refine ⟨rfl, ?_⟩
              exact Rg.run_ok (v := .bool false) (by simp [execOp, Rg.ev, go_sem, q55]) ⟨rfl, hR, Ext.rfl' _⟩
            refine ⟨Rg.at_run [6, 56] rfl ?_, ?_⟩
            · intro ρ W hR ⟨q6, q56, _⟩
              replace q6 : ρ 6 = .pointer (some ⟨g2, 0, none⟩) := q6
              replace q56 : ρ 56 = .bool false := q56
              refine ⟨by simp [Rg.wants, q56], ?_⟩
              exact Rg.run_ok (v := .pointer (some ⟨g2, 2, none⟩)) (by simp [execOp, Rg.ev, go_sem, q6]) ⟨rfl, hR, Ext.rfl' _⟩
            refine ⟨Rg.at_run [57, 56] rfl ?_, ?_⟩
            · intro ρ W hR ⟨q57, q56, _⟩
              replace q57 : ρ 57 = .pointer (some ⟨g2, 2, none⟩) := q57
              replace q56 : ρ 56 = .bool false := q56
              refine ⟨by simp [Rg.wants, q56], ?_⟩
              have c2_ : W.cell? ⟨g2, 2, none⟩ = some (.slice (some ad2) t.links.length c1) := ((hT.ext hR).cell 2).trans rfl
              exact Rg.run_ok (v := .slice (some ad2) t.links.length c1) (by simp [execOp, Rg.ev, go_sem, q57, c2_]) ⟨rfl, hR, Ext.rfl' _⟩
            refine ⟨Rg.at_run [8, 56] rfl ?_, ?_⟩
            · intro ρ W hR ⟨q8, q56, _⟩
              replace q8 : ρ 8 = .int .i64 k := q8
              replace q56 : ρ 56 = .bool false := q56
              refine ⟨by simp [Rg.wants, q56], ?_⟩
              exact Rg.run_ok (v := .int .i64 k) (by simp [execOp, Rg.ev, go_sem, q8]) ⟨rfl, hR, Ext.rfl' _⟩
            refine ⟨Rg.at_run [58, 59, 56] rfl ?_, ?_⟩
            · intro ρ W hR ⟨q58, q59, q56, _⟩
              replace q58 : ρ 58 = .slice (some ad2) t.links.length c1 := q58
              replace q59 : ρ 59 = .int .i64 k := q59
              replace q56 : ρ 56 = .bool false := q56
              refine ⟨by simp [Rg.wants, q56], ?_⟩
              exact Rg.run_ok (v := .pointer (some (ad2.add (k * 4)))) (by simp [execOp, Rg.ev, go_sem, q58, q59, hk0, hkl']) ⟨rfl, hR, Ext.rfl' _⟩
            refine ⟨Rg.at_run [60, 56] rfl ?_, ?_⟩
            · intro ρ W hR ⟨q60, q56, _⟩
              replace q60 : ρ 60 = .pointer (some (ad2.add (k * 4))) := q60
              replace q56 : ρ 56 = .bool false := q56
              refine ⟨by simp [Rg.wants, q56], ?_⟩
              have hab_ : (ad2.add (k * 4)).block < w6.heap.size := by rw [block_of_add]; exact hbr
              have c0_ : W.cell? (ad2.add (k * 4)) = some (str y.name) := (hR.cell (p := (ad2.add (k * 4))) hab_).trans r0
              have c1_ : W.cell? ⟨(ad2.add (k * 4)).block, (ad2.add (k * 4)).off + 1, none⟩ = some (str y.url) := (hR.cell (p := ⟨(ad2.add (k * 4)).block, (ad2.add (k * 4)).off + 1, none⟩) hab_).trans r1
              have c2_ : W.cell? ⟨(ad2.add (k * 4)).block, (ad2.add (k * 4)).off + 2, none⟩ = some (.int .u64 y.till) := (hR.cell (p := ⟨(ad2.add (k * 4)).block, (ad2.add (k * 4)).off + 2, none⟩) hab_).trans r2
              have c3_ : W.cell? ⟨(ad2.add (k * 4)).block, (ad2.add (k * 4)).off + 3, none⟩ = some (.bool y.made) := (hR.cell (p := ⟨(ad2.add (k * 4)).block, (ad2.add (k * 4)).off + 3, none⟩) hab_).trans r3
              exact Rg.run_ok (v := .agg #[str y.name, str y.url, .int .u64 y.till, .bool y.made]) (by simp [execOp, Rg.ev, go_sem, q60, c0_, c1_, c2_, c3_]) ⟨rfl, hR, Ext.rfl' _⟩
            refine ⟨Rg.at_run [10, 56] rfl ?_, ?_⟩
            · intro ρ W hR ⟨q10, q56, _⟩
              replace q10 : ρ 10 = .pointer (some ⟨gx, 0, none⟩) := q10
              replace q56 : ρ 56 = .bool false := q56
              refine ⟨by simp [Rg.wants, q56], ?_⟩
              have c0_ : W.cell? ⟨gx, 0, none⟩ = some (str y.name) := ((hX.ext hR).cell 0).trans rfl
              have c1_ : W.cell? ⟨gx, 1, none⟩ = some (str y.url) := ((hX.ext hR).cell 1).trans rfl
              have c2_ : W.cell? ⟨gx, 2, none⟩ = some (.int .u64 y.till) := ((hX.ext hR).cell 2).trans rfl
              have c3_ : W.cell? ⟨gx, 3, none⟩ = some (.bool y.made) := ((hX.ext hR).cell 3).trans rfl
              exact Rg.run_ok (v := .agg #[str y.name, str y.url, .int .u64 y.till, .bool y.made]) (by simp [execOp, Rg.ev, go_sem, q10, c0_, c1_, c2_, c3_]) ⟨rfl, hR, Ext.rfl' _⟩
            refine ⟨Rg.at_run [61, 62, 56] rfl ?_, ?_⟩
            · intro ρ W hR ⟨q61, q62, q56, _⟩
              replace q61 : ρ 61 = .agg #[str y.name, str y.url, .int .u64 y.till, .bool y.made] := q61
              replace q62 : ρ 62 = .agg #[str y.name, str y.url, .int .u64 y.till, .bool y.made] := q62
              replace q56 : ρ 56 = .bool false := q56
              refine ⟨by simp [Rg.wants, q56], ?_⟩
              exact Rg.run_ok (v := .bool false) (by simp [execOp, Rg.ev, go_sem, q61, q62]) ⟨rfl, hR, Ext.rfl' _⟩
            refine ⟨Rg.at_run [56, 63] rfl ?_, ?_⟩
            · intro ρ W hR ⟨q56, q63, _⟩
              replace q56 : ρ 56 = .bool false := q56
              replace q63 : ρ 63 = .bool false := q63
              refine ⟨rfl, ?_⟩
              exact Rg.run_ok (v := .bool false) (by simp [execOp, Rg.ev, go_sem, q56, q63]) ⟨rfl, hR, Ext.rfl' _⟩
            trivial
          case en =>
            intro tm W hR hsz hk
            rw [Rg.fin_eq (ds := [51, 52, 53, 54, 55, 56, 57, 58, 59, 60, 61, 62, 63, 64]) rfl rfl rfl hsz hk]
            have k51 : tm.getD 51 undef = .int .i64 k := hk 51
            have k52 : tm.getD 52 undef = .pointer (some ⟨g2, 2, none⟩) := hk 52
            have k53 : tm.getD 53 undef = .slice (some ad2) t.links.length c1 := hk 53
            have k54 : tm.getD 54 undef = .int .i64 t.links.length := hk 54
            have k55 : tm.getD 55 undef = .bool false := hk 55
            have k56 : tm.getD 56 undef = .bool false := hk 56
            have k57 : tm.getD 57 undef = .pointer (some ⟨g2, 2, none⟩) := hk 57
            have k58 : tm.getD 58 undef = .slice (some ad2) t.links.length c1 := hk 58
            have k59 : tm.getD 59 undef = .int .i64 k := hk 59
            have k60 : tm.getD 60 undef = .pointer (some (ad2.add (k * 4))) := hk 60
            have k61 : tm.getD 61 undef = .agg #[str y.name, str y.url, .int .u64 y.till, .bool y.made] := hk 61
            have k62 : tm.getD 62 undef = .agg #[str y.name, str y.url, .int .u64 y.till, .bool y.made] := hk 62
            have k63 : tm.getD 63 undef = .bool false := hk 63
            have k64 : tm.getD 64 undef = .bool false := hk 64
            clear hk hsz
            simp only [Rg.putAll, List.setIfInBounds_toArray, List.set_cons_zero, List.set_cons_succ, k51, k52, k53, k54, k55, k56, k57, k58, k59, k60, k61, k62, k63, k64]
            clear k51
            clear k52
            clear k53
            clear k54
            clear k55
            clear k56
            clear k57
            clear k58
            clear k59
            clear k60
            clear k61
            clear k62
            clear k63
            clear k64
            refine Rg.nil_list ?_
            go_wp2_with fail
            go_roundw
            case rel => exact ⟨m + 1, by omega, by go_num, by rw [F2.out]; go_num, hxr.trans' hR⟩
            case measure => simp [intOf]; omega
    · obtain rfl : m = s.links.length := by omega
      have hA_0 := (hA.cell 0).trans rfl
      have hA_1 := (hA.cell 1).trans rfl
      have e8 : ((s.links.take s.links.length).filter q).length = t.links.length := by rw [List.take_length, htl.out]
      rw [e8]
      rw [htn.out] at hT_0
      rw [htc.out] at hT_1
      clear e8
      go_wp2_with fail
      go_ret
      exact ⟨rfl, hx1.trans' hxr⟩
end Go.Proofs.Ytggfemdgccgbpaa

/- The statement 'LinksTimeSaid': whatever is handed in, the law answers true, and what was handed in is as it was. -/
namespace Go.Proofs.Ytggfemdgccgbpaa.linksTime
set_option linter.unusedVariables false
set_option linter.unusedSimpArgs false
set_option linter.unnecessarySimpa false
set_option maxRecDepth 100000
open Go.ChangeShapes Go.WideShapes Go.ChangeAt Go.RowKit
open Go.ChangeMaps (open_string shut_string)

set_option maxRecDepth 100000 in
set_option maxHeartbeats 2000000 in
theorem lifted (os : Os) (started : os.Started) (H : Type) (enc : TypeId × Value → H) :
    ReturnsInHanded {} Try.checked os 7 .any (Rows.linksTimeSpec.pre6 enc Try.prog Try.f7 Rows.linksTimeRow.domain false) (Rows.linksTimeSpec.post enc Try.prog Try.f7 false true false false) := by
  refine returnsInHanded_of_change (C := Try.checked) own started (by kernel_rfl) Try.func7
    (ChangeSpec.witness6 (enc := enc) (C := Try.checked) false ⟨#[], #[.slice none 0 0, .int .u32 0], []⟩ 8 (by kernel_rfl) (by kernel_rfl) (by kernel_rfl) (by kernel_rfl)) ?_
  intro W base args ds gs before hval0 hW hcnd _
  have hval : ∀ (j : Nat) t v, Try.f7.params[j]? = some t → args[j]? = some v → Value.okWide Try.prog W .any base t v := hval0
  have hW' := hW
  obtain ⟨p, q, hA0, hV, rfl, hfz, hnd⟩ := hW
  have hA : DataW.TrodAll enc Try.prog W 0 (fun _ => true) true Try.f7.params.toList args.toList ds p := hA0
  rw [Try.params7] at hA hval
  obtain ⟨v0, vs0, d0, ds0, p0, q0, hargs, rfl, rfl, h0, r0⟩ := trodAll_cons hA
  obtain ⟨v1, vs1, d1, ds1, p1, q1, rfl, rfl, rfl, h1, r1⟩ := trodAll_cons r0
  obtain ⟨rfl, rfl, rfl⟩ := trodAll_nil r1
  obtain rfl : args = #[v0, v1] := by cases args; simp_all
  obtain ⟨rfl, rfl⟩ := trodVars_none hV
  obtain ⟨a0, len0, cap0, rfl⟩ := okWide_slice Try.underlying22 (hval 0 22 v0 rfl rfl)
  have k0 := h0
  have lt0 : ∀ x ∈ p0, x.block < W.heap.size := by obtain ⟨m, hm⟩ := k0; exact DataW.trod_lt m _ _ _ hm
  obtain ⟨b0, hb0⟩ : ∃ b, Bs W (.slice a0 len0 cap0) b := by
    obtain ⟨fuel, hf⟩ := h0
    rcases open_ints Try.underlying22 Try.underlying5 (by kernel_rfl) hf with ⟨hcs, _⟩ | ⟨x, l, c, zs, hcs, _, hl, hm, hz, _, hcell, hwz⟩
    · simp [Value.cells] at hcs
      obtain ⟨rfl, rfl, rfl⟩ := hcs
      exact ⟨[], bs_none⟩
    · simp [Value.cells] at hcs
      obtain ⟨rfl, rfl, rfl⟩ := hcs
      exact bs_of_ints hl hm (by simpa using hz) hcell hwz
  obtain ⟨a1, rfl, rfl, rfl, w1⟩ := open_int Try.underlying42 (hval 1 42 v1 rfl rfl) h1
  have i1 := w1
  simp [Lit.wf, IntKind.min, IntKind.max, IntKind.bits, IntKind.signed] at i1
  clear hA0 hval0
  refine (linksTime_walk _ b0 a1 W hb0 i1).mono fun e W' ⟨he, bel⟩ => ?_
  subst he
  exact ⟨_, rfl, _, _, _, [], _, [], hW', trodAll_mk1 (shut_bool Try.underlying4 _), (trodAll_cons_mk (Below.trod laidOut (by kernel_rfl) (of_decide_eq_true (by kernel_rfl)) k0 bel lt0) (trodAll_cons_mk (shut_int Try.underlying42 w1) trodAll_mk0)), rfl, bel.frame _, fun h => by cases h⟩

theorem over : Rows.linksTimeRow.holds Try.pinned (OpenSpec.ofChange Rows.linksTimeSpec) :=
  OpenClaim.holds_of_wide 7 Try.f7 rfl rfl rfl rfl rfl rfl rfl ⟨rfl, rfl, rfl, rfl, rfl⟩ rfl rfl rfl rfl rfl (by kernel_rfl) Try.func7 (by kernel_rfl)
    (of_decide_eq_true (by kernel_rfl)) (by unfold Func.isWrapper; first | (rw [if_pos (by decide +kernel)]; kernel_rfl) | (rw [if_neg (by decide +kernel)]; exact ⟨rfl, rfl⟩))
    (fun os started H enc _ => lifted os started H enc)

/-- THE STATEMENT -/
theorem proved : Rows.LinksTimeSaid := over
#print axioms proved
end Go.Proofs.Ytggfemdgccgbpaa.linksTime

