/- A part of the proof of 'MsgAll'. -/
import Derived.Test.YtlblgopfdadalaaM13
import Derived.Test.YtlblgopfdadalaaM25
import Derived.Test.YtlblgopfdadalaaM7
import Derived.Test.YtlblgopfdadalaaM8
import Derived.Deep.DeepCutAuto
namespace Go.Proofs.Ytlblgopfdadalaa
set_option linter.unusedVariables false
set_option linter.unusedSimpArgs false
set_option linter.unnecessarySimpa false
set_option maxRecDepth 100000
open Go.RowKit
theorem qPut2 (x : Value) (l : Bytes) (v : Int) (w : World) (hv : U64 v) (hl : l.length ≤ 1000000) (hr : Bs w x l) : Calls Try.prog 42 #[x, .int .u64 v, .int .i64 2] w fun e w' => RetNw w w' e (l ++ be 2 (v % 65536).toNat) :=
  (rput_b x l v 2 w hv (by omega) (by omega) hr).mono fun _ _ h => h.eq (oput_mod l v hv.1)
theorem qPut2w (x : Value) (l : Bytes) (d : Int) (w : World) (hl : l.length ≤ 1000000) (hr : Bs w x l) : Calls Try.prog 42 #[x, .int .u64 (IntKind.u64.wrap d), .int .i64 2] w fun e w' => RetNw w w' e (l ++ be 2 (d % 65536).toNat) :=
  (qPut2 x l _ w (u64_wrap d) hl hr).mono fun _ _ h => h.eq (by rw [wrap_mod])
theorem qPutN (x : Value) (l : Bytes) (n : Nat) (w : World) (hn : n ≤ 65535) (hl : l.length ≤ 1000000) (hr : Bs w x l) : Calls Try.prog 42 #[x, .int .u64 n, .int .i64 2] w fun e w' => RetNw w w' e (l ++ be 2 n) :=
  (rput_b x l n 2 w ⟨by omega, by omega⟩ (by omega) (by omega) hr).mono fun _ _ h => h.eq (by simp [oput])
theorem qPut8 (x : Value) (l : Bytes) (v : Int) (w : World) (hv : U64 v) (hl : l.length ≤ 1000000) (hr : Bs w x l) : Calls Try.prog 42 #[x, .int .u64 v, .int .i64 8] w fun e w' => RetNw w w' e (l ++ be 8 v.toNat) :=
  (rput_b x l v 8 w hv (by omega) (by omega) hr).mono fun _ _ h => h.eq (by simp [oput])
theorem qPutB (x y : Value) (b s : Bytes) (w : World) (hl : b.length + s.length ≤ 1000000) (hx : Bs w x b) (hy : Bs w y s) : Calls Try.prog 43 #[x, y] w fun e w' => RetNw w w' e (b ++ oputBytes [] s) :=
  (rputBytes_b x y b s w (by omega) hx hy).mono fun _ _ h => h.eq (by simp [oputBytes])
set_option maxHeartbeats 12800000 in
theorem rputMsg_b (m : Mg) (ve vs : Value) (w : World) (hw : m.wide) (hl : m.light) (he : Enc.Sl enE w noneAt ve m.ents) (hs : Bs w vs m.snap.state) :
    Calls Try.prog 11 #[.agg (mgcells m ve vs).toArray] w fun e w' => RetNw w w' e (msgC.enc m) := by
  obtain ⟨Ae, ce, rfl, -, -⟩ := he.form
  obtain ⟨As, cs, rfl, -, -, -⟩ := id hs
  have hx0 : Ext w (w.alloc (.cells (mgcells m (.slice Ae m.ents.length ce) (.slice As m.snap.state.length cs)).toArray 33)) := (Ext.rfl' w).alloc' _
  have hM := Blk.new w 33 (mgcells m (.slice Ae m.ents.length ce) (.slice As m.snap.state.length cs)).toArray
  obtain ⟨g, hg⟩ : ∃ g, w.heap.size = g := ⟨_, rfl⟩
  rw [hg] at hM
  have HWK : IntKind.u8.wrap m.kind = m.kind := by rw [IntKind.wrap_u8]; have := hl.k0; have := hl.k1; omega
  have HWE : IntKind.u8.wrap m.an.err = m.an.err := by rw [IntKind.wrap_u8]; have := hl.e0; have := hl.e1; omega
  have hen := hl.ents
  have HWL : IntKind.u64.wrap (m.ents.length : Int) = m.ents.length := IntWalk.u64_in _ ⟨by omega, by omega⟩
  obtain ⟨kb, hkb, hkb2⟩ := be1_byte hl.k0 hl.k1
  obtain ⟨eb, heb, heb2⟩ := be1_byte hl.e0 hl.e1
  have HKB := hide hkb
  have HEB := hide heb
  clear hkb heb
  have HW := hide hw
  have HL := hide hl
  go_enter Try.func11, Try.ntmps11
  go_upto_region 1 with fail
  generalize (w.alloc (.cells (mgcells m (.slice Ae m.ents.length ce) (.slice As m.snap.state.length cs)).toArray 33)) = w1 at *
  try rw [hg]
  have hgw : w.heap.size ≤ g := by omega
  clear hg
  refine Rg.regionT Try.checked.mixed 104 12 (by kernel_rfl) [
    (fun x_ _ => x_ = .pointer (some ⟨g, 0, none⟩)),
    (fun x_ _ => x_ = .int .i64 m.kind),
    (fun x_ _ => x_ = .int .u8 m.kind),
    (fun v W => Bs W v [kb]),
    (fun x_ _ => x_ = .pointer (some ⟨g, 1, none⟩)),
    (fun x_ _ => x_ = .int .i64 m.fro),
    (fun x_ _ => x_ = .int .u64 (IntKind.u64.wrap m.fro)),
    (fun v W => Bs W v ([kb] ++ be 2 (m.fro % 65536).toNat)),
    (fun x_ _ => x_ = .pointer (some ⟨g, 2, none⟩)),
    (fun x_ _ => x_ = .int .i64 m.too),
    (fun x_ _ => x_ = .int .u64 (IntKind.u64.wrap m.too)),
    (fun v W => Nw w1 W v ([kb] ++ be 2 (m.fro % 65536).toNat ++ be 2 (m.too % 65536).toNat))] (fun W => Ext w1 W) Ext rfl rfl rfl
    ?st ((Ext.rfl' w1).drew') ?ob ?en
  case st => exact ⟨fun _ _ _ h _ => h, fun _ _ _ h _ => h, fun _ _ _ h _ => h, fun _ _ _ h hx => h.ext hx, fun _ _ _ h _ => h, fun _ _ _ h _ => h, fun _ _ _ h _ => h, fun _ _ _ h hx => h.ext hx, fun _ _ _ h _ => h, fun _ _ _ h _ => h, fun _ _ _ h _ => h, fun _ _ _ h hx => own_ext h hx, trivial⟩
  case ob =>
    refine ⟨Rg.at_run [1] rfl ?_, ?_⟩
    · intro ρ W hR ⟨q1, _⟩
      replace q1 : ρ 1 = .pointer (some ⟨g, 0, none⟩) := q1
      refine ⟨rfl, ?_⟩
      exact Rg.run_ok (v := .pointer (some ⟨g, 0, none⟩)) (by simp [execOp, Rg.ev, go_sem, q1]) ⟨rfl, hR, Ext.rfl' _⟩
    refine ⟨Rg.at_run [8] rfl ?_, ?_⟩
    · intro ρ W hR ⟨q8, _⟩
      replace q8 : ρ 8 = .pointer (some ⟨g, 0, none⟩) := q8
      refine ⟨rfl, ?_⟩
      have c0_ : W.cell? ⟨g, 0, none⟩ = some (.int .i64 m.kind) := ((hM.ext hR).cell 0).trans rfl
      exact Rg.run_ok (v := .int .i64 m.kind) (by simp [execOp, Rg.ev, go_sem, q8, c0_]) ⟨rfl, hR, Ext.rfl' _⟩
    refine ⟨Rg.at_run [9] rfl ?_, ?_⟩
    · intro ρ W hR ⟨q9, _⟩
      replace q9 : ρ 9 = .int .i64 m.kind := q9
      refine ⟨rfl, ?_⟩
      exact Rg.run_ok (v := .int .u8 m.kind) (by simp [execOp, Rg.ev, go_sem, q9, HWK]) ⟨rfl, hR, Ext.rfl' _⟩
    refine ⟨Rg.at_run [10] rfl ?_, ?_⟩
    · intro ρ W hR ⟨q10, _⟩
      replace q10 : ρ 10 = .int .u8 m.kind := q10
      refine ⟨rfl, ?_⟩
      refine Rg.run_ok (v := .slice (some ⟨W.heap.size, 0, none⟩) 1 1) (W' := W.alloc (.cells #[.int .u8 m.kind] 5)) (by simp [execOp, Rg.ev, go_sem, q10]) ⟨?_, hR.alloc' _, (Ext.rfl' _).alloc' _⟩
      have h := lit8 W kb W.heap.size rfl
      rw [hkb2] at h
      exact h
    refine ⟨Rg.at_run [1] rfl ?_, ?_⟩
    · intro ρ W hR ⟨q1, _⟩
      replace q1 : ρ 1 = .pointer (some ⟨g, 0, none⟩) := q1
      refine ⟨rfl, ?_⟩
      exact Rg.run_ok (v := .pointer (some ⟨g, 1, none⟩)) (by simp [execOp, Rg.ev, go_sem, q1]) ⟨rfl, hR, Ext.rfl' _⟩
    refine ⟨Rg.at_run [12] rfl ?_, ?_⟩
    · intro ρ W hR ⟨q12, _⟩
      replace q12 : ρ 12 = .pointer (some ⟨g, 1, none⟩) := q12
      refine ⟨rfl, ?_⟩
      have c1_ : W.cell? ⟨g, 1, none⟩ = some (.int .i64 m.fro) := ((hM.ext hR).cell 1).trans rfl
      exact Rg.run_ok (v := .int .i64 m.fro) (by simp [execOp, Rg.ev, go_sem, q12, c1_]) ⟨rfl, hR, Ext.rfl' _⟩
    refine ⟨Rg.at_run [13] rfl ?_, ?_⟩
    · intro ρ W hR ⟨q13, _⟩
      replace q13 : ρ 13 = .int .i64 m.fro := q13
      refine ⟨rfl, ?_⟩
      exact Rg.run_ok (v := .int .u64 (IntKind.u64.wrap m.fro)) (by simp [execOp, Rg.ev, go_sem, q13]) ⟨rfl, hR, Ext.rfl' _⟩
    refine ⟨Rg.at_run [11, 14] rfl ?_, ?_⟩
    · intro ρ W hR ⟨q11, q14, _⟩
      replace q11 : (fun v W => Bs W v [kb]) (ρ 11) W := q11
      replace q14 : ρ 14 = .int .u64 (IntKind.u64.wrap m.fro) := q14
      refine ⟨rfl, ?_⟩
      refine Rg.run_enter (by simp [execOp, Rg.ev, go_sem, q14]; exact ⟨⟨rfl, rfl⟩, rfl⟩) ?_
      refine (qPut2w _ [kb] m.fro W (by simp) q11).mono ?_
      rintro e w2 ⟨m_, Am, cm, hm_, rfl, hz, hxx⟩
      have hm' := hm_.out
      subst hm'
      exact ⟨_, rfl, hz.bs, hR.trans' hxx, hxx⟩
    refine ⟨Rg.at_run [1] rfl ?_, ?_⟩
    · intro ρ W hR ⟨q1, _⟩
      replace q1 : ρ 1 = .pointer (some ⟨g, 0, none⟩) := q1
      refine ⟨rfl, ?_⟩
      exact Rg.run_ok (v := .pointer (some ⟨g, 2, none⟩)) (by simp [execOp, Rg.ev, go_sem, q1]) ⟨rfl, hR, Ext.rfl' _⟩
    refine ⟨Rg.at_run [16] rfl ?_, ?_⟩
    · intro ρ W hR ⟨q16, _⟩
      replace q16 : ρ 16 = .pointer (some ⟨g, 2, none⟩) := q16
      refine ⟨rfl, ?_⟩
      have c2_ : W.cell? ⟨g, 2, none⟩ = some (.int .i64 m.too) := ((hM.ext hR).cell 2).trans rfl
      exact Rg.run_ok (v := .int .i64 m.too) (by simp [execOp, Rg.ev, go_sem, q16, c2_]) ⟨rfl, hR, Ext.rfl' _⟩
    refine ⟨Rg.at_run [17] rfl ?_, ?_⟩
    · intro ρ W hR ⟨q17, _⟩
      replace q17 : ρ 17 = .int .i64 m.too := q17
      refine ⟨rfl, ?_⟩
      exact Rg.run_ok (v := .int .u64 (IntKind.u64.wrap m.too)) (by simp [execOp, Rg.ev, go_sem, q17]) ⟨rfl, hR, Ext.rfl' _⟩
    refine ⟨Rg.at_run [15, 18] rfl ?_, ?_⟩
    · intro ρ W hR ⟨q15, q18, _⟩
      replace q15 : (fun v W => Bs W v ([kb] ++ be 2 (m.fro % 65536).toNat)) (ρ 15) W := q15
      replace q18 : ρ 18 = .int .u64 (IntKind.u64.wrap m.too) := q18
      refine ⟨rfl, ?_⟩
      refine Rg.run_enter (by simp [execOp, Rg.ev, go_sem, q18]; exact ⟨⟨rfl, rfl⟩, rfl⟩) ?_
      refine (qPut2w _ ([kb] ++ be 2 (m.fro % 65536).toNat) m.too W (by simp [be_length]) q15).mono ?_
      rintro e w2 ⟨m_, Am, cm, hm_, rfl, hz, hxx⟩
      have hm' := hm_.out
      subst hm'
      exact ⟨_, rfl, hz.trans (hR), hR.trans' hxx, hxx⟩
    trivial
  case en =>
    intro tm W hR hsz hk
    rw [Rg.fin_eq (ds := [8, 9, 10, 11, 12, 13, 14, 15, 16, 17, 18, 19]) rfl rfl rfl hsz hk]
    have k8 : tm.getD 8 undef = .pointer (some ⟨g, 0, none⟩) := hk 8
    have k9 : tm.getD 9 undef = .int .i64 m.kind := hk 9
    have k10 : tm.getD 10 undef = .int .u8 m.kind := hk 10
    have k11 : (fun v W => Bs W v [kb]) (tm.getD 11 undef) W := hk 11
    have k12 : tm.getD 12 undef = .pointer (some ⟨g, 1, none⟩) := hk 12
    have k13 : tm.getD 13 undef = .int .i64 m.fro := hk 13
    have k14 : tm.getD 14 undef = .int .u64 (IntKind.u64.wrap m.fro) := hk 14
    have k15 : (fun v W => Bs W v ([kb] ++ be 2 (m.fro % 65536).toNat)) (tm.getD 15 undef) W := hk 15
    have k16 : tm.getD 16 undef = .pointer (some ⟨g, 2, none⟩) := hk 16
    have k17 : tm.getD 17 undef = .int .i64 m.too := hk 17
    have k18 : tm.getD 18 undef = .int .u64 (IntKind.u64.wrap m.too) := hk 18
    have k19 : (fun v W => Nw w1 W v ([kb] ++ be 2 (m.fro % 65536).toNat ++ be 2 (m.too % 65536).toNat)) (tm.getD 19 undef) W := hk 19
    clear hk hsz
    simp only [Rg.putAll, List.setIfInBounds_toArray, List.set_cons_zero, List.set_cons_succ, k8, k9, k10, k12, k13, k14, k16, k17, k18]
    clear k8
    clear k9
    clear k10
    generalize tm.getD 11 undef = u11 at *
    clear k12
    clear k13
    clear k14
    generalize tm.getD 15 undef = u15 at *
    clear k16
    clear k17
    clear k18
    generalize tm.getD 19 undef = u19 at *
    clear k11 k15
    obtain ⟨b1, hb1⟩ : ∃ b1, [kb] ++ be 2 (m.fro % 65536).toNat ++ be 2 (m.too % 65536).toNat = b1 := ⟨_, rfl⟩
    rw [hb1] at k19
    have hb1l : 5 ≤ b1.length ∧ b1.length ≤ 5 := by rw [← hb1]; simp [be_length]
    have HB1 := hide hb1
    clear hb1
    obtain ⟨A1, c1, hv1, -, -⟩ := own_slice (id k19)
    subst hv1
    have hn1 : Nw w W (.slice A1 b1.length c1) b1 := own_base k19 hx0.size
    replace hx0 := hx0.trans' hR
    replace hM := hM.ext hR
    clear k19 hR
    generalize W = W2 at *
    have e3 : W2.cell? ⟨g, 3, none⟩ = some (.int .u64 m.term) := (hM.cell 3).trans rfl
    have e4 : W2.cell? ⟨g, 4, none⟩ = some (.int .u64 m.index) := (hM.cell 4).trans rfl
    have e5 : W2.cell? ⟨g, 5, none⟩ = some (.int .u64 m.logTerm) := (hM.cell 5).trans rfl
    have e7 : W2.cell? ⟨g, 7, none⟩ = some (.int .u64 m.commit) := (hM.cell 7).trans rfl
    have e8 : W2.cell? ⟨g, 8, none⟩ = some (.int .u64 m.round) := (hM.cell 8).trans rfl
    obtain ⟨g1, hg1⟩ : ∃ g1, W2.heap.size = g1 := ⟨_, rfl⟩
    have hLc : ∀ (j : Nat) (d : Int), [m.term, m.index, m.logTerm, m.commit, m.round][j]? = some d → (W2.alloc (.cells #[.int .u64 m.term, .int .u64 m.index, .int .u64 m.logTerm, .int .u64 m.commit, .int .u64 m.round] 22)).cell? ((⟨g1, 0, none⟩ : Addr).add j) = some (.int .u64 d) := lit_cells .u64 [m.term, m.index, m.logTerm, m.commit, m.round] W2 22 g1 hg1
    have hxb : Ext W2 (W2.alloc (.cells #[.int .u64 m.term, .int .u64 m.index, .int .u64 m.logTerm, .int .u64 m.commit, .int .u64 m.round] 22)) := (Ext.rfl' W2).alloc' _
    have hLb : g1 < (W2.alloc (.cells #[.int .u64 m.term, .int .u64 m.index, .int .u64 m.logTerm, .int .u64 m.commit, .int .u64 m.round] 22)).heap.size := by rw [← hg1]; simp
    simp only [List.drop_succ_cons, List.drop_zero]
    go_wp2_with fail
    generalize W2.alloc _ = W3 at *
    obtain ⟨aK, haL⟩ : ∃ a : Addr, (⟨g1, 0, none⟩ : Addr) = a := ⟨_, rfl⟩
    have hLb' : aK.block < W3.heap.size := by rw [← haL]; exact hLb
    rw [haL] at hLc ⊢
    clear haL hLb
    replace hM := hM.ext hxb
    replace hn1 : Nw w W3 (.slice A1 b1.length c1) b1 := own_ext hn1 hxb
    replace hx0 := hx0.trans' hxb
    clear e3 e4 e5 e7 e8 hxb hg1
    go_loopw [3, 5] (fun vb vi wr => ∃ (k : Nat) (b : Bytes) (A : Option Addr) (c : Nat), (k : Int) ≤ 5 ∧ vb = .slice A b.length c ∧ vi = .int .i64 k ∧ Hid (b = b1 ++ pre8 ([m.term, m.index, m.logTerm, m.commit, m.round].take k)) ∧ Nw w wr (.slice A b.length c) b ∧ Ext W3 wr) (fun _ vi _ => (5 - intOf vi).toNat)
    case atStart => exact ⟨0, b1, A1, c1, by omega, rfl, rfl, hide (by simp [pre8]), hn1, Ext.rfl' _⟩
    case round =>
      clear hn1
      obtain ⟨k, b, A, c, hk, rfl, rfl, hb, hbs, hxr⟩ := hrel
      have hbl : b.length ≤ 45 := by rw [hb.out, List.length_append, pre8_len, List.length_take]; simp; omega
      by_cases hlt : (k : Int) < 5
      · have HLT := hide hlt
        obtain ⟨d, hd⟩ : ∃ d, [m.term, m.index, m.logTerm, m.commit, m.round][k]? = some d := ⟨_, List.getElem?_eq_getElem (by simp; omega)⟩
        have p0 := (hxr.cell (p := aK.add k) (by rw [block_of_add]; exact hLb')).trans (hLc k d hd)
        have hud : U64 d := by
          have := List.mem_of_getElem? hd
          simp only [List.mem_cons, List.not_mem_nil, or_false] at this
          rcases this with rfl | rfl | rfl | rfl | rfl
          · exact HW.out.term
          · exact HW.out.index
          · exact HW.out.logTerm
          · exact HW.out.commit
          · exact HW.out.round
        have HD := hide hd
        clear hd
        go_wp2_with fail
        refine (qPut8 _ b d wr hud (by omega) hbs.bs).mono ?_
        rintro e W4 ⟨b2, A2, c2, hb2, rfl, hz, hx3⟩
        go_wp2_with fail
        go_roundw
        case rel => exact ⟨k + 1, b2, A2, c2, by have := HLT.out; omega, rfl, by go_num, hide (by rw [hb2.out, hb.out, take_snoc HD.out, pre8_snoc]; simp only [List.append_assoc]), hz.trans (hx0.trans' hxr), hxr.trans' hx3⟩
        case measure => have := HLT.out; simp [intOf]; omega
      · obtain rfl : k = 5 := by omega
        rw [show ((5 : Nat) : Int) = 5 from rfl]
        have HB2 : Hid (b = b1 ++ pre8 [m.term, m.index, m.logTerm, m.commit, m.round]) := hb
        have hb2l : 45 ≤ b.length ∧ b.length ≤ 45 := by
          have e : (pre8 [m.term, m.index, m.logTerm, m.commit, m.round]).length = 40 := by rw [pre8_len]; rfl
          rw [HB2.out, List.length_append, e]
          omega
        replace hM := hM.ext hxr
        replace hx0 := hx0.trans' hxr
        have hb := hbs
        have hb0 : 0 < b.length := by omega
        clear hxr hLc hLb' hlt hk hbs hbl
        generalize wr = W4 at *
        have e9 : W4.cell? ⟨g, 9, none⟩ = some (.bool m.ok) := (hM.cell 9).trans rfl
        obtain ⟨ok, hok⟩ : ∃ o, m.ok = o := ⟨_, rfl⟩
        rw [hok] at e9
        obtain ⟨vo, hvo⟩ : ∃ v : Int, (if ok = true then (1 : Int) else 0) = v := ⟨_, rfl⟩
        obtain ⟨ob, hob, hob2⟩ := be1_byte (v := vo) (by rw [← hvo]; split <;> decide) (by rw [← hvo]; split <;> decide)
        have HOB : Hid ([ob] = be 1 (if m.ok = true then (1 : Int) else 0).toNat) := hide (by rw [hok, hvo, hob])
        have HVO := hide hvo
        clear hob hvo hok
        go_upto_if 42 with fail
        go_cut [6] (fun v6 wx => v6 = .int .u8 vo ∧ wx = W4)
        case first =>
          have hvo := HVO.out
          cases ok with
          | true =>
            simp only [if_true] at hvo
            subst hvo
            go_wp2_with fail
            go_meet
            case rel => exact ⟨rfl, rfl⟩
          | false =>
            simp only [Bool.false_eq_true, if_false] at hvo
            subst hvo
            go_wp2_with fail
            go_meet
            case rel => exact ⟨rfl, rfl⟩
        case rest =>
        obtain ⟨rfl, rfl⟩ := hcut
        clear e9 HVO
        obtain ⟨SB, hSB⟩ : ∃ S, (Value.slice A b.length c).ownBlock.toList = S := ⟨_, rfl⟩
        have HSB : ∀ k ∈ SB, k < wc.heap.size := fun k hk => by rw [← hSB] at hk; exact (hb.lt k (by simpa using hk)).2
        have HSW : ∀ k, k ∈ SB → w.heap.size ≤ k := fun k hk => by rw [← hSB] at hk; exact (hb.lt k (by simpa using hk)).1
        have hgS : g ∉ SB := fun hk => by
          rw [← hSB] at hk
          exact own_blk_ne hb hM (by decide) (by simpa using hk)
        have HSBE := hide hSB
        clear hSB
        generalize wc = W4 at *
        go_upto_region 10 with fail
        go_cut [3] (fun v3 wx => ∃ (b3 : Bytes) (A3 : Option Addr) (c3 : Nat), v3 = .slice A3 b3.length c3 ∧ Hid (b3 = b ++ [ob] ++ be 2 m.ents.length) ∧ Nw w wx (.slice A3 b3.length c3) b3 ∧ Chg SB W4 wx)
        case first =>
          by_cases hroom : b.length + 1 ≤ c
          · refine Rg.regionW Try.checked.mixed 104 9 (by kernel_rfl) [
              (false, (fun x_ _ => x_ = .slice A b.length c)),
              (false, (fun x_ _ => x_ = .int .u8 vo)),
              (false, (fun v W => Bs W v [ob] ∧ Off v SB)),
              (true, (fun v W => v = (.slice A (b.length + 1) c) ∧ Nw w W v (b ++ [ob]))),
              (false, (fun x_ _ => x_ = .pointer (some ⟨g, 6, none⟩))),
              (false, (fun x_ _ => x_ = .slice Ae m.ents.length ce)),
              (false, (fun x_ _ => x_ = .int .i64 m.ents.length)),
              (false, (fun x_ _ => x_ = .int .u64 m.ents.length)),
              (false, (fun v W => Nw W4 W v (b ++ [ob] ++ be 2 m.ents.length)))] (by kernel_rfl) (fun i W => Chg SB W4 W ∧ (i = 0 → Ext W4 W)) (fun W W2 => Chg SB W W2 ∧ (Nw w W (.slice A (b.length + 1) c) (b ++ [ob]) → Nw w W2 (.slice A (b.length + 1) c) (b ++ [ob]))) rfl rfl rfl
              ?st ⟨(Chg.refl _ _).drew, fun _ => (Ext.rfl' _).drew'⟩ ?ob ?en
            case st => exact ⟨fun _ _ _ h _ => h, fun _ _ _ h _ => h, fun _ _ _ ⟨h, o⟩ hG => ⟨h.chg hG.1 o, o⟩, fun _ _ _ ⟨h, o⟩ hG => by subst h; exact ⟨rfl, hG.2 o⟩, fun _ _ _ h _ => h, fun _ _ _ h _ => h, fun _ _ _ h _ => h, fun _ _ _ h _ => h, fun _ _ _ h hG => own_chgN h hG.1 HSB, trivial⟩
            case ob =>
              refine ⟨fun i => Rg.at_runW [3] rfl ?_, ?_⟩
              · intro ρ W hR ⟨q3, _⟩
                replace q3 : ρ 3 = .slice A b.length c := q3
                refine ⟨rfl, ?_⟩
                exact Rg.run_ok (v := .slice A b.length c) (by simp [execOp, Rg.ev, go_sem, q3]) ⟨rfl, hR, (⟨Chg.refl _ _, id⟩)⟩
              refine ⟨fun i => Rg.at_runW [6] rfl ?_, ?_⟩
              · intro ρ W hR ⟨q6, _⟩
                replace q6 : ρ 6 = .int .u8 vo := q6
                refine ⟨rfl, ?_⟩
                exact Rg.run_ok (v := .int .u8 vo) (by simp [execOp, Rg.ev, go_sem, q6]) ⟨rfl, hR, (⟨Chg.refl _ _, id⟩)⟩
              refine ⟨fun i => Rg.at_runW [44] rfl ?_, ?_⟩
              · intro ρ W hR ⟨q44, _⟩
                replace q44 : ρ 44 = .int .u8 vo := q44
                refine ⟨rfl, ?_⟩
                refine Rg.run_ok (v := .slice (some ⟨W.heap.size, 0, none⟩) 1 1) (W' := W.alloc (.cells #[.int .u8 vo] 5)) (by simp [execOp, Rg.ev, go_sem, q44]) ⟨?_, ⟨hR.1.alloc _, fun h => (hR.2 h).alloc' _⟩, ⟨(Chg.refl _ _).alloc _, fun h => own_ext h ((Ext.rfl' _).alloc' _)⟩⟩
                have h := lit8 W ob W.heap.size rfl
                rw [hob2] at h
                refine ⟨h, Off.of_own fun k hk => ?_⟩
                have h0_ : W.heap.size = k := Option.some.inj hk
                intro hm
                have h1_ := HSB _ hm
                have h2_ := hR.1.size
                omega
              refine ⟨Rg.at_runW [43, 45] rfl ?_, ?_⟩
              · intro ρ W hR ⟨q43, q45, _⟩
                replace q43 : ρ 43 = .slice A b.length c := q43
                replace q45 : (fun v W => Bs W v [ob] ∧ Off v SB) (ρ 45) W := q45
                refine ⟨rfl, ?_⟩
                obtain ⟨w_, hr_, hn_, hc_⟩ := run_app1A w W (own_ext hb (hR.2 rfl)) hroom hb0 (by omega) q45.1 24
                exact Rg.run_ok (v := (.slice A (b.length + 1) c)) (W' := w_) (by simp only [execOp, Rg.ev, resolve, invoke, builtin, Sem.run_bind, Sem.run_pure, Result.andThen_ok, List.map_toArray, List.map_cons, List.map_nil, q43, hr_]) ⟨⟨rfl, hn_⟩, ⟨hR.1.trans (by rw [← HSBE.out]; exact hc_), fun h => by cases h⟩, by rw [← HSBE.out]; exact hc_, fun _ => hn_⟩
              refine ⟨fun i => Rg.at_runW [1] rfl ?_, ?_⟩
              · intro ρ W hR ⟨q1, _⟩
                replace q1 : ρ 1 = .pointer (some ⟨g, 0, none⟩) := q1
                refine ⟨rfl, ?_⟩
                exact Rg.run_ok (v := .pointer (some ⟨g, 6, none⟩)) (by simp [execOp, Rg.ev, go_sem, q1]) ⟨rfl, hR, (⟨Chg.refl _ _, id⟩)⟩
              refine ⟨fun i => Rg.at_runW [47] rfl ?_, ?_⟩
              · intro ρ W hR ⟨q47, _⟩
                replace q47 : ρ 47 = .pointer (some ⟨g, 6, none⟩) := q47
                refine ⟨rfl, ?_⟩
                have c6_ : W.cell? ⟨g, 6, none⟩ = some (.slice Ae m.ents.length ce) := ((hM.chg hR.1 hgS).cell 6).trans rfl
                exact Rg.run_ok (v := .slice Ae m.ents.length ce) (by simp [execOp, Rg.ev, go_sem, q47, c6_]) ⟨rfl, hR, (⟨Chg.refl _ _, id⟩)⟩
              refine ⟨fun i => Rg.at_runW [48] rfl ?_, ?_⟩
              · intro ρ W hR ⟨q48, _⟩
                replace q48 : ρ 48 = .slice Ae m.ents.length ce := q48
                refine ⟨rfl, ?_⟩
                exact Rg.run_ok (v := .int .i64 m.ents.length) (by simp [execOp, Rg.ev, go_sem, q48]) ⟨rfl, hR, (⟨Chg.refl _ _, id⟩)⟩
              refine ⟨fun i => Rg.at_runW [49] rfl ?_, ?_⟩
              · intro ρ W hR ⟨q49, _⟩
                replace q49 : ρ 49 = .int .i64 m.ents.length := q49
                refine ⟨rfl, ?_⟩
                exact Rg.run_ok (v := .int .u64 m.ents.length) (by simp [execOp, Rg.ev, go_sem, q49, HWL]) ⟨rfl, hR, Chg.refl _ _, id⟩
              refine ⟨fun i => Rg.at_runW [46, 50] rfl ?_, ?_⟩
              · intro ρ W hR ⟨q46, q50, _⟩
                replace q46 : (fun v W => v = (.slice A (b.length + 1) c) ∧ Nw w W v (b ++ [ob])) (ρ 46) W := q46
                replace q50 : ρ 50 = .int .u64 m.ents.length := q50
                refine ⟨rfl, ?_⟩
                refine Rg.run_enter (by simp [execOp, Rg.ev, go_sem, q50]; exact ⟨⟨rfl, rfl⟩, rfl⟩) ?_
                refine (qPutN _ (b ++ [ob]) m.ents.length W (by omega) (by simp; omega) (Bs.own q46.2)).mono ?_
                rintro e w2 ⟨m_, Am, cm, hm_, rfl, hz, hxx⟩
                have hm' := hm_.out
                subst hm'
                exact ⟨_, rfl, own_base hz hR.1.size, ⟨hR.1.trans (hxx.chg _), fun h => (hR.2 h).trans' hxx⟩, hxx.chg _, fun h => own_ext h hxx⟩
              trivial
            case en =>
              intro tm W hR hsz hk
              rw [Rg.fin_eq (ds := [43, 44, 45, 46, 47, 48, 49, 50, 51]) rfl rfl rfl hsz hk]
              have k43 : tm.getD 43 undef = .slice A b.length c := hk 43
              have k44 : tm.getD 44 undef = .int .u8 vo := hk 44
              have k45 : (fun v W => Bs W v [ob] ∧ Off v SB) (tm.getD 45 undef) W := hk 45
              have k46 : (fun v W => v = (.slice A (b.length + 1) c) ∧ Nw w W v (b ++ [ob])) (tm.getD 46 undef) W := hk 46
              have k47 : tm.getD 47 undef = .pointer (some ⟨g, 6, none⟩) := hk 47
              have k48 : tm.getD 48 undef = .slice Ae m.ents.length ce := hk 48
              have k49 : tm.getD 49 undef = .int .i64 m.ents.length := hk 49
              have k50 : tm.getD 50 undef = .int .u64 m.ents.length := hk 50
              have k51 : (fun v W => Nw W4 W v (b ++ [ob] ++ be 2 m.ents.length)) (tm.getD 51 undef) W := hk 51
              clear hk hsz
              simp only [Rg.putAll, List.setIfInBounds_toArray, List.set_cons_zero, List.set_cons_succ, k43, k44, k47, k48, k49, k50]
              clear k43
              clear k44
              generalize tm.getD 45 undef = u45 at *
              generalize tm.getD 46 undef = u46 at *
              clear k47
              clear k48
              clear k49
              clear k50
              generalize tm.getD 51 undef = u51 at *
              clear k45 k46
              obtain ⟨b4, hb4⟩ : ∃ b4, b ++ [ob] ++ be 2 m.ents.length = b4 := ⟨_, rfl⟩
              rw [hb4] at k51
              have HB4 := hide hb4
              clear hb4
              obtain ⟨A5, c5, hv5, -, -⟩ := own_slice (id k51)
              subst hv5
              simp only [List.drop_succ_cons, List.drop_zero]
              go_wp2_with fail
              go_meet
              case rel => exact ⟨b4, A5, c5, rfl, hide HB4.out.symm, own_base k51 hx0.size, hR.1⟩
          · refine Rg.regionT Try.checked.mixed 104 9 (by kernel_rfl) [
              (fun x_ _ => x_ = .slice A b.length c),
              (fun x_ _ => x_ = .int .u8 vo),
              (fun v W => Bs W v [ob]),
              (fun v W => Nw W4 W v (b ++ [ob])),
              (fun x_ _ => x_ = .pointer (some ⟨g, 6, none⟩)),
              (fun x_ _ => x_ = .slice Ae m.ents.length ce),
              (fun x_ _ => x_ = .int .i64 m.ents.length),
              (fun x_ _ => x_ = .int .u64 m.ents.length),
              (fun v W => Nw W4 W v (b ++ [ob] ++ be 2 m.ents.length))] (fun W => Ext W4 W) Ext rfl rfl rfl
              ?st ((Ext.rfl' W4).drew') ?ob ?en
            case st => exact ⟨fun _ _ _ h _ => h, fun _ _ _ h _ => h, fun _ _ _ h hx => h.ext hx, fun _ _ _ h hx => own_ext h hx, fun _ _ _ h _ => h, fun _ _ _ h _ => h, fun _ _ _ h _ => h, fun _ _ _ h _ => h, fun _ _ _ h hx => own_ext h hx, trivial⟩
            case ob =>
              refine ⟨Rg.at_run [3] rfl ?_, ?_⟩
              · intro ρ W hR ⟨q3, _⟩
                replace q3 : ρ 3 = .slice A b.length c := q3
                refine ⟨rfl, ?_⟩
                exact Rg.run_ok (v := .slice A b.length c) (by simp [execOp, Rg.ev, go_sem, q3]) ⟨rfl, hR, Ext.rfl' _⟩
              refine ⟨Rg.at_run [6] rfl ?_, ?_⟩
              · intro ρ W hR ⟨q6, _⟩
                replace q6 : ρ 6 = .int .u8 vo := q6
                refine ⟨rfl, ?_⟩
                exact Rg.run_ok (v := .int .u8 vo) (by simp [execOp, Rg.ev, go_sem, q6]) ⟨rfl, hR, Ext.rfl' _⟩
              refine ⟨Rg.at_run [44] rfl ?_, ?_⟩
              · intro ρ W hR ⟨q44, _⟩
                replace q44 : ρ 44 = .int .u8 vo := q44
                refine ⟨rfl, ?_⟩
                refine Rg.run_ok (v := .slice (some ⟨W.heap.size, 0, none⟩) 1 1) (W' := W.alloc (.cells #[.int .u8 vo] 5)) (by simp [execOp, Rg.ev, go_sem, q44]) ⟨?_, hR.alloc' _, (Ext.rfl' _).alloc' _⟩
                have h := lit8 W ob W.heap.size rfl
                rw [hob2] at h
                exact h
              refine ⟨Rg.at_run [43, 45] rfl ?_, ?_⟩
              · intro ρ W hR ⟨q43, q45, _⟩
                replace q43 : ρ 43 = .slice A b.length c := q43
                replace q45 : (fun v W => Bs W v [ob]) (ρ 45) W := q45
                refine ⟨rfl, ?_⟩
                obtain ⟨v_, w_, hr_, hn_, hx_⟩ := run_app1B w W (own_ext hb hR) hroom hb0 (by omega) q45 24
                exact Rg.run_ok (v := v_) (W' := w_) (by simp only [execOp, Rg.ev, resolve, invoke, builtin, Sem.run_bind, Sem.run_pure, Result.andThen_ok, List.map_toArray, List.map_cons, List.map_nil, q43, hr_]) ⟨hn_.trans hR, hR.trans' hx_, hx_⟩
              refine ⟨Rg.at_run [1] rfl ?_, ?_⟩
              · intro ρ W hR ⟨q1, _⟩
                replace q1 : ρ 1 = .pointer (some ⟨g, 0, none⟩) := q1
                refine ⟨rfl, ?_⟩
                exact Rg.run_ok (v := .pointer (some ⟨g, 6, none⟩)) (by simp [execOp, Rg.ev, go_sem, q1]) ⟨rfl, hR, Ext.rfl' _⟩
              refine ⟨Rg.at_run [47] rfl ?_, ?_⟩
              · intro ρ W hR ⟨q47, _⟩
                replace q47 : ρ 47 = .pointer (some ⟨g, 6, none⟩) := q47
                refine ⟨rfl, ?_⟩
                have c6_ : W.cell? ⟨g, 6, none⟩ = some (.slice Ae m.ents.length ce) := ((hM.ext hR).cell 6).trans rfl
                exact Rg.run_ok (v := .slice Ae m.ents.length ce) (by simp [execOp, Rg.ev, go_sem, q47, c6_]) ⟨rfl, hR, Ext.rfl' _⟩
              refine ⟨Rg.at_run [48] rfl ?_, ?_⟩
              · intro ρ W hR ⟨q48, _⟩
                replace q48 : ρ 48 = .slice Ae m.ents.length ce := q48
                refine ⟨rfl, ?_⟩
                exact Rg.run_ok (v := .int .i64 m.ents.length) (by simp [execOp, Rg.ev, go_sem, q48]) ⟨rfl, hR, Ext.rfl' _⟩
              refine ⟨Rg.at_run [49] rfl ?_, ?_⟩
              · intro ρ W hR ⟨q49, _⟩
                replace q49 : ρ 49 = .int .i64 m.ents.length := q49
                refine ⟨rfl, ?_⟩
                exact Rg.run_ok (v := .int .u64 m.ents.length) (by simp [execOp, Rg.ev, go_sem, q49, HWL]) ⟨rfl, hR, Ext.rfl' _⟩
              refine ⟨Rg.at_run [46, 50] rfl ?_, ?_⟩
              · intro ρ W hR ⟨q46, q50, _⟩
                replace q46 : (fun v W => Nw W4 W v (b ++ [ob])) (ρ 46) W := q46
                replace q50 : ρ 50 = .int .u64 m.ents.length := q50
                refine ⟨rfl, ?_⟩
                refine Rg.run_enter (by simp [execOp, Rg.ev, go_sem, q50]; exact ⟨⟨rfl, rfl⟩, rfl⟩) ?_
                refine (qPutN _ (b ++ [ob]) m.ents.length W (by omega) (by simp; omega) (Bs.own q46)).mono ?_
                rintro e w2 ⟨m_, Am, cm, hm_, rfl, hz, hxx⟩
                have hm' := hm_.out
                subst hm'
                exact ⟨_, rfl, hz.trans (hR), hR.trans' hxx, hxx⟩
              trivial
            case en =>
              intro tm W hR hsz hk
              rw [Rg.fin_eq (ds := [43, 44, 45, 46, 47, 48, 49, 50, 51]) rfl rfl rfl hsz hk]
              have k43 : tm.getD 43 undef = .slice A b.length c := hk 43
              have k44 : tm.getD 44 undef = .int .u8 vo := hk 44
              have k45 : (fun v W => Bs W v [ob]) (tm.getD 45 undef) W := hk 45
              have k46 : (fun v W => Nw W4 W v (b ++ [ob])) (tm.getD 46 undef) W := hk 46
              have k47 : tm.getD 47 undef = .pointer (some ⟨g, 6, none⟩) := hk 47
              have k48 : tm.getD 48 undef = .slice Ae m.ents.length ce := hk 48
              have k49 : tm.getD 49 undef = .int .i64 m.ents.length := hk 49
              have k50 : tm.getD 50 undef = .int .u64 m.ents.length := hk 50
              have k51 : (fun v W => Nw W4 W v (b ++ [ob] ++ be 2 m.ents.length)) (tm.getD 51 undef) W := hk 51
              clear hk hsz
              simp only [Rg.putAll, List.setIfInBounds_toArray, List.set_cons_zero, List.set_cons_succ, k43, k44, k47, k48, k49, k50]
              clear k43
              clear k44
              generalize tm.getD 45 undef = u45 at *
              generalize tm.getD 46 undef = u46 at *
              clear k47
              clear k48
              clear k49
              clear k50
              generalize tm.getD 51 undef = u51 at *
              clear k45 k46
              obtain ⟨b4, hb4⟩ : ∃ b4, b ++ [ob] ++ be 2 m.ents.length = b4 := ⟨_, rfl⟩
              rw [hb4] at k51
              have HB4 := hide hb4
              clear hb4
              obtain ⟨A5, c5, hv5, -, -⟩ := own_slice (id k51)
              subst hv5
              simp only [List.drop_succ_cons, List.drop_zero]
              go_wp2_with fail
              go_meet
              case rel => exact ⟨b4, A5, c5, rfl, hide HB4.out.symm, own_base k51 hx0.size, hR.chg SB⟩
        case rest =>
        obtain ⟨b3, A3, c3, rfl, hb3, hn3, hc3⟩ := hcut
        generalize wc = W5 at *
        replace hM := hM.chg hc3 hgS
        replace hx0 := hx0.then_ hc3 HSW
        have hb3l : 48 ≤ b3.length ∧ b3.length ≤ 48 := by rw [hb3.out]; simp [be_length]; omega
        clear hc3 HSB HSW hgS HSBE hb hb0
        go_wp2_with fail
        have HEN : Hid (∀ e ∈ m.ents, e.data.length ≤ 500) := hide HL.out.datas
        go_loopw [7, 3] (fun vi vb wr => ∃ (q : Nat) (b : Bytes) (A : Option Addr) (c : Nat), q ≤ m.ents.length ∧ vi = .int .i64 q ∧ vb = .slice A b.length c ∧ Hid (b = b3 ++ Cod.encs Cod.ent (m.ents.take q)) ∧ Nw w wr (.slice A b.length c) b ∧ Blk wr g 33 (mgcells m (.slice Ae m.ents.length ce) (.slice As m.snap.state.length cs)).toArray ∧ Ext w wr) (fun vi _ _ => (m.ents.length - intOf vi).toNat)
        case atStart => exact ⟨0, b3, A3, c3, by omega, rfl, rfl, hide (by simp [Cod.encs]), hn3, hM, hx0⟩
        case round =>
          clear hn3 hM hx0
          obtain ⟨q, b, A, c, hq, rfl, rfl, hbe, hb, hM, hx0⟩ := hrel
          have hbl : b.length ≤ 48 + 512 * q := by
            have h1 := ents_len (m.ents.take q) (fun e h => HEN.out e (List.mem_of_mem_take h))
            rw [hbe.out, List.length_append]
            rw [List.length_take, Nat.min_eq_left hq] at h1
            omega
          have e6 : wr.cell? ⟨g, 6, none⟩ = some (.slice Ae m.ents.length ce) := (hM.cell 6).trans rfl
          by_cases hlt : q < m.ents.length
          · obtain ⟨ad, e_, v1, rfl, hek, hbk, p0, p1, htm, r1⟩ := en_at (he.ext hx0) (k := q) hlt
            replace r1 := r1.1
            obtain ⟨A1, c1_, rfl, -, -, -⟩ := id r1
            have hab : (ad.add (q * 2)).block < wr.heap.size := by rw [block_of_add]; exact hbk
            have hdl := HEN.out e_ (List.mem_of_getElem? hek.out)
            have hb1 : (0 : Int) ≤ q := by omega
            have hb2 : (q : Int) < m.ents.length := by omega
            have HLT := hide hlt
            have HBE : Hid (b ++ be 8 e_.term.toNat ++ oputBytes [] e_.data = b3 ++ Cod.encs Cod.ent (m.ents.take (q + 1))) := hide (by
              rw [take_snoc hek.out, encs_snoc, hbe.out, List.append_assoc, List.append_assoc]
              rfl)
            clear hlt hbe
            go_upto_region 14 with fail
            refine Rg.regionT Try.checked.mixed 104 15 (by kernel_rfl) [
              (fun x_ _ => x_ = .slice A b.length c),
              (fun x_ _ => x_ = .pointer (some ⟨g, 6, none⟩)),
              (fun x_ _ => x_ = .slice (some ad) m.ents.length ce),
              (fun x_ _ => x_ = .int .i64 q),
              (fun x_ _ => x_ = .pointer (some (ad.add (q * 2)))),
              (fun x_ _ => x_ = .pointer (some (ad.add (q * 2)))),
              (fun x_ _ => x_ = .int .u64 e_.term),
              (fun v W => Bs W v (b ++ be 8 e_.term.toNat)),
              (fun x_ _ => x_ = .pointer (some ⟨g, 6, none⟩)),
              (fun x_ _ => x_ = .slice (some ad) m.ents.length ce),
              (fun x_ _ => x_ = .int .i64 q),
              (fun x_ _ => x_ = .pointer (some (ad.add (q * 2)))),
              (fun x_ _ => x_ = .pointer (some ⟨(ad.add (q * 2)).block, (ad.add (q * 2)).off + 1, none⟩)),
              (fun x_ _ => x_ = .slice A1 e_.data.length c1_),
              (fun v W => Nw wr W v (b ++ be 8 e_.term.toNat ++ oputBytes [] e_.data))] (fun W => Ext wr W) Ext rfl rfl rfl
              ?st ((Ext.rfl' wr).drew') ?ob ?en
            case st => exact ⟨fun _ _ _ h _ => h, fun _ _ _ h _ => h, fun _ _ _ h _ => h, fun _ _ _ h _ => h, fun _ _ _ h _ => h, fun _ _ _ h _ => h, fun _ _ _ h _ => h, fun _ _ _ h hx => h.ext hx, fun _ _ _ h _ => h, fun _ _ _ h _ => h, fun _ _ _ h _ => h, fun _ _ _ h _ => h, fun _ _ _ h _ => h, fun _ _ _ h _ => h, fun _ _ _ h hx => own_ext h hx, trivial⟩
            case ob =>
              refine ⟨Rg.at_run [3] rfl ?_, ?_⟩
              · intro ρ W hR ⟨q3, _⟩
                replace q3 : ρ 3 = .slice A b.length c := q3
                refine ⟨rfl, ?_⟩
                exact Rg.run_ok (v := .slice A b.length c) (by simp [execOp, Rg.ev, go_sem, q3]) ⟨rfl, hR, Ext.rfl' _⟩
              refine ⟨Rg.at_run [1] rfl ?_, ?_⟩
              · intro ρ W hR ⟨q1, _⟩
                replace q1 : ρ 1 = .pointer (some ⟨g, 0, none⟩) := q1
                refine ⟨rfl, ?_⟩
                exact Rg.run_ok (v := .pointer (some ⟨g, 6, none⟩)) (by simp [execOp, Rg.ev, go_sem, q1]) ⟨rfl, hR, Ext.rfl' _⟩
              refine ⟨Rg.at_run [60] rfl ?_, ?_⟩
              · intro ρ W hR ⟨q60, _⟩
                replace q60 : ρ 60 = .pointer (some ⟨g, 6, none⟩) := q60
                refine ⟨rfl, ?_⟩
                have c6_ : W.cell? ⟨g, 6, none⟩ = some (.slice (some ad) m.ents.length ce) := ((hM.ext hR).cell 6).trans rfl
                exact Rg.run_ok (v := .slice (some ad) m.ents.length ce) (by simp [execOp, Rg.ev, go_sem, q60, c6_]) ⟨rfl, hR, Ext.rfl' _⟩
              refine ⟨Rg.at_run [7] rfl ?_, ?_⟩
              · intro ρ W hR ⟨q7, _⟩
                replace q7 : ρ 7 = .int .i64 q := q7
                refine ⟨rfl, ?_⟩
                exact Rg.run_ok (v := .int .i64 q) (by simp [execOp, Rg.ev, go_sem, q7]) ⟨rfl, hR, Ext.rfl' _⟩
              refine ⟨Rg.at_run [61, 62] rfl ?_, ?_⟩
              · intro ρ W hR ⟨q61, q62, _⟩
                replace q61 : ρ 61 = .slice (some ad) m.ents.length ce := q61
                replace q62 : ρ 62 = .int .i64 q := q62
                refine ⟨rfl, ?_⟩
                exact Rg.run_ok (v := .pointer (some (ad.add (q * 2)))) (by simp [execOp, Rg.ev, go_sem, q61, q62, hb1, hb2]) ⟨rfl, hR, Ext.rfl' _⟩
              refine ⟨Rg.at_run [63] rfl ?_, ?_⟩
              · intro ρ W hR ⟨q63, _⟩
                replace q63 : ρ 63 = .pointer (some (ad.add (q * 2))) := q63
                refine ⟨rfl, ?_⟩
                exact Rg.run_ok (v := .pointer (some (ad.add (q * 2)))) (by simp [execOp, Rg.ev, go_sem, q63]) ⟨rfl, hR, Ext.rfl' _⟩
              refine ⟨Rg.at_run [64] rfl ?_, ?_⟩
              · intro ρ W hR ⟨q64, _⟩
                replace q64 : ρ 64 = .pointer (some (ad.add (q * 2))) := q64
                refine ⟨rfl, ?_⟩
                have c0_ : W.cell? (ad.add (q * 2)) = some (.int .u64 e_.term) := (hR.cell (p := (ad.add (q * 2))) hab).trans p0
                exact Rg.run_ok (v := .int .u64 e_.term) (by simp [execOp, Rg.ev, go_sem, q64, c0_]) ⟨rfl, hR, Ext.rfl' _⟩
              refine ⟨Rg.at_run [59, 65] rfl ?_, ?_⟩
              · intro ρ W hR ⟨q59, q65, _⟩
                replace q59 : ρ 59 = .slice A b.length c := q59
                replace q65 : ρ 65 = .int .u64 e_.term := q65
                refine ⟨rfl, ?_⟩
                refine Rg.run_enter (by simp [execOp, Rg.ev, go_sem, q59, q65]; exact ⟨⟨rfl, rfl⟩, rfl⟩) ?_
                refine (qPut8 _ b e_.term W htm (by omega) ((Bs.own hb).ext hR)).mono ?_
                rintro e w2 ⟨m_, Am, cm, hm_, rfl, hz, hxx⟩
                have hm' := hm_.out
                subst hm'
                exact ⟨_, rfl, hz.bs, hR.trans' hxx, hxx⟩
              refine ⟨Rg.at_run [1] rfl ?_, ?_⟩
              · intro ρ W hR ⟨q1, _⟩
                replace q1 : ρ 1 = .pointer (some ⟨g, 0, none⟩) := q1
                refine ⟨rfl, ?_⟩
                exact Rg.run_ok (v := .pointer (some ⟨g, 6, none⟩)) (by simp [execOp, Rg.ev, go_sem, q1]) ⟨rfl, hR, Ext.rfl' _⟩
              refine ⟨Rg.at_run [67] rfl ?_, ?_⟩
              · intro ρ W hR ⟨q67, _⟩
                replace q67 : ρ 67 = .pointer (some ⟨g, 6, none⟩) := q67
                refine ⟨rfl, ?_⟩
                have c6_ : W.cell? ⟨g, 6, none⟩ = some (.slice (some ad) m.ents.length ce) := ((hM.ext hR).cell 6).trans rfl
                exact Rg.run_ok (v := .slice (some ad) m.ents.length ce) (by simp [execOp, Rg.ev, go_sem, q67, c6_]) ⟨rfl, hR, Ext.rfl' _⟩
              refine ⟨Rg.at_run [7] rfl ?_, ?_⟩
              · intro ρ W hR ⟨q7, _⟩
                replace q7 : ρ 7 = .int .i64 q := q7
                refine ⟨rfl, ?_⟩
                exact Rg.run_ok (v := .int .i64 q) (by simp [execOp, Rg.ev, go_sem, q7]) ⟨rfl, hR, Ext.rfl' _⟩
              refine ⟨Rg.at_run [68, 69] rfl ?_, ?_⟩
              · intro ρ W hR ⟨q68, q69, _⟩
                replace q68 : ρ 68 = .slice (some ad) m.ents.length ce := q68
                replace q69 : ρ 69 = .int .i64 q := q69
                refine ⟨rfl, ?_⟩
                exact Rg.run_ok (v := .pointer (some (ad.add (q * 2)))) (by simp [execOp, Rg.ev, go_sem, q68, q69, hb1, hb2]) ⟨rfl, hR, Ext.rfl' _⟩
              refine ⟨Rg.at_run [70] rfl ?_, ?_⟩
              · intro ρ W hR ⟨q70, _⟩
                replace q70 : ρ 70 = .pointer (some (ad.add (q * 2))) := q70
                refine ⟨rfl, ?_⟩
                exact Rg.run_ok (v := .pointer (some ⟨(ad.add (q * 2)).block, (ad.add (q * 2)).off + 1, none⟩)) (by simp [execOp, Rg.ev, go_sem, q70]) ⟨rfl, hR, Ext.rfl' _⟩
              refine ⟨Rg.at_run [71] rfl ?_, ?_⟩
              · intro ρ W hR ⟨q71, _⟩
                replace q71 : ρ 71 = .pointer (some ⟨(ad.add (q * 2)).block, (ad.add (q * 2)).off + 1, none⟩) := q71
                refine ⟨rfl, ?_⟩
                have c1__ : W.cell? ⟨(ad.add (q * 2)).block, (ad.add (q * 2)).off + 1, none⟩ = some (.slice A1 e_.data.length c1_) := (hR.cell (p := ⟨(ad.add (q * 2)).block, (ad.add (q * 2)).off + 1, none⟩) hab).trans p1
                exact Rg.run_ok (v := .slice A1 e_.data.length c1_) (by simp [execOp, Rg.ev, go_sem, q71, c1__]) ⟨rfl, hR, Ext.rfl' _⟩
              refine ⟨Rg.at_run [66, 72] rfl ?_, ?_⟩
              · intro ρ W hR ⟨q66, q72, _⟩
                replace q66 : (fun v W => Bs W v (b ++ be 8 e_.term.toNat)) (ρ 66) W := q66
                replace q72 : ρ 72 = .slice A1 e_.data.length c1_ := q72
                refine ⟨rfl, ?_⟩
                refine Rg.run_enter (by simp [execOp, Rg.ev, go_sem, q72]; exact ⟨⟨rfl, rfl⟩, rfl⟩) ?_
                refine (qPutB _ _ (b ++ be 8 e_.term.toNat) e_.data W (by simp [be_length]; omega) q66 (r1.ext hR)).mono ?_
                rintro e w2 ⟨m_, Am, cm, hm_, rfl, hz, hxx⟩
                have hm' := hm_.out
                subst hm'
                exact ⟨_, rfl, hz.trans (hR), hR.trans' hxx, hxx⟩
              trivial
            case en =>
              intro tm W hR hsz hk
              rw [Rg.fin_eq (ds := [59, 60, 61, 62, 63, 64, 65, 66, 67, 68, 69, 70, 71, 72, 73]) rfl rfl rfl hsz hk]
              have k59 : tm.getD 59 undef = .slice A b.length c := hk 59
              have k60 : tm.getD 60 undef = .pointer (some ⟨g, 6, none⟩) := hk 60
              have k61 : tm.getD 61 undef = .slice (some ad) m.ents.length ce := hk 61
              have k62 : tm.getD 62 undef = .int .i64 q := hk 62
              have k63 : tm.getD 63 undef = .pointer (some (ad.add (q * 2))) := hk 63
              have k64 : tm.getD 64 undef = .pointer (some (ad.add (q * 2))) := hk 64
              have k65 : tm.getD 65 undef = .int .u64 e_.term := hk 65
              have k66 : (fun v W => Bs W v (b ++ be 8 e_.term.toNat)) (tm.getD 66 undef) W := hk 66
              have k67 : tm.getD 67 undef = .pointer (some ⟨g, 6, none⟩) := hk 67
              have k68 : tm.getD 68 undef = .slice (some ad) m.ents.length ce := hk 68
              have k69 : tm.getD 69 undef = .int .i64 q := hk 69
              have k70 : tm.getD 70 undef = .pointer (some (ad.add (q * 2))) := hk 70
              have k71 : tm.getD 71 undef = .pointer (some ⟨(ad.add (q * 2)).block, (ad.add (q * 2)).off + 1, none⟩) := hk 71
              have k72 : tm.getD 72 undef = .slice A1 e_.data.length c1_ := hk 72
              have k73 : (fun v W => Nw wr W v (b ++ be 8 e_.term.toNat ++ oputBytes [] e_.data)) (tm.getD 73 undef) W := hk 73
              clear hk hsz
              simp only [Rg.putAll, List.setIfInBounds_toArray, List.set_cons_zero, List.set_cons_succ, k59, k60, k61, k62, k63, k64, k65, k67, k68, k69, k70, k71, k72]
              clear k59
              clear k60
              clear k61
              clear k62
              clear k63
              clear k64
              clear k65
              generalize tm.getD 66 undef = u66 at *
              clear k67
              clear k68
              clear k69
              clear k70
              clear k71
              clear k72
              generalize tm.getD 73 undef = u73 at *
              clear k66
              obtain ⟨b4, hb4⟩ : ∃ b4, b ++ be 8 e_.term.toNat ++ oputBytes [] e_.data = b4 := ⟨_, rfl⟩
              rw [hb4] at k73 HBE
              clear hb4
              obtain ⟨A5, c5, hv5, -, -⟩ := own_slice (id k73)
              subst hv5
              simp only [List.drop_succ_cons, List.drop_zero]
              go_wp2_with fail
              go_roundw
              case rel => exact ⟨q + 1, b4, A5, c5, by have := HLT.out; omega, by go_num, rfl, HBE, own_base k73 hx0.size, hM.ext hR, hx0.trans' hR⟩
              case measure => have := HLT.out; simp [intOf]; omega
          · obtain rfl : q = m.ents.length := by omega
            rw [List.take_length] at hbe
            have HB5 := hbe
            have hs1 := hs.ext hx0
            have hsl := HL.out.state
            clear hbe hlt hq
            go_upto_region 15 with fail
            go_cut [3] (fun v3 wx => ∃ (b4 : Bytes) (A4 : Option Addr) (c4 : Nat), v3 = .slice A4 b4.length c4 ∧ Hid (b4 = b ++ be 8 m.snap.index.toNat ++ be 8 m.snap.term.toNat ++ oputBytes [] m.snap.state) ∧ Nw wr wx (.slice A4 b4.length c4) b4 ∧ Ext wr wx)
            case first =>
              refine Rg.regionT Try.checked.mixed 104 13 (by kernel_rfl) [
                (fun x_ _ => x_ = .slice A b.length c),
                (fun x_ _ => x_ = .pointer (some ⟨g, 10, none⟩)),
                (fun x_ _ => x_ = .pointer (some ⟨g, 10, none⟩)),
                (fun x_ _ => x_ = .int .u64 m.snap.index),
                (fun v W => Bs W v (b ++ be 8 m.snap.index.toNat)),
                (fun x_ _ => x_ = .pointer (some ⟨g, 10, none⟩)),
                (fun x_ _ => x_ = .pointer (some ⟨g, 11, none⟩)),
                (fun x_ _ => x_ = .int .u64 m.snap.term),
                (fun v W => Bs W v (b ++ be 8 m.snap.index.toNat ++ be 8 m.snap.term.toNat)),
                (fun x_ _ => x_ = .pointer (some ⟨g, 10, none⟩)),
                (fun x_ _ => x_ = .pointer (some ⟨g, 12, none⟩)),
                (fun x_ _ => x_ = .slice As m.snap.state.length cs),
                (fun v W => Nw wr W v (b ++ be 8 m.snap.index.toNat ++ be 8 m.snap.term.toNat ++ oputBytes [] m.snap.state))] (fun W => Ext wr W) Ext rfl rfl rfl
                ?st ((Ext.rfl' wr).drew') ?ob ?en
              case st => exact ⟨fun _ _ _ h _ => h, fun _ _ _ h _ => h, fun _ _ _ h _ => h, fun _ _ _ h _ => h, fun _ _ _ h hx => h.ext hx, fun _ _ _ h _ => h, fun _ _ _ h _ => h, fun _ _ _ h _ => h, fun _ _ _ h hx => h.ext hx, fun _ _ _ h _ => h, fun _ _ _ h _ => h, fun _ _ _ h _ => h, fun _ _ _ h hx => own_ext h hx, trivial⟩
              case ob =>
                refine ⟨Rg.at_run [3] rfl ?_, ?_⟩
                · intro ρ W hR ⟨q3, _⟩
                  replace q3 : ρ 3 = .slice A b.length c := q3
                  refine ⟨rfl, ?_⟩
                  exact Rg.run_ok (v := .slice A b.length c) (by simp [execOp, Rg.ev, go_sem, q3]) ⟨rfl, hR, Ext.rfl' _⟩
                refine ⟨Rg.at_run [1] rfl ?_, ?_⟩
                · intro ρ W hR ⟨q1, _⟩
                  replace q1 : ρ 1 = .pointer (some ⟨g, 0, none⟩) := q1
                  refine ⟨rfl, ?_⟩
                  exact Rg.run_ok (v := .pointer (some ⟨g, 10, none⟩)) (by simp [execOp, Rg.ev, go_sem, q1]) ⟨rfl, hR, Ext.rfl' _⟩
                refine ⟨Rg.at_run [75] rfl ?_, ?_⟩
                · intro ρ W hR ⟨q75, _⟩
                  replace q75 : ρ 75 = .pointer (some ⟨g, 10, none⟩) := q75
                  refine ⟨rfl, ?_⟩
                  exact Rg.run_ok (v := .pointer (some ⟨g, 10, none⟩)) (by simp [execOp, Rg.ev, go_sem, q75]) ⟨rfl, hR, Ext.rfl' _⟩
                refine ⟨Rg.at_run [76] rfl ?_, ?_⟩
                · intro ρ W hR ⟨q76, _⟩
                  replace q76 : ρ 76 = .pointer (some ⟨g, 10, none⟩) := q76
                  refine ⟨rfl, ?_⟩
                  have c10_ : W.cell? ⟨g, 10, none⟩ = some (.int .u64 m.snap.index) := ((hM.ext hR).cell 10).trans rfl
                  exact Rg.run_ok (v := .int .u64 m.snap.index) (by simp [execOp, Rg.ev, go_sem, q76, c10_]) ⟨rfl, hR, Ext.rfl' _⟩
                refine ⟨Rg.at_run [74, 77] rfl ?_, ?_⟩
                · intro ρ W hR ⟨q74, q77, _⟩
                  replace q74 : ρ 74 = .slice A b.length c := q74
                  replace q77 : ρ 77 = .int .u64 m.snap.index := q77
                  refine ⟨rfl, ?_⟩
                  refine Rg.run_enter (by simp [execOp, Rg.ev, go_sem, q74, q77]; exact ⟨⟨rfl, rfl⟩, rfl⟩) ?_
                  refine (qPut8 _ b m.snap.index W HW.out.si (by omega) ((Bs.own hb).ext hR)).mono ?_
                  rintro e w2 ⟨m_, Am, cm, hm_, rfl, hz, hxx⟩
                  have hm' := hm_.out
                  subst hm'
                  exact ⟨_, rfl, hz.bs, hR.trans' hxx, hxx⟩
                refine ⟨Rg.at_run [1] rfl ?_, ?_⟩
                · intro ρ W hR ⟨q1, _⟩
                  replace q1 : ρ 1 = .pointer (some ⟨g, 0, none⟩) := q1
                  refine ⟨rfl, ?_⟩
                  exact Rg.run_ok (v := .pointer (some ⟨g, 10, none⟩)) (by simp [execOp, Rg.ev, go_sem, q1]) ⟨rfl, hR, Ext.rfl' _⟩
                refine ⟨Rg.at_run [79] rfl ?_, ?_⟩
                · intro ρ W hR ⟨q79, _⟩
                  replace q79 : ρ 79 = .pointer (some ⟨g, 10, none⟩) := q79
                  refine ⟨rfl, ?_⟩
                  exact Rg.run_ok (v := .pointer (some ⟨g, 11, none⟩)) (by simp [execOp, Rg.ev, go_sem, q79]) ⟨rfl, hR, Ext.rfl' _⟩
                refine ⟨Rg.at_run [80] rfl ?_, ?_⟩
                · intro ρ W hR ⟨q80, _⟩
                  replace q80 : ρ 80 = .pointer (some ⟨g, 11, none⟩) := q80
                  refine ⟨rfl, ?_⟩
                  have c11_ : W.cell? ⟨g, 11, none⟩ = some (.int .u64 m.snap.term) := ((hM.ext hR).cell 11).trans rfl
                  exact Rg.run_ok (v := .int .u64 m.snap.term) (by simp [execOp, Rg.ev, go_sem, q80, c11_]) ⟨rfl, hR, Ext.rfl' _⟩
                refine ⟨Rg.at_run [78, 81] rfl ?_, ?_⟩
                · intro ρ W hR ⟨q78, q81, _⟩
                  replace q78 : (fun v W => Bs W v (b ++ be 8 m.snap.index.toNat)) (ρ 78) W := q78
                  replace q81 : ρ 81 = .int .u64 m.snap.term := q81
                  refine ⟨rfl, ?_⟩
                  refine Rg.run_enter (by simp [execOp, Rg.ev, go_sem, q81]; exact ⟨⟨rfl, rfl⟩, rfl⟩) ?_
                  refine (qPut8 _ (b ++ be 8 m.snap.index.toNat) m.snap.term W HW.out.st (by simp [be_length]; omega) q78).mono ?_
                  rintro e w2 ⟨m_, Am, cm, hm_, rfl, hz, hxx⟩
                  have hm' := hm_.out
                  subst hm'
                  exact ⟨_, rfl, hz.bs, hR.trans' hxx, hxx⟩
                refine ⟨Rg.at_run [1] rfl ?_, ?_⟩
                · intro ρ W hR ⟨q1, _⟩
                  replace q1 : ρ 1 = .pointer (some ⟨g, 0, none⟩) := q1
                  refine ⟨rfl, ?_⟩
                  exact Rg.run_ok (v := .pointer (some ⟨g, 10, none⟩)) (by simp [execOp, Rg.ev, go_sem, q1]) ⟨rfl, hR, Ext.rfl' _⟩
                refine ⟨Rg.at_run [83] rfl ?_, ?_⟩
                · intro ρ W hR ⟨q83, _⟩
                  replace q83 : ρ 83 = .pointer (some ⟨g, 10, none⟩) := q83
                  refine ⟨rfl, ?_⟩
                  exact Rg.run_ok (v := .pointer (some ⟨g, 12, none⟩)) (by simp [execOp, Rg.ev, go_sem, q83]) ⟨rfl, hR, Ext.rfl' _⟩
                refine ⟨Rg.at_run [84] rfl ?_, ?_⟩
                · intro ρ W hR ⟨q84, _⟩
                  replace q84 : ρ 84 = .pointer (some ⟨g, 12, none⟩) := q84
                  refine ⟨rfl, ?_⟩
                  have c12_ : W.cell? ⟨g, 12, none⟩ = some (.slice As m.snap.state.length cs) := ((hM.ext hR).cell 12).trans rfl
                  exact Rg.run_ok (v := .slice As m.snap.state.length cs) (by simp [execOp, Rg.ev, go_sem, q84, c12_]) ⟨rfl, hR, Ext.rfl' _⟩
                refine ⟨Rg.at_run [82, 85] rfl ?_, ?_⟩
                · intro ρ W hR ⟨q82, q85, _⟩
                  replace q82 : (fun v W => Bs W v (b ++ be 8 m.snap.index.toNat ++ be 8 m.snap.term.toNat)) (ρ 82) W := q82
                  replace q85 : ρ 85 = .slice As m.snap.state.length cs := q85
                  refine ⟨rfl, ?_⟩
                  refine Rg.run_enter (by simp [execOp, Rg.ev, go_sem, q85]; exact ⟨⟨rfl, rfl⟩, rfl⟩) ?_
                  refine (qPutB _ _ (b ++ be 8 m.snap.index.toNat ++ be 8 m.snap.term.toNat) m.snap.state W (by simp [be_length]; omega) q82 (hs1.ext hR)).mono ?_
                  rintro e w2 ⟨m_, Am, cm, hm_, rfl, hz, hxx⟩
                  have hm' := hm_.out
                  subst hm'
                  exact ⟨_, rfl, hz.trans (hR), hR.trans' hxx, hxx⟩
                trivial
              case en =>
                intro tm W hR hsz hk
                rw [Rg.fin_eq (ds := [74, 75, 76, 77, 78, 79, 80, 81, 82, 83, 84, 85, 86]) rfl rfl rfl hsz hk]
                have k74 : tm.getD 74 undef = .slice A b.length c := hk 74
                have k75 : tm.getD 75 undef = .pointer (some ⟨g, 10, none⟩) := hk 75
                have k76 : tm.getD 76 undef = .pointer (some ⟨g, 10, none⟩) := hk 76
                have k77 : tm.getD 77 undef = .int .u64 m.snap.index := hk 77
                have k78 : (fun v W => Bs W v (b ++ be 8 m.snap.index.toNat)) (tm.getD 78 undef) W := hk 78
                have k79 : tm.getD 79 undef = .pointer (some ⟨g, 10, none⟩) := hk 79
                have k80 : tm.getD 80 undef = .pointer (some ⟨g, 11, none⟩) := hk 80
                have k81 : tm.getD 81 undef = .int .u64 m.snap.term := hk 81
                have k82 : (fun v W => Bs W v (b ++ be 8 m.snap.index.toNat ++ be 8 m.snap.term.toNat)) (tm.getD 82 undef) W := hk 82
                have k83 : tm.getD 83 undef = .pointer (some ⟨g, 10, none⟩) := hk 83
                have k84 : tm.getD 84 undef = .pointer (some ⟨g, 12, none⟩) := hk 84
                have k85 : tm.getD 85 undef = .slice As m.snap.state.length cs := hk 85
                have k86 : (fun v W => Nw wr W v (b ++ be 8 m.snap.index.toNat ++ be 8 m.snap.term.toNat ++ oputBytes [] m.snap.state)) (tm.getD 86 undef) W := hk 86
                clear hk hsz
                simp only [Rg.putAll, List.setIfInBounds_toArray, List.set_cons_zero, List.set_cons_succ, k74, k75, k76, k77, k79, k80, k81, k83, k84, k85]
                clear k74
                clear k75
                clear k76
                clear k77
                generalize tm.getD 78 undef = u78 at *
                clear k79
                clear k80
                clear k81
                generalize tm.getD 82 undef = u82 at *
                clear k83
                clear k84
                clear k85
                generalize tm.getD 86 undef = u86 at *
                clear k78 k82
                obtain ⟨b4, hb4⟩ : ∃ b4, b ++ be 8 m.snap.index.toNat ++ be 8 m.snap.term.toNat ++ oputBytes [] m.snap.state = b4 := ⟨_, rfl⟩
                rw [hb4] at k86
                have HB4 := hide hb4
                clear hb4
                obtain ⟨A5, c5, hv5, -, -⟩ := own_slice (id k86)
                subst hv5
                simp only [List.drop_succ_cons, List.drop_zero]
                go_wp2_with fail
                go_meet
                case rel => exact ⟨b4, A5, c5, rfl, hide HB4.out.symm, k86, hR⟩
            case rest =>
            obtain ⟨b4, A4, c4, rfl, HB6, hn4, hx4⟩ := hcut
            have hb4l : b4.length ≤ b.length + 600 := by rw [HB6.out]; simp only [List.length_append, be_length, oputBytes_length, List.length_nil]; omega
            replace hM := hM.ext hx4
            replace hn4 : Nw w wc (.slice A4 b4.length c4) b4 := own_base hn4 hx0.size
            replace hx0 := hx0.trans' hx4
            clear hb hx4 hs1 e6
            generalize wr = W8 at *
            generalize wc = wr at *
            have hcl : (cput m.cmd).length ≤ 1500 := cput_len3 m.cmd HL.out.name HL.out.url
            have hok : m.cmd.ok := ⟨HL.out.ck0, HL.out.ck1, HL.out.cc0, HL.out.cc1, HW.out.cmd.s0, HW.out.cmd.s1, by have := HL.out.name; omega, by have := HL.out.url; omega, HW.out.cmd.t0, HW.out.cmd.t1⟩
            have HPC := hide (rputCmd_b m.cmd hok (by have := HL.out.name; omega) (by have := HL.out.url; omega))
            have htl := HL.out.text
            have HFIN : Hid (b4 ++ oputBytes [] (cput m.cmd) ++ [eb] ++ oputBytes [] m.an.text = msgC.enc m) := hide (by
              rw [HB6.out, HB5.out, hb3.out, HB2.out, ← HB1.out, msg_enc, HKB.out, HEB.out, HOB.out]
              simp only [pre8, List.map_cons, List.map_nil, List.flatten_cons, List.flatten_nil, List.append_assoc, List.append_nil])
            clear HB6 HB5 hb3 HB2 HB1
            go_upto_region 16 with fail
            refine Rg.regionT Try.checked.mixed 104 10 (by kernel_rfl) [
              (fun x_ _ => x_ = .slice A4 b4.length c4),
              (fun x_ _ => x_ = .pointer (some ⟨g, 13, none⟩)),
              (fun x_ _ => x_ = .agg #[.int .i64 m.cmd.kind, .int .i64 m.cmd.client, .int .u64 m.cmd.seq, str m.cmd.name, str m.cmd.url, .int .u64 m.cmd.till]),
              (fun v W => Bs W v (cput m.cmd)),
              (fun v W => Nw wr W v (b4 ++ oputBytes [] (cput m.cmd))),
              (fun x_ _ => x_ = .pointer (some ⟨g, 19, none⟩)),
              (fun x_ _ => x_ = .pointer (some ⟨g, 19, none⟩)),
              (fun x_ _ => x_ = .int .i64 m.an.err),
              (fun x_ _ => x_ = .int .u8 m.an.err),
              (fun v W => Bs W v [eb])] (fun W => Ext wr W) Ext rfl rfl rfl
              ?st ((Ext.rfl' wr).drew') ?ob ?en
            case st => exact ⟨fun _ _ _ h _ => h, fun _ _ _ h _ => h, fun _ _ _ h _ => h, fun _ _ _ h hx => h.ext hx, fun _ _ _ h hx => own_ext h hx, fun _ _ _ h _ => h, fun _ _ _ h _ => h, fun _ _ _ h _ => h, fun _ _ _ h _ => h, fun _ _ _ h hx => h.ext hx, trivial⟩
            case ob =>
              refine ⟨Rg.at_run [3] rfl ?_, ?_⟩
              · intro ρ W hR ⟨q3, _⟩
                replace q3 : ρ 3 = .slice A4 b4.length c4 := q3
                refine ⟨rfl, ?_⟩
                exact Rg.run_ok (v := .slice A4 b4.length c4) (by simp [execOp, Rg.ev, go_sem, q3]) ⟨rfl, hR, Ext.rfl' _⟩
              refine ⟨Rg.at_run [1] rfl ?_, ?_⟩
              · intro ρ W hR ⟨q1, _⟩
                replace q1 : ρ 1 = .pointer (some ⟨g, 0, none⟩) := q1
                refine ⟨rfl, ?_⟩
                exact Rg.run_ok (v := .pointer (some ⟨g, 13, none⟩)) (by simp [execOp, Rg.ev, go_sem, q1]) ⟨rfl, hR, Ext.rfl' _⟩
              refine ⟨Rg.at_run [88] rfl ?_, ?_⟩
              · intro ρ W hR ⟨q88, _⟩
                replace q88 : ρ 88 = .pointer (some ⟨g, 13, none⟩) := q88
                refine ⟨rfl, ?_⟩
                have c13_ : W.cell? ⟨g, 13, none⟩ = some (.int .i64 m.cmd.kind) := ((hM.ext hR).cell 13).trans rfl
                have c14_ : W.cell? ⟨g, 14, none⟩ = some (.int .i64 m.cmd.client) := ((hM.ext hR).cell 14).trans rfl
                have c15_ : W.cell? ⟨g, 15, none⟩ = some (.int .u64 m.cmd.seq) := ((hM.ext hR).cell 15).trans rfl
                have c16_ : W.cell? ⟨g, 16, none⟩ = some (str m.cmd.name) := ((hM.ext hR).cell 16).trans rfl
                have c17_ : W.cell? ⟨g, 17, none⟩ = some (str m.cmd.url) := ((hM.ext hR).cell 17).trans rfl
                have c18_ : W.cell? ⟨g, 18, none⟩ = some (.int .u64 m.cmd.till) := ((hM.ext hR).cell 18).trans rfl
                exact Rg.run_ok (v := .agg #[.int .i64 m.cmd.kind, .int .i64 m.cmd.client, .int .u64 m.cmd.seq, str m.cmd.name, str m.cmd.url, .int .u64 m.cmd.till]) (by simp [execOp, Rg.ev, go_sem, q88, c13_, c14_, c15_, c16_, c17_, c18_]) ⟨rfl, hR, Ext.rfl' _⟩
              refine ⟨Rg.at_run [89] rfl ?_, ?_⟩
              · intro ρ W hR ⟨q89, _⟩
                replace q89 : ρ 89 = .agg #[.int .i64 m.cmd.kind, .int .i64 m.cmd.client, .int .u64 m.cmd.seq, str m.cmd.name, str m.cmd.url, .int .u64 m.cmd.till] := q89
                refine ⟨rfl, ?_⟩
                refine Rg.enter_fn (args := #[.agg #[.int .i64 m.cmd.kind, .int .i64 m.cmd.client, .int .u64 m.cmd.seq, str m.cmd.name, str m.cmd.url, .int .u64 m.cmd.till]]) rfl (by simp only [List.map_toArray, List.map_cons, List.map_nil, Rg.ev, q89]) (by kernel_rfl) ?_
                refine (HPC.out W).mono ?_
                rintro e_ w2 ⟨m_, Am, cm, hm_, rfl, hz, hxx⟩
                have hm' := hm_.out
                subst hm'
                exact ⟨_, rfl, hz, hR.trans' hxx, hxx⟩
              refine ⟨Rg.at_run [87, 90] rfl ?_, ?_⟩
              · intro ρ W hR ⟨q87, q90, _⟩
                replace q87 : ρ 87 = .slice A4 b4.length c4 := q87
                replace q90 : (fun v W => Bs W v (cput m.cmd)) (ρ 90) W := q90
                refine ⟨rfl, ?_⟩
                refine Rg.run_enter (by simp [execOp, Rg.ev, go_sem, q87]; exact ⟨⟨rfl, rfl⟩, rfl⟩) ?_
                refine (qPutB _ _ b4 (cput m.cmd) W (by omega) ((Bs.own hn4).ext hR) q90).mono ?_
                rintro e w2 ⟨m_, Am, cm, hm_, rfl, hz, hxx⟩
                have hm' := hm_.out
                subst hm'
                exact ⟨_, rfl, hz.trans (hR), hR.trans' hxx, hxx⟩
              refine ⟨Rg.at_run [1] rfl ?_, ?_⟩
              · intro ρ W hR ⟨q1, _⟩
                replace q1 : ρ 1 = .pointer (some ⟨g, 0, none⟩) := q1
                refine ⟨rfl, ?_⟩
                exact Rg.run_ok (v := .pointer (some ⟨g, 19, none⟩)) (by simp [execOp, Rg.ev, go_sem, q1]) ⟨rfl, hR, Ext.rfl' _⟩
              refine ⟨Rg.at_run [92] rfl ?_, ?_⟩
              · intro ρ W hR ⟨q92, _⟩
                replace q92 : ρ 92 = .pointer (some ⟨g, 19, none⟩) := q92
                refine ⟨rfl, ?_⟩
                exact Rg.run_ok (v := .pointer (some ⟨g, 19, none⟩)) (by simp [execOp, Rg.ev, go_sem, q92]) ⟨rfl, hR, Ext.rfl' _⟩
              refine ⟨Rg.at_run [93] rfl ?_, ?_⟩
              · intro ρ W hR ⟨q93, _⟩
                replace q93 : ρ 93 = .pointer (some ⟨g, 19, none⟩) := q93
                refine ⟨rfl, ?_⟩
                have c19_ : W.cell? ⟨g, 19, none⟩ = some (.int .i64 m.an.err) := ((hM.ext hR).cell 19).trans rfl
                exact Rg.run_ok (v := .int .i64 m.an.err) (by simp [execOp, Rg.ev, go_sem, q93, c19_]) ⟨rfl, hR, Ext.rfl' _⟩
              refine ⟨Rg.at_run [94] rfl ?_, ?_⟩
              · intro ρ W hR ⟨q94, _⟩
                replace q94 : ρ 94 = .int .i64 m.an.err := q94
                refine ⟨rfl, ?_⟩
                exact Rg.run_ok (v := .int .u8 m.an.err) (by simp [execOp, Rg.ev, go_sem, q94, HWE]) ⟨rfl, hR, Ext.rfl' _⟩
              refine ⟨Rg.at_run [95] rfl ?_, ?_⟩
              · intro ρ W hR ⟨q95, _⟩
                replace q95 : ρ 95 = .int .u8 m.an.err := q95
                refine ⟨rfl, ?_⟩
                refine Rg.run_ok (v := .slice (some ⟨W.heap.size, 0, none⟩) 1 1) (W' := W.alloc (.cells #[.int .u8 m.an.err] 5)) (by simp [execOp, Rg.ev, go_sem, q95]) ⟨?_, hR.alloc' _, (Ext.rfl' _).alloc' _⟩
                have h := lit8 W eb W.heap.size rfl
                rw [heb2] at h
                exact h
              trivial
            case en =>
              intro tm W hR hsz hk
              rw [Rg.fin_eq (ds := [87, 88, 89, 90, 91, 92, 93, 94, 95, 96]) rfl rfl rfl hsz hk]
              have k87 : tm.getD 87 undef = .slice A4 b4.length c4 := hk 87
              have k88 : tm.getD 88 undef = .pointer (some ⟨g, 13, none⟩) := hk 88
              have k89 : tm.getD 89 undef = .agg #[.int .i64 m.cmd.kind, .int .i64 m.cmd.client, .int .u64 m.cmd.seq, str m.cmd.name, str m.cmd.url, .int .u64 m.cmd.till] := hk 89
              have k90 : (fun v W => Bs W v (cput m.cmd)) (tm.getD 90 undef) W := hk 90
              have k91 : (fun v W => Nw wr W v (b4 ++ oputBytes [] (cput m.cmd))) (tm.getD 91 undef) W := hk 91
              have k92 : tm.getD 92 undef = .pointer (some ⟨g, 19, none⟩) := hk 92
              have k93 : tm.getD 93 undef = .pointer (some ⟨g, 19, none⟩) := hk 93
              have k94 : tm.getD 94 undef = .int .i64 m.an.err := hk 94
              have k95 : tm.getD 95 undef = .int .u8 m.an.err := hk 95
              have k96 : (fun v W => Bs W v [eb]) (tm.getD 96 undef) W := hk 96
              clear hk hsz
              simp only [Rg.putAll, List.setIfInBounds_toArray, List.set_cons_zero, List.set_cons_succ, k87, k88, k89, k92, k93, k94, k95]
              clear k87
              clear k88
              clear k89
              generalize tm.getD 90 undef = u90 at *
              generalize tm.getD 91 undef = u91 at *
              clear k92
              clear k93
              clear k94
              clear k95
              generalize tm.getD 96 undef = u96 at *
              clear k90
              obtain ⟨b5, hb5⟩ : ∃ b5, b4 ++ oputBytes [] (cput m.cmd) = b5 := ⟨_, rfl⟩
              rw [hb5] at k91 HFIN
              have hb5l : b5.length ≤ 100000 := by rw [← hb5]; simp only [List.length_append, oputBytes_length, List.length_nil]; omega
              clear hb5
              obtain ⟨A5, c5, hv5, -, -⟩ := own_slice (id k91)
              subst hv5
              simp only [List.drop_succ_cons, List.drop_zero]
              refine wpList_app wr _ rfl (.tmp 91) (.tmp 96) rfl (.slice A5 b5.length c5) b5 rfl k91 hR _ [eb] rfl k96 (by simp only [List.length_cons, List.length_nil]; omega) ?_
              intro b6 A6 c6 W6 hb6 hz6 hx6 hg6
              have hM6 := (hM.ext hx6)
              have t20 : W6.cell? ⟨g, 20, none⟩ = some (str m.an.text) := (hM6.cell 20).trans rfl
              have hb6l : b6.length ≤ 100001 := by rw [hb6.out]; simp only [List.length_append, List.length_cons, List.length_nil]; omega
              obtain ⟨Ac, cc, W7, hcv, hbs7, hx7⟩ := conv_bytes W6 m.an.text (by omega)
              go_wp2_with fail
              refine (qPutB _ _ b6 m.an.text W7 (by omega) (hz6.bs.ext hx7) hbs7).mono ?_
              rintro e w8 ⟨m8, Am8, cm8, hm8, rfl, hz8, hx8⟩
              go_wp2_with fail
              go_ret
              exact ⟨m8, Am8, cm8, hide (by rw [hm8.out, hb6.out]; exact HFIN.out), rfl, own_base hz8 (((hx0.trans' hx6).trans' hx7).size), ((hx0.trans' hx6).trans' hx7).trans' hx8⟩
end Go.Proofs.Ytlblgopfdadalaa
