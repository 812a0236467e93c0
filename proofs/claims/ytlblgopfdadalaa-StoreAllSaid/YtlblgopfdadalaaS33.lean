/- A part of the proof of 'StoreAll'. -/
import Derived.Test.YtlblgopfdadalaaS32
import Derived.Test.YtlblgopfdadalaaS9
import Derived.Test.YtlblgopfdadalaaS11
import Derived.Deep.DeepCutAuto
import Derived.Deep.CutBlock
import Derived.Test.YtlblgopfdadalaaS22
namespace Go.Proofs.Ytlblgopfdadalaa
set_option linter.unusedVariables false
set_option linter.unusedSimpArgs false
set_option linter.unnecessarySimpa false
set_option maxRecDepth 100000
open Go.RowKit
set_option maxHeartbeats 12800000 in
theorem rsave_b (X : Avoid) (gs gd : Nat) (k : Kp) (d : Dk) (v : Value) (As Ae : Option Addr) (cs ce : Nat) (x : Value) (l : List Rec) (n : Nat) (w : World) (h : RStD w gs gd k d v As cs Ae ce) (hX : ∀ j, X j → j < w.heap.size) (hsX : Enc.BsX w X (.slice As k.snap.state.length cs) k.snap.state) (heX : Enc.Sl enE w X (.slice Ae k.ents.length ce) k.ents) (hvX : ∀ j, v.ownBlock = some j → ¬ X j) (hks : k.small n) (hx : Enc.Sl reE w (fun j => XS gs gd j ∨ X j) x l)
    (hl : ∀ r ∈ l, r.wide ∧ r.small) (hn0 : n + l.length ≤ 900) :
    Calls Try.prog 23 #[.pointer (some ⟨gs, 0, none⟩), x] w fun e w' => RetSaveR X w w' e gs gd (rsave d k l) := by
  have hn : n + l.length ≤ 1000 := by omega
  obtain ⟨Ax, cx, rfl, -, -⟩ := hx.form
  have hD := h.disk
  have hS := h.so
  have hne_ := h.ne
  have hkw := h.wide
  have hgsw : gs < w.heap.size := hS.blk.lt
  have hgdw : gd < w.heap.size := hD.blk.lt
  rcases Bool.eq_false_or_eq_true ((l.length : Int) == 0) with h0 | h0
  · have hl0 : l = [] := List.eq_nil_of_length_eq_zero (by simpa using h0)
    have HS : Hid (rsave d k l = (d, k, 0)) := if_pos hl0
    rw [HS.out]
    go_enter Try.func23, Try.ntmps23
    go_wp2
    go_ret
    exact ⟨v, As, cs, Ae, ce, rfl, h, Chg.refl _ _, hsX, heX, hvX⟩
  obtain ⟨nx, hnx⟩ : ∃ nx, kfold k l = nx := ⟨_, rfl⟩
  have HS : Hid (rsave d k l = ((rsaveD d l nx).1, if (rsaveD d l nx).2 = 0 then nx else k, (rsaveD d l nx).2)) := hide (by unfold rsave; rw [if_neg (by rintro rfl; simp at h0), hnx])
  obtain ⟨sv, hsv⟩ : ∃ sv, rsave d k l = sv := ⟨_, rfl⟩
  rw [hsv] at HS ⊢
  clear hsv
  have hnw : nx.wide := by rw [← hnx]; exact Kp.wide.fold l hkw fun r hr => (hl r hr).1
  have hns : nx.small (n + l.length) := by rw [← hnx]; exact Kp.small.fold l hks fun r hr => (hl r hr).2
  have HF := hide (fun W (hxx : Ext w W) => rfold_b (fun j => XS gs gd j ∨ X j) k (.slice As k.snap.state.length cs) (.slice Ae k.ents.length ce) (.slice Ax l.length cx) l n W (fun j hj => Nat.lt_of_lt_of_le (hj.elim (fun h => by rcases h with h | h <;> omega) (hX j)) hxx.size) hkw hks ((bsx_or hS.bs hsX).ext hxx) ((sl_or hS.es heX).ext hxx) (hx.ext hxx) hl hn)
  rw [hnx] at HF
  clear hnx
  have b1 := (hS.blk.cell 1).trans rfl
  have b2 := (hS.blk.cell 2).trans rfl
  have b3 := (hS.blk.cell 3).trans rfl
  have b4 := (hS.blk.cell 4).trans rfl
  have b5 := (hS.blk.cell 5).trans rfl
  have b6 := (hS.blk.cell 6).trans rfl
  go_enter Try.func23, Try.ntmps23
  go_wp2_with fail
  refine (HF.out _ (Ext.rfl' _)).mono ?_
  rintro e w2 ⟨An, cn, Bn, dn, rfl, hnb, hno, hx2⟩
  clear b1 b2 b3 b4 b5 b6
  obtain ⟨gn, hgn⟩ : ∃ g_, w2.heap.size = g_ := ⟨_, rfl⟩
  have hN := Blk.new w2 53 #[.int .u64 nx.hard.term, .int .i64 nx.hard.vote, .int .u64 nx.snap.index, .int .u64 nx.snap.term, .slice An nx.snap.state.length cn, .slice Bn nx.ents.length dn]
  rw [hgn] at hN
  have hz : Ext w2 (w2.alloc (.cells #[.int .u64 nx.hard.term, .int .i64 nx.hard.vote, .int .u64 nx.snap.index, .int .u64 nx.snap.term, .slice An nx.snap.state.length cn, .slice Bn nx.ents.length dn] 53)) := (Ext.rfl' _).alloc' _
  have hgnw : w.heap.size ≤ gn := by rw [← hgn]; exact hx2.size
  go_upto_region 4 with fail
  try rw [hgn]
  clear hgn
  generalize (w2.alloc (.cells #[.int .u64 nx.hard.term, .int .i64 nx.hard.vote, .int .u64 nx.snap.index, .int .u64 nx.snap.term, .slice An nx.snap.state.length cn, .slice Bn nx.ents.length dn] 53)) = w3 at *
  have hx3 := hx2.trans' hz
  replace hnb := hnb.ext hz
  have hnen := hno.ext hz
  clear hno hz hx2
  have hxl3 := (slN hx).ext hx3
  go_upto_block 0 with fail
  go_cut [6] (fun v6 wx => v6 = .bool (l.any isSnap) ∧ wx = w3)
  case first =>
    go_wp2_with fail
    have hll9 : l.length ≤ 9223372036854775807 := by omega
    go_loopw [6, 7] (fun vs vi wr => ∃ a : Nat, a ≤ l.length ∧ vs = .bool ((l.take a).any isSnap) ∧ vi = .int .i64 a ∧ wr = w3) (fun _ vi _ => (l.length - intOf vi).toNat)
    case atStart => exact ⟨0, by omega, rfl, rfl, rfl⟩
    case round =>
      obtain ⟨a, ha, rfl, rfl, rfl⟩ := hrel
      by_cases hlt : a < l.length
      · obtain ⟨ad, r_, v1_, v2_, rfl, hr_, hab_, p0, -⟩ := re_at hxl3 (k := a) hlt
        have HLT := hide hlt
        have hb1 : (0 : Int) ≤ a := by omega
        have hb2 : (a : Int) < l.length := by omega
        have hsn : (l.take (a + 1)).any isSnap = ((l.take a).any isSnap || isSnap r_) := by
          rw [List.take_add_one, hr_.out]
          simp
        obtain ⟨b0, hb0⟩ : ∃ b0, (l.take a).any isSnap = b0 := ⟨_, rfl⟩
        rw [hb0] at hsn ⊢
        have HSN := hide hsn
        clear hlt hsn hb0
        cases b0 with
        | true =>
          go_wp2_with fail
          go_roundw
          case rel => exact ⟨a + 1, by have := HLT.out; omega, by rw [HSN.out]; rfl, by go_num, trivial⟩
          case measure => have := HLT.out; simp [intOf]; omega
        | false =>
          go_wp2_with fail
          go_roundw
          case rel => exact ⟨a + 1, by have := HLT.out; omega, by rw [HSN.out]; rfl, by go_num, trivial⟩
          case measure => have := HLT.out; simp [intOf]; omega
      · obtain rfl : a = l.length := by omega
        rw [List.take_length]
        go_wp2_with fail
        go_meet
        case rel => exact ⟨rfl, rfl⟩
  case rest =>
  obtain ⟨rfl, rfl⟩ := hcut
  generalize wc = w4 at *
  have hxl := (slN hx).ext hx3
  have hD4 := hD.ext hx3
  have hS4 := hS.ext hx3
  clear hxl3
  obtain ⟨q, hq⟩ : ∃ q, l.any isSnap = q := ⟨_, rfl⟩
  rw [hq]
  have hgdW : gd < w4.heap.size := hD4.blk.lt
  have hgsW : gs < w4.heap.size := hS4.blk.lt
  have hgnW : gn < w4.heap.size := hN.lt
  have hvd : ∀ j, v.ownBlock = some j → j ≠ gs := h.own
  have hSD : Hid (rsaveD d l nx = if q = true then d.rop (lput (krecs nx)).length (Dk.repl (lput (krecs nx))) id
      else if (d.rop (d.b.length + (lput l).length) (Dk.app (lput l)) (Dk.app (lput l))).2 = 0 then (d.rop (d.b.length + (lput l).length) (Dk.app (lput l)) (Dk.app (lput l))).1.rop 0 Dk.last id
      else d.rop (d.b.length + (lput l).length) (Dk.app (lput l)) (Dk.app (lput l))) := hide (by unfold rsaveD; rw [hq])
  clear hq
  obtain ⟨sd, hsd⟩ : ∃ sd, rsaveD d l nx = sd := ⟨_, rfl⟩
  rw [hsd] at HS hSD
  clear hsd
  go_upto_if 33 with fail
  go_cut [8] (fun vi wx => ∃ v', vi = .int .i64 sd.2 ∧ RefAt wx gd v' sd.1 ∧ Chg [gd] w4 wx ∧ ∀ j, v'.ownBlock = some j → v.ownBlock = some j ∨ (w4.heap.size ≤ j ∧ j < wx.heap.size))
  case first =>
    replace hS := hS4
    cases q with
    | true =>
      have hks2 := krecs_small hns hnw (sl_terms hnen)
      have hkl : (krecs nx).length ≤ 1000 := by have := hks2.2; omega
      have hne := slN hnen
      have hnb := hnb.mono (Y := noneAt) fun _ _ h => h.elim
      go_upto_region 11 with fail
      refine Rg.regionT Try.checked.mixed 63 7 (by kernel_rfl) [
        (fun x_ _ => x_ = .pointer (some ⟨gs, 0, none⟩)),
        (fun x_ _ => x_ = .pointer (some ⟨gs, 0, none⟩)),
        (fun x_ _ => x_ = .pointer (some ⟨gs, 0, none⟩)),
        (fun x_ _ => x_ = .pointer (some ⟨gd, 0, none⟩)),
        (fun x_ _ => x_ = .agg #[.int .u64 nx.hard.term, .int .i64 nx.hard.vote, .int .u64 nx.snap.index, .int .u64 nx.snap.term, .slice An nx.snap.state.length cn, .slice Bn nx.ents.length dn]),
        (fun v W => ∃ A c, v = .slice A (krecs nx).length c ∧ Enc.Sl reE W noneAt (.slice A (krecs nx).length c) (krecs nx)),
        (fun v W => Bs W v (lput (krecs nx)) ∧ Off v [gd])] (fun W => Ext w4 W) Ext rfl rfl rfl
        ?st ((Ext.rfl' w4).drew') ?ob ?en
      case st => exact ⟨fun _ _ _ h _ => h, fun _ _ _ h _ => h, fun _ _ _ h _ => h, fun _ _ _ h _ => h, fun _ _ _ h _ => h, fun _ _ _ ⟨a1_, a2_, h1_, h2_⟩ hx => ⟨a1_, a2_, h1_, h2_.ext hx⟩, fun _ _ _ ⟨h1_, h2_⟩ hx => ⟨h1_.ext hx, h2_⟩, trivial⟩
      case ob =>
        refine ⟨Rg.at_run [0] rfl ?_, ?_⟩
        · intro ρ W hR ⟨q0, _⟩
          replace q0 : ρ 0 = .pointer (some ⟨gs, 0, none⟩) := q0
          refine ⟨rfl, ?_⟩
          exact Rg.run_ok (v := .pointer (some ⟨gs, 0, none⟩)) (by simp [execOp, Rg.ev, go_sem, q0]) ⟨rfl, hR, Ext.rfl' _⟩
        refine ⟨Rg.at_run [34] rfl ?_, ?_⟩
        · intro ρ W hR ⟨q34, _⟩
          replace q34 : ρ 34 = .pointer (some ⟨gs, 0, none⟩) := q34
          refine ⟨rfl, ?_⟩
          exact Rg.run_ok (v := .pointer (some ⟨gs, 0, none⟩)) (by simp [execOp, Rg.ev, go_sem, q34]) ⟨rfl, hR, Ext.rfl' _⟩
        refine ⟨Rg.at_run [35] rfl ?_, ?_⟩
        · intro ρ W hR ⟨q35, _⟩
          replace q35 : ρ 35 = .pointer (some ⟨gs, 0, none⟩) := q35
          refine ⟨rfl, ?_⟩
          exact Rg.run_ok (v := .pointer (some ⟨gs, 0, none⟩)) (by simp [execOp, Rg.ev, go_sem, q35]) ⟨rfl, hR, Ext.rfl' _⟩
        refine ⟨Rg.at_run [36] rfl ?_, ?_⟩
        · intro ρ W hR ⟨q36, _⟩
          replace q36 : ρ 36 = .pointer (some ⟨gs, 0, none⟩) := q36
          refine ⟨rfl, ?_⟩
          have c0_ : W.cell? ⟨gs, 0, none⟩ = some (.pointer (some ⟨gd, 0, none⟩)) := ((hS.blk.ext hR).cell 0).trans rfl
          exact Rg.run_ok (v := .pointer (some ⟨gd, 0, none⟩)) (by simp [execOp, Rg.ev, go_sem, q36, c0_]) ⟨rfl, hR, Ext.rfl' _⟩
        refine ⟨Rg.at_run [5] rfl ?_, ?_⟩
        · intro ρ W hR ⟨q5, _⟩
          replace q5 : ρ 5 = .pointer (some ⟨gn, 0, none⟩) := q5
          refine ⟨rfl, ?_⟩
          have c0_ : W.cell? ⟨gn, 0, none⟩ = some (.int .u64 nx.hard.term) := ((hN.ext hR).cell 0).trans rfl
          have c1_ : W.cell? ⟨gn, 1, none⟩ = some (.int .i64 nx.hard.vote) := ((hN.ext hR).cell 1).trans rfl
          have c2_ : W.cell? ⟨gn, 2, none⟩ = some (.int .u64 nx.snap.index) := ((hN.ext hR).cell 2).trans rfl
          have c3_ : W.cell? ⟨gn, 3, none⟩ = some (.int .u64 nx.snap.term) := ((hN.ext hR).cell 3).trans rfl
          have c4_ : W.cell? ⟨gn, 4, none⟩ = some (.slice An nx.snap.state.length cn) := ((hN.ext hR).cell 4).trans rfl
          have c5_ : W.cell? ⟨gn, 5, none⟩ = some (.slice Bn nx.ents.length dn) := ((hN.ext hR).cell 5).trans rfl
          exact Rg.run_ok (v := .agg #[.int .u64 nx.hard.term, .int .i64 nx.hard.vote, .int .u64 nx.snap.index, .int .u64 nx.snap.term, .slice An nx.snap.state.length cn, .slice Bn nx.ents.length dn]) (by simp [execOp, Rg.ev, go_sem, q5, c0_, c1_, c2_, c3_, c4_, c5_]) ⟨rfl, hR, Ext.rfl' _⟩
        refine ⟨Rg.at_run [38] rfl ?_, ?_⟩
        · intro ρ W hR ⟨q38, _⟩
          replace q38 : ρ 38 = .agg #[.int .u64 nx.hard.term, .int .i64 nx.hard.vote, .int .u64 nx.snap.index, .int .u64 nx.snap.term, .slice An nx.snap.state.length cn, .slice Bn nx.ents.length dn] := q38
          refine ⟨rfl, ?_⟩
          refine Rg.enter_fn (args := #[.agg #[.int .u64 nx.hard.term, .int .i64 nx.hard.vote, .int .u64 nx.snap.index, .int .u64 nx.snap.term, .slice An nx.snap.state.length cn, .slice Bn nx.ents.length dn]]) rfl (by simp only [List.map_toArray, List.map_cons, List.map_nil, Rg.ev, q38]) (by kernel_rfl) ?_
          refine (rrecords_b noneAt nx (.slice An nx.snap.state.length cn) (.slice Bn nx.ents.length dn) (n + l.length) W (fun _ h => h.elim) hnw hns (hnb.ext hR) (hne.ext hR) hn).mono ?_
          rintro e_ w9 ⟨m_, A_, c_, hm_, rfl, ho_, hxx⟩
          obtain rfl : m_ = krecs nx := hm_.out
          exact ⟨_, rfl, ⟨_, _, rfl, ho_.sl⟩, hR.trans' hxx, hxx⟩
        refine ⟨Rg.at_run [39] rfl ?_, ?_⟩
        · intro ρ W hR ⟨q39, _⟩
          replace q39 : (fun v W => ∃ A c, v = .slice A (krecs nx).length c ∧ Enc.Sl reE W noneAt (.slice A (krecs nx).length c) (krecs nx)) (ρ 39) W := q39
          refine ⟨rfl, ?_⟩
          obtain ⟨A9, c9, hv9, hl9⟩ := q39
          refine Rg.enter_fn (args := #[(.slice A9 (krecs nx).length c9)]) rfl (by simp only [List.map_toArray, List.map_cons, List.map_nil, Rg.ev, hv9]) (by kernel_rfl) ?_
          refine (rputs_b (.slice A9 (krecs nx).length c9) (krecs nx) W (by omega) hl9 hks2.1).mono ?_
          rintro e_ w9 ⟨m_, A_, c_, hm_, rfl, ha_, hxx⟩
          obtain rfl : m_ = lput (krecs nx) := hm_.out
          exact ⟨_, rfl, ⟨ha_.bs, ha_.off (fun j hj => by have := List.mem_singleton.1 hj; have h1 := hgdW; have h2 := hR.size; omega)⟩, hR.trans' hxx, hxx⟩
        trivial
      case en =>
        intro tm W hR hsz hk
        rw [Rg.fin_eq (ds := [34, 35, 36, 37, 38, 39, 40]) rfl rfl rfl hsz hk]
        have k34 : tm.getD 34 undef = .pointer (some ⟨gs, 0, none⟩) := hk 34
        have k35 : tm.getD 35 undef = .pointer (some ⟨gs, 0, none⟩) := hk 35
        have k36 : tm.getD 36 undef = .pointer (some ⟨gs, 0, none⟩) := hk 36
        have k37 : tm.getD 37 undef = .pointer (some ⟨gd, 0, none⟩) := hk 37
        have k38 : tm.getD 38 undef = .agg #[.int .u64 nx.hard.term, .int .i64 nx.hard.vote, .int .u64 nx.snap.index, .int .u64 nx.snap.term, .slice An nx.snap.state.length cn, .slice Bn nx.ents.length dn] := hk 38
        have k39 : (fun v W => ∃ A c, v = .slice A (krecs nx).length c ∧ Enc.Sl reE W noneAt (.slice A (krecs nx).length c) (krecs nx)) (tm.getD 39 undef) W := hk 39
        have k40 : (fun v W => Bs W v (lput (krecs nx)) ∧ Off v [gd]) (tm.getD 40 undef) W := hk 40
        clear hk hsz
        simp only [Rg.putAll, List.setIfInBounds_toArray, List.set_cons_zero, List.set_cons_succ, k34, k35, k36, k37, k38]
        clear k34
        clear k35
        clear k36
        clear k37
        clear k38
        generalize tm.getD 39 undef = u39 at *
        generalize tm.getD 40 undef = u40 at *
        obtain ⟨hb40, ho40⟩ := k40
        obtain ⟨A40, c40, rfl, -, -, -⟩ := id hb40
        have hll := lput_len (l := krecs nx) fun r hr => (hks2.1 r hr).2
        simp only [List.drop_succ_cons, List.drop_zero]
        go_wp2_with fail
        refine (ref_replace gd v (.slice A40 (lput (krecs nx)).length c40) d (lput (krecs nx)) W (hD4.ext hR) hb40 ho40 (by omega)).mono ?_
        rintro e W5 ⟨rfl, v', hd5, hc5, hn5⟩
        go_wp2_with fail
        go_meet
        case rel => exact ⟨v', by rw [hSD.out, if_pos trivial], by rw [hSD.out, if_pos trivial]; exact hd5, (hR.chg [gd]).trans hc5, fun j hj => (hn5 j hj).imp id fun h => by have := hR.size; omega⟩
    | false =>
      go_upto_region 12 with fail
      refine Rg.regionT Try.checked.mixed 63 6 (by kernel_rfl) [
        (fun x_ _ => x_ = .pointer (some ⟨gs, 0, none⟩)),
        (fun x_ _ => x_ = .pointer (some ⟨gs, 0, none⟩)),
        (fun x_ _ => x_ = .pointer (some ⟨gs, 0, none⟩)),
        (fun x_ _ => x_ = .pointer (some ⟨gd, 0, none⟩)),
        (fun x_ _ => x_ = .slice Ax l.length cx),
        (fun v W => Bs W v (lput l) ∧ Off v [gd])] (fun W => Ext w4 W) Ext rfl rfl rfl
        ?st ((Ext.rfl' w4).drew') ?ob ?en
      case st => exact ⟨fun _ _ _ h _ => h, fun _ _ _ h _ => h, fun _ _ _ h _ => h, fun _ _ _ h _ => h, fun _ _ _ h _ => h, fun _ _ _ ⟨h1_, h2_⟩ hx => ⟨h1_.ext hx, h2_⟩, trivial⟩
      case ob =>
        refine ⟨Rg.at_run [0] rfl ?_, ?_⟩
        · intro ρ W hR ⟨q0, _⟩
          replace q0 : ρ 0 = .pointer (some ⟨gs, 0, none⟩) := q0
          refine ⟨rfl, ?_⟩
          exact Rg.run_ok (v := .pointer (some ⟨gs, 0, none⟩)) (by simp [execOp, Rg.ev, go_sem, q0]) ⟨rfl, hR, Ext.rfl' _⟩
        refine ⟨Rg.at_run [42] rfl ?_, ?_⟩
        · intro ρ W hR ⟨q42, _⟩
          replace q42 : ρ 42 = .pointer (some ⟨gs, 0, none⟩) := q42
          refine ⟨rfl, ?_⟩
          exact Rg.run_ok (v := .pointer (some ⟨gs, 0, none⟩)) (by simp [execOp, Rg.ev, go_sem, q42]) ⟨rfl, hR, Ext.rfl' _⟩
        refine ⟨Rg.at_run [43] rfl ?_, ?_⟩
        · intro ρ W hR ⟨q43, _⟩
          replace q43 : ρ 43 = .pointer (some ⟨gs, 0, none⟩) := q43
          refine ⟨rfl, ?_⟩
          exact Rg.run_ok (v := .pointer (some ⟨gs, 0, none⟩)) (by simp [execOp, Rg.ev, go_sem, q43]) ⟨rfl, hR, Ext.rfl' _⟩
        refine ⟨Rg.at_run [44] rfl ?_, ?_⟩
        · intro ρ W hR ⟨q44, _⟩
          replace q44 : ρ 44 = .pointer (some ⟨gs, 0, none⟩) := q44
          refine ⟨rfl, ?_⟩
          have c0_ : W.cell? ⟨gs, 0, none⟩ = some (.pointer (some ⟨gd, 0, none⟩)) := ((hS.blk.ext hR).cell 0).trans rfl
          exact Rg.run_ok (v := .pointer (some ⟨gd, 0, none⟩)) (by simp [execOp, Rg.ev, go_sem, q44, c0_]) ⟨rfl, hR, Ext.rfl' _⟩
        refine ⟨Rg.at_run [1] rfl ?_, ?_⟩
        · intro ρ W hR ⟨q1, _⟩
          replace q1 : ρ 1 = .slice Ax l.length cx := q1
          refine ⟨rfl, ?_⟩
          exact Rg.run_ok (v := .slice Ax l.length cx) (by simp [execOp, Rg.ev, go_sem, q1]) ⟨rfl, hR, Ext.rfl' _⟩
        refine ⟨Rg.at_run [46] rfl ?_, ?_⟩
        · intro ρ W hR ⟨q46, _⟩
          replace q46 : ρ 46 = .slice Ax l.length cx := q46
          refine ⟨rfl, ?_⟩
          refine Rg.enter_fn (args := #[(.slice Ax l.length cx)]) rfl (by simp only [List.map_toArray, List.map_cons, List.map_nil, Rg.ev, q46]) (by kernel_rfl) ?_
          refine (rputs_b (.slice Ax l.length cx) l W (by omega) (hxl.ext hR) hl).mono ?_
          rintro e_ w9 ⟨m_, A_, c_, hm_, rfl, ha_, hxx⟩
          obtain rfl : m_ = lput l := hm_.out
          exact ⟨_, rfl, ⟨ha_.bs, ha_.off (fun j hj => by have := List.mem_singleton.1 hj; have h1 := hgdW; have h2 := hR.size; omega)⟩, hR.trans' hxx, hxx⟩
        trivial
      case en =>
        intro tm W hR hsz hk
        rw [Rg.fin_eq (ds := [42, 43, 44, 45, 46, 47]) rfl rfl rfl hsz hk]
        have k42 : tm.getD 42 undef = .pointer (some ⟨gs, 0, none⟩) := hk 42
        have k43 : tm.getD 43 undef = .pointer (some ⟨gs, 0, none⟩) := hk 43
        have k44 : tm.getD 44 undef = .pointer (some ⟨gs, 0, none⟩) := hk 44
        have k45 : tm.getD 45 undef = .pointer (some ⟨gd, 0, none⟩) := hk 45
        have k46 : tm.getD 46 undef = .slice Ax l.length cx := hk 46
        have k47 : (fun v W => Bs W v (lput l) ∧ Off v [gd]) (tm.getD 47 undef) W := hk 47
        clear hk hsz
        simp only [Rg.putAll, List.setIfInBounds_toArray, List.set_cons_zero, List.set_cons_succ, k42, k43, k44, k45, k46]
        clear k42
        clear k43
        clear k44
        clear k45
        clear k46
        generalize tm.getD 47 undef = u47 at *
        obtain ⟨hb47, ho47⟩ := k47
        obtain ⟨A47, c47, rfl, -, -, -⟩ := id hb47
        have hll := lput_len (l := l) fun r hr => (hl r hr).2
        simp only [List.drop_succ_cons, List.drop_zero]
        go_wp2_with fail
        refine (ref_append gd v (.slice A47 (lput l).length c47) d (lput l) W (hD4.ext hR) hb47 ho47 (by omega)).mono ?_
        rintro e W5 ⟨rfl, v', hd5, hc5, hn5⟩
        obtain ⟨⟨d1, e1⟩, hq1⟩ : ∃ r, d.rop (d.b.length + (lput l).length) (Dk.app (lput l)) (Dk.app (lput l)) = r := ⟨_, rfl⟩
        rw [hq1] at hSD hd5 ⊢
        have HQ1 := hide hq1
        clear hq1
        simp only at hd5 ⊢
        have hn6 : ∀ j, v'.ownBlock = some j → v.ownBlock = some j ∨ (w4.heap.size ≤ j ∧ j < W5.heap.size) := fun j hj => (hn5 j hj).imp id fun h => by have := hR.size; omega
        rcases Bool.eq_false_or_eq_true (e1 == 0) with he | he
        · have hS5 := (hS.ext hR).chg hc5 hne_
          have b0 := (hS5.blk.cell 0).trans rfl
          have HE : Hid (sd = d1.rop 0 Dk.last id) := hide (by rw [hSD.out, if_neg (by simp), if_pos (by simpa using he)])
          go_wp2_with fail
          refine (ref_sync gd v' d1 W5 hd5).mono ?_
          rintro e W6 ⟨rfl, v6, hd6, hc6, hn7⟩
          go_wp2_with fail
          go_meet
          case rel => exact ⟨v6, by rw [HE.out], by rw [HE.out]; exact hd6, ((hR.chg [gd]).trans hc5).trans hc6, fun j hj => by
            rcases hn7 j hj with h | h
            · exact (hn6 j h).imp id fun h => by have h3 := hc6.size; omega
            · have h1 := hR.size; have h2 := hc5.size; exact .inr (by omega)⟩
        · have HE : Hid (sd = (d1, e1)) := hide (by rw [hSD.out, if_neg (by simp), if_neg (by simpa using he)])
          go_wp2_with fail
          go_meet
          case rel => exact ⟨v', by rw [HE.out], by rw [HE.out]; exact hd5, (hR.chg [gd]).trans hc5, hn6⟩
  case rest =>
    obtain ⟨v', rfl, hD5, hc5, hn5⟩ := hcut
    have hN5 := hN.chg hc5 (by simp; omega)
    have hS5 := hS4.chg hc5 hne_
    have hnb5 := hnb.chg hc5 (fun j hj _ => .inl (.inr (List.mem_singleton.1 hj)))
    have hne5 := hnen.chg hc5 (fun j hj _ => .inl (.inr (List.mem_singleton.1 hj)))
    have hS5X := ((bsx_or hS.bs hsX).ext hx3).chg hc5 (fun j hj _ => .inl (.inr (List.mem_singleton.1 hj)))
    have hE5X := ((sl_or hS.es heX).ext hx3).chg hc5 (fun j hj _ => .inl (.inr (List.mem_singleton.1 hj)))
    have hv5X : ∀ j, v'.ownBlock = some j → ¬ X j := fun j hj hx => by
      rcases hn5 j hj with h | h
      · exact hvX j h hx
      · have h1 := hX j hx; have h2 := hx3.size; omega
    have hsz5 := hc5.size
    have hv5 : ∀ j, v'.ownBlock = some j → j ≠ gs := fun j hj => by
      rcases hn5 j hj with h | h
      · exact hvd j h
      · omega
    have hvl : ∀ j, v'.ownBlock = some j → j < wc.heap.size := fun j hj => by
      rcases hn5 j hj with h9 | h9
      · have := h.lt j h9; have := hx3.size; omega
      · omega
    have hcw : Chg [gs, gd] w wc := (hx3.chg [gs, gd]).trans (hc5.mono fun j hj => by simp at hj; simp [hj])
    generalize wc = W6 at *
    obtain ⟨d6, e6⟩ := sd
    simp only at hD5 HS ⊢
    rcases Bool.eq_false_or_eq_true (e6 == 0) with he | he
    · have HS2 : Hid (sv = (d6, nx, e6)) := hide (by rw [HS.out, if_pos (by simpa using he)])
      have c0 := (hN5.cell 0).trans rfl
      have c1 := (hN5.cell 1).trans rfl
      have c2 := (hN5.cell 2).trans rfl
      have c3 := (hN5.cell 3).trans rfl
      have c4 := (hN5.cell 4).trans rfl
      have c5 := (hN5.cell 5).trans rfl
      have b1 := (hS5.blk.cell 1).trans rfl
      have b2 := (hS5.blk.cell 2).trans rfl
      have b3 := (hS5.blk.cell 3).trans rfl
      have b4 := (hS5.blk.cell 4).trans rfl
      have b5 := (hS5.blk.cell 5).trans rfl
      have b6 := (hS5.blk.cell 6).trans rfl
      have f1 := hS5.blk.frozen 1
      have f2 := hS5.blk.frozen 2
      have f3 := hS5.blk.frozen 3
      have f4 := hS5.blk.frozen 4
      have f5 := hS5.blk.frozen 5
      have f6 := hS5.blk.frozen 6
      go_wp2_with fail
      go_ret
      rw [HS2.out]
      have hcg : Chg [gs] W6 ((((((W6.setCell ⟨gs, 1, none⟩ (.int .u64 nx.hard.term)).setCell ⟨gs, 2, none⟩ (.int .i64 nx.hard.vote)).setCell ⟨gs, 3, none⟩ (.int .u64 nx.snap.index)).setCell ⟨gs, 4, none⟩ (.int .u64 nx.snap.term)).setCell ⟨gs, 5, none⟩ (.slice An nx.snap.state.length cn)).setCell ⟨gs, 6, none⟩ (.slice Bn nx.ents.length dn)) :=
        ((((((Chg.refl _ _).set (by simp) _).set (by simp) _).set (by simp) _).set (by simp) _).set (by simp) _).set (by simp) _
      refine ⟨v', An, cn, Bn, dn, rfl, ⟨hD5.chg hcg (by simpa using hne_.symm) (Off.of_own fun j hj hm => hv5 j hj (List.mem_singleton.1 hm)), ⟨(((((hS5.blk.set_ 1 _).set_ 2 _).set_ 3 _).set_ 4 _).set_ 5 _).set_ 6 _, (hnb5.chg hcg (fun j hj _ => .inl (.inl (List.mem_singleton.1 hj)))).mono (fun j _ h => .inl h), (hne5.chg hcg (fun j hj _ => .inl (.inl (List.mem_singleton.1 hj)))).mono (fun j _ h => .inl h)⟩, hne_, hv5, hnw, fun j hj => Nat.lt_of_lt_of_le (hvl j hj) hcg.size⟩, hcw.trans (hcg.mono fun j hj => by simp at hj; simp [hj]), (hnb5.chg hcg (fun j hj _ => .inl (.inl (List.mem_singleton.1 hj)))).mono (fun j _ h => .inr h), (hne5.chg hcg (fun j hj _ => .inl (.inl (List.mem_singleton.1 hj)))).mono (fun j _ h => .inr h), hv5X⟩
    · have HS2 : Hid (sv = (d6, k, e6)) := hide (by rw [HS.out, if_neg (by simpa using he)])
      go_wp2
      go_ret
      rw [HS2.out]
      exact ⟨v', As, cs, Ae, ce, rfl, ⟨hD5, hS5, hne_, hv5, hkw, hvl⟩, hcw, hS5X.mono (fun j _ h => .inr h), hE5X.mono (fun j _ h => .inr h), hv5X⟩
end Go.Proofs.Ytlblgopfdadalaa
namespace Go.Proofs.Ytlblgopfdadalaa
set_option linter.unusedVariables false
set_option linter.unusedSimpArgs false
set_option linter.unnecessarySimpa false
set_option maxRecDepth 100000
open Go.RowKit
/-- blocks that hold no records, no entries, no bytes -/
def Odd (w : World) (X : Avoid) : Prop := ∀ g, X g → ∃ T cs, Blk w g T cs ∧ 101 ≠ T ∧ 74 ≠ T ∧ ∀ (j : Nat) (x : Int), cs[j]? ≠ some (.int .u8 x)
theorem Odd.ext {w w' : World} {X : Avoid} (h : Odd w X) (hx : Ext w w') : Odd w' X := fun g hg => by
  obtain ⟨T, cs, h1, h2⟩ := h g hg
  exact ⟨T, cs, h1.ext hx, h2⟩
theorem Odd.chg {S : List Nat} {w w' : World} {X : Avoid} (h : Odd w X) (hc : Chg S w w') (hn : ∀ j, X j → j ∉ S) : Odd w' X := fun g hg => by
  obtain ⟨T, cs, h1, h2⟩ := h g hg
  exact ⟨T, cs, h1.chg hc (hn g hg), h2⟩
theorem Odd.or {w : World} {X Y : Avoid} (h : Odd w X) (k : Odd w Y) : Odd w (fun j => X j ∨ Y j) := fun g hg => hg.elim (h g) (k g)
theorem bsx_odd {w : World} {X Y : Avoid} {v : Value} {l : Bytes} (h : Enc.BsX w X v l) (hY : Odd w Y) : Enc.BsX w (fun j => X j ∨ Y j) v l :=
  ⟨h.1, fun ad n c he h0 hx => hx.elim (h.2 ad n c he h0) fun hy => by
    obtain ⟨T, cs, hB, -, -, hn⟩ := hY _ hy
    exact (bsx_apart h hB hn).2 ad n c he h0 (.inr rfl)⟩
theorem slre_odd {w0 w : World} {X Y : Avoid} {v : Value} {l : List Rec} (h : Own 101 reE w0 w X v l) (hY : Odd w Y) : Own 101 reE w0 w (fun j => X j ∨ Y j) v l := by
  obtain ⟨css, h1, h2, h3⟩ := h
  refine ⟨css, h1, ⟨h2.1, fun k cs a e1 e2 => ?_⟩, fun k hk hx => hx.elim (h3 k hk) fun hy => by
    obtain ⟨T, c, hB, hT, -, -⟩ := hY _ hy
    exact own_blk_ne h1 hB hT hk⟩
  obtain ⟨v1, v2, e, q1, q2, q3⟩ := re_rep.1 (h2.2 k cs a e1 e2)
  refine reE.mono (re_rep.2 ⟨v1, v2, e, q1, bsx_odd q2 hY, bsx_odd q3 hY⟩) fun j _ hj => ?_
  rcases hj with (hj | hj) | hj
  · exact .inl (.inl hj)
  · exact .inr hj
  · exact .inl (.inr hj)
theorem slen_odd {w0 w : World} {X Y : Avoid} {v : Value} {l : List En} (h : Own 74 enE w0 w X v l) (hY : Odd w Y) : Own 74 enE w0 w (fun j => X j ∨ Y j) v l := by
  obtain ⟨css, h1, h2, h3⟩ := h
  refine ⟨css, h1, ⟨h2.1, fun k cs a e1 e2 => ?_⟩, fun k hk hx => hx.elim (h3 k hk) fun hy => by
    obtain ⟨T, c, hB, -, hT, -⟩ := hY _ hy
    exact own_blk_ne h1 hB hT hk⟩
  obtain ⟨v1, e, h5, h6⟩ := en_rep.1 (h2.2 k cs a e1 e2)
  refine en_rep.2 ⟨v1, e, h5, (bsx_odd h6 hY).mono fun j _ hj => ?_⟩
  rcases hj with (hj | hj) | hj
  · exact .inl (.inl hj)
  · exact .inr hj
  · exact .inl (.inr hj)
theorem rcells_no8 (v : Value) (d : Dk) (hv : ∀ x, v ≠ .int .u8 x) : ∀ (j : Nat) (x : Int), (rcells v d)[j]? ≠ some (.int .u8 x) := by
  intro j x h
  rcases j with _ | _ | _ | _ | _ | _ | j <;> simp [rcells] at h
  exact hv x h
theorem RefAt.odd {w : World} {g : Nat} {v : Value} {d : Dk} (h : RefAt w g v d) : Odd w (fun j => j = g) := fun j hj => by
  subst hj
  exact ⟨_, _, h.blk, by decide, by decide, rcells_no8 v d fun x hv => by obtain ⟨A, c, e, -⟩ := h.bs; rw [e] at hv; cases hv⟩
theorem DiskAt.odd {w : World} {g : Nat} {v : Value} {d : Dk} (h : DiskAt w g v d) : Odd w (fun j => j = g) := fun j hj => by
  subst hj
  exact ⟨_, _, h.blk, by decide, by decide, dcells_no8 v d fun x hv => by obtain ⟨A, c, e, -⟩ := h.bs; rw [e] at hv; cases hv⟩
/-- what the document's Open leaves; its parts lie apart of X -/
def RetOpenR (X : Avoid) (w w' : World) (e : Ending) (gd : Nat) (v : Value) (d : Dk) (k : Kp) (er : Int) : Prop :=
  (er = 0 ∧ ∃ (gs : Nat) (v' : Value) (As : Option Addr) (cs : Nat) (Ae : Option Addr) (ce : Nat), e = .returned (.tuple #[.pointer (some ⟨gs, 0, none⟩), .int .i64 0]) ∧
    RStD w' gs gd k d v' As cs Ae ce ∧ w.heap.size ≤ gs ∧ Enc.BsX w' X (.slice As k.snap.state.length cs) k.snap.state ∧ Enc.Sl enE w' X (.slice Ae k.ents.length ce) k.ents ∧ Chg [gd] w w' ∧ ∀ j, v'.ownBlock = some j → v.ownBlock = some j ∨ w.heap.size ≤ j) ∨
  (er ≠ 0 ∧ e = .returned (.tuple #[.pointer none, .int .i64 er]) ∧ ∃ v', RefAt w' gd v' d ∧ Chg [gd] w w' ∧ ∀ j, v'.ownBlock = some j → v.ownBlock = some j ∨ (w.heap.size ≤ j ∧ j < w'.heap.size))
set_option maxHeartbeats 12800000 in
theorem ropen_b (X : Avoid) (gd : Nat) (v : Value) (d : Dk) (n : Nat) (w : World) (hD : RefAt w gd v d) (hX : Odd w X) (hde : d.de = false) (hv : ∀ j, v.ownBlock = some j → j < w.heap.size) (hs : ∀ r ∈ (scan d.b).1, r.small) (hn : (scan d.b).1.length ≤ n) (hn2 : n ≤ 900) (hbl : d.b.length ≤ 100000) :
    Calls Try.prog 18 #[.pointer (some ⟨gd, 0, none⟩)] w fun e w' => RetOpenR X w w' e gd v (ropenD d).1 (kfold Kp0 (scan d.b).1) (ropenD d).2 := by
  have hgdw : gd < w.heap.size := hD.blk.lt
  have hXl : ∀ j, X j → j < w.heap.size := fun j hj => by
    obtain ⟨T, cs, h1, -⟩ := hX j hj
    exact h1.lt
  obtain ⟨od, hod⟩ : ∃ q, ropenD d = q := ⟨_, rfl⟩
  rw [hod]
  have HOD := hide hod
  clear hod
  obtain ⟨k, hk⟩ : ∃ k, kfold Kp0 (scan d.b).1 = k := ⟨_, rfl⟩
  rw [hk]
  have HK := hide hk
  clear hk
  obtain ⟨A, c, hvv, -, -, -⟩ := id hD.bs
  have b0 : w.cell? ⟨gd, 0, none⟩ = some (.slice A d.b.length c) := by rw [← hvv]; exact (hD.blk.cell 0).trans rfl
  have b5 : w.cell? ⟨gd, 5, none⟩ = some (.bool false) := by rw [← hde]; exact (hD.blk.cell 5).trans rfl
  go_enter Try.func18, Try.ntmps18
  go_wp2_with fail
  have hbs := hD.bs
  rw [hvv] at hbs
  refine (rscan_b (.slice A d.b.length c) d.b w hbl hbs).mono ?_
  rintro e w3 ⟨l, Al, cl, m, hlm, rfl, hlo, hx3⟩
  have hl1 : l = (scan d.b).1 := congrArg Prod.fst hlm.out
  have hm1 : m = (scan d.b).2 := congrArg Prod.snd hlm.out
  have hls : ∀ r ∈ l, r.wide ∧ r.small := fun r hr => ⟨Sl.wides hlo.sl r hr, hs r (by rw [← hl1]; exact hr)⟩
  have hln : l.length ≤ n := by rw [hl1]; exact hn
  have HOD2 : Hid (od = if m < d.b.length then d.rop (lput l).length (Dk.repl (lput l)) id else (d, 0)) := hide (by rw [← HOD.out, hl1, hm1]; rfl)
  have HK2 : Hid (kfold Kp0 l = k) := hide (by rw [← HK.out, hl1])
  clear hl1 hm1 b0 b5
  have hD3 := hD.ext hx3
  have hsz3 := hx3.size
  have hsl := hlo.sl
  have hslX := (slre_odd (slre_odd hlo hD3.odd) (hX.ext hx3)).sl
  have b0 : w3.cell? ⟨gd, 0, none⟩ = some (.slice A d.b.length c) := by rw [← hvv]; exact (hD3.blk.cell 0).trans rfl
  go_upto_if 25 with fail
  go_cut [] (fun wx => ∃ v', od.2 = 0 ∧ RefAt wx gd v' od.1 ∧ Chg [gd] w3 wx ∧ ∀ j, v'.ownBlock = some j → v.ownBlock = some j ∨ (w3.heap.size ≤ j ∧ j < wx.heap.size))
  case first =>
    by_cases hlt : (m : Int) < d.b.length
    · have HO : Hid (od = d.rop (lput l).length (Dk.repl (lput l)) id) := hide (by rw [HOD2.out, if_pos (by omega)])
      go_wp2_with fail
      refine (rputs_b (.slice Al l.length cl) l w3 (by omega) hsl hls).mono ?_
      rintro e w4 ⟨m2, A2, c2, hm2, rfl, ha2, hx4⟩
      obtain rfl : m2 = lput l := hm2.out
      have hll := lput_len (l := l) fun r hr => (hls r hr).2
      go_wp2_with fail
      refine (ref_replace gd v (.slice A2 (lput l).length c2) d (lput l) w4 (hD3.ext hx4) ha2.bs (ha2.off (fun j hj => by have := List.mem_singleton.1 hj; omega)) (by omega)).mono ?_
      rintro e w5 ⟨rfl, v', hd5, hc5, hn5⟩
      rw [← HO.out] at hd5 ⊢
      have hn6 : ∀ j, v'.ownBlock = some j → v.ownBlock = some j ∨ (w3.heap.size ≤ j ∧ j < w5.heap.size) := fun j hj => (hn5 j hj).imp id fun h => by have := hx4.size; omega
      rcases Bool.eq_false_or_eq_true (od.2 != 0) with he | he
      · go_wp2
        go_ret2
        exact .inr ⟨by simpa using he, rfl, v', hd5, ((hx3.trans' hx4).chg [gd]).trans hc5, fun j hj => (hn6 j hj).imp id fun h => by omega⟩
      · go_wp2_with fail
        go_meet
        case rel => exact ⟨v', by simpa using he, hd5, (hx4.chg _).trans hc5, hn6⟩
    · have HO : Hid (od = (d, 0)) := hide (by rw [HOD2.out, if_neg (by omega)])
      go_wp2_with fail
      go_meet
      case rel => exact ⟨v, by rw [HO.out], by rw [HO.out]; exact hD3, Chg.refl _ _, fun j hj => .inl hj⟩
  case rest =>
    obtain ⟨v', he0, hD5, hc5, hn5⟩ := hcut
    have hsl5 := (hslX.chg hc5 (fun j hj _ => .inl (.inr (List.mem_singleton.1 hj)))).mono (Y := fun j => X j ∨ j = gd) (fun j _ h => h.elim .inr fun h => .inl (.inr h))
    have hcw : Chg [gd] w wc := (hx3.chg [gd]).trans hc5
    have hsz5 := hc5.size
    generalize wc = w6 at *
    have hF := hide (fun W (hx : Ext w6 W) => rfold_b (fun j => X j ∨ j = gd) Kp0 (.slice none 0 0) (.slice none 0 0) (.slice Al l.length cl) l 0 W (fun j hj => by have := hx.size; rcases hj with h | h; (have := hXl j h; omega); omega) Kp0.wide_ Kp0.small_ (Enc.BsX.nil _ _) (Enc.Sl.nil _ _ _) (hsl5.ext hx) hls (by omega))
    rw [HK2.out] at hF
    have hkw : k.wide := by rw [← HK2.out]; exact Kp.wide.fold l Kp0.wide_ fun r hr => (hls r hr).1
    clear b0
    go_wp2_with fail
    refine (hF.out _ (Ext.rfl' _)).mono ?_
    rintro e w7 ⟨An, cn, Bn, dn, rfl, hnb, hno, hx7⟩
    obtain ⟨gs, hgs⟩ : ∃ g_, w7.heap.size = g_ := ⟨_, rfl⟩
    have hS := Blk.new w7 68 #[.pointer (some ⟨gd, 0, none⟩), .int .u64 k.hard.term, .int .i64 k.hard.vote, .int .u64 k.snap.index, .int .u64 k.snap.term, .slice An k.snap.state.length cn, .slice Bn k.ents.length dn]
    rw [hgs] at hS
    have hz : Ext w7 (w7.alloc (.cells #[.pointer (some ⟨gd, 0, none⟩), .int .u64 k.hard.term, .int .i64 k.hard.vote, .int .u64 k.snap.index, .int .u64 k.snap.term, .slice An k.snap.state.length cn, .slice Bn k.ents.length dn] 68)) := (Ext.rfl' _).alloc' _
    have hgs6 : w6.heap.size ≤ gs := by rw [← hgs]; exact hx7.size
    have hnb' := (hnb.mono (Y := fun j => (j = gs ∨ j = gd) ∨ X j) (fun j hj h => by
      rcases h with (h | h) | h
      · omega
      · exact .inr h
      · exact .inl h)).ext hz
    have hno' := (hno.mono (Y := fun j => (j = gs ∨ j = gd) ∨ X j) (fun j hj h => by
      rcases h with (h | h) | h
      · omega
      · exact .inr h
      · exact .inl h)).ext hz
    have hD8 := hD5.ext (hx7.trans' hz)
    have hsz8 := (hx7.trans' hz).size
    have hcz : Chg [gd] w (w7.alloc (.cells #[.pointer (some ⟨gd, 0, none⟩), .int .u64 k.hard.term, .int .i64 k.hard.vote, .int .u64 k.snap.index, .int .u64 k.snap.term, .slice An k.snap.state.length cn, .slice Bn k.ents.length dn] 68)) := hcw.trans ((hx7.trans' hz).chg [gd])
    go_wp2
    go_ret2
    try rw [hgs]
    refine .inl ⟨he0, gs, v', An, cn, Bn, dn, rfl, ⟨hD8, ⟨hS, hnb'.mono fun _ _ h => .inl h, hno'.mono fun _ _ h => .inl h⟩, by omega, fun j hj => ?_, hkw, fun j hj => ?_⟩, by omega, hnb'.mono fun _ _ h => .inr h, hno'.mono fun _ _ h => .inr h, hcz, fun j hj => (hn5 j hj).imp id fun h => by omega⟩
    · rcases hn5 j hj with h | h
      · have := hv j h; omega
      · omega
    · rcases hn5 j hj with h | h
      · have := hv j h; have := hcw.size; omega
      · omega
end Go.Proofs.Ytlblgopfdadalaa
