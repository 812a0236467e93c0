/- A part of the proof of 'StoreAll'. -/
import Derived.Test.YtlblgopfdadalaaS21
import Derived.Test.YtlblgopfdadalaaS9
namespace Go.Proofs.Ytlblgopfdadalaa
set_option linter.unusedVariables false
set_option linter.unusedSimpArgs false
set_option linter.unnecessarySimpa false
set_option maxRecDepth 100000
open Go.RowKit
abbrev XS (gs gd : Nat) : Avoid := fun j => j = gs ∨ j = gd
/-- what Save leaves -/
def RetSave (w w' : World) (e : Ending) (gs gd : Nat) (r : Dk × Kp × Int) : Prop :=
  ∃ (v : Value) (As : Option Addr) (cs : Nat) (Ae : Option Addr) (ce : Nat), e = .returned (.int .i64 r.2.2) ∧ StD w' gs gd r.2.1 r.1 v As cs Ae ce ∧ Chg [gs, gd] w w'
set_option maxHeartbeats 12800000 in
theorem save_b (gs gd : Nat) (k : Kp) (d : Dk) (v : Value) (As Ae : Option Addr) (cs ce : Nat) (x : Value) (l : List Rec) (n : Nat) (w : World) (h : StD w gs gd k d v As cs Ae ce) (hks : k.small n) (hx : Enc.Sl reE w (XS gs gd) x l)
    (hl : ∀ r ∈ l, r.wide ∧ r.small) (hn0 : n + l.length ≤ 900) :
    Calls Try.prog 22 #[.pointer (some ⟨gs, 0, none⟩), x] w fun e w' => RetSave w w' e gs gd (save d k l) := by
  have hn : n + l.length ≤ 1000 := by omega
  obtain ⟨Ax, cx, rfl, -, -⟩ := hx.form
  have hD := h.disk
  have hS := h.so
  have hne_ := h.ne
  have hkw := h.wide
  have hgsw : gs < w.heap.size := hS.blk.lt
  have hgdw : gd < w.heap.size := hD.blk.lt
  rcases Bool.eq_false_or_eq_true ((l.length : Int) == 0) with h0 | h0
  · have hl0 : l = [] := List.eq_nil_of_length_eq_zero (by simpa using h0)
    have HS : Hid (save d k l = (d, k, 0)) := if_pos hl0
    rw [HS.out]
    go_enter Try.func22, Try.ntmps22
    go_wp2
    go_ret
    exact ⟨v, As, cs, Ae, ce, rfl, h, Chg.refl _ _⟩
  obtain ⟨nx, hnx⟩ : ∃ nx, kfold k l = nx := ⟨_, rfl⟩
  have HS : Hid (save d k l = ((saveD d l nx).1, if (saveD d l nx).2 = 0 then nx else k, (saveD d l nx).2)) := hide (by unfold save; rw [if_neg (by rintro rfl; simp at h0), hnx])
  obtain ⟨sv, hsv⟩ : ∃ sv, save d k l = sv := ⟨_, rfl⟩
  rw [hsv] at HS ⊢
  clear hsv
  have hnw : nx.wide := by rw [← hnx]; exact Kp.wide.fold l hkw fun r hr => (hl r hr).1
  have hns : nx.small (n + l.length) := by rw [← hnx]; exact Kp.small.fold l hks fun r hr => (hl r hr).2
  have HF := hide (fun W (hxx : Ext w W) => fold_b (XS gs gd) k (.slice As k.snap.state.length cs) (.slice Ae k.ents.length ce) (.slice Ax l.length cx) l n W (fun j hj => Nat.lt_of_lt_of_le (by rcases hj with h | h <;> omega) hxx.size) hkw hks (hS.bs.ext hxx) (hS.es.ext hxx) (hx.ext hxx) hl hn)
  rw [hnx] at HF
  clear hnx
  have b1 := (hS.blk.cell 1).trans rfl
  have b2 := (hS.blk.cell 2).trans rfl
  have b3 := (hS.blk.cell 3).trans rfl
  have b4 := (hS.blk.cell 4).trans rfl
  have b5 := (hS.blk.cell 5).trans rfl
  have b6 := (hS.blk.cell 6).trans rfl
  go_enter Try.func22, Try.ntmps22
  go_wp2_with fail
  refine (HF.out _ (Ext.rfl' _)).mono ?_
  rintro e w2 ⟨An, cn, Bn, dn, rfl, hnb, hno, hx2⟩
  clear b1 b2 b3 b4 b5 b6
  obtain ⟨gn, hgn⟩ : ∃ g_, w2.heap.size = g_ := ⟨_, rfl⟩
  have hN := Blk.new w2 53 #[.int .u64 nx.hard.term, .int .i64 nx.hard.vote, .int .u64 nx.snap.index, .int .u64 nx.snap.term, .slice An nx.snap.state.length cn, .slice Bn nx.ents.length dn]
  rw [hgn] at hN
  have hz : Ext w2 (w2.alloc (.cells #[.int .u64 nx.hard.term, .int .i64 nx.hard.vote, .int .u64 nx.snap.index, .int .u64 nx.snap.term, .slice An nx.snap.state.length cn, .slice Bn nx.ents.length dn] 53)) := (Ext.rfl' _).alloc' _
  have hgnw : w.heap.size ≤ gn := by rw [← hgn]; exact hx2.size
  go_upto_region 6 with fail
  try rw [hgn]
  clear hgn
  generalize (w2.alloc (.cells #[.int .u64 nx.hard.term, .int .i64 nx.hard.vote, .int .u64 nx.snap.index, .int .u64 nx.snap.term, .slice An nx.snap.state.length cn, .slice Bn nx.ents.length dn] 53)) = w3 at *
  have hx3 := hx2.trans' hz
  replace hnb := hnb.ext hz
  have hnen := hno.sl.ext hz
  clear hno hz hx2
  have hxl3 := (slN hx).ext hx3
  go_wp2_with fail
  refine (hasSnap_b (.slice Ax l.length cx) l w3 (by omega) hxl3).mono ?_
  rintro e w4 ⟨rfl, hx4⟩
  replace hN := hN.ext hx4
  replace hnb := hnb.ext hx4
  replace hnen := hnen.ext hx4
  replace hx3 := hx3.trans' hx4
  have hxl := (slN hx).ext hx3
  have hD4 := hD.ext hx3
  have hS4 := hS.ext hx3
  clear hx4 hxl3
  obtain ⟨q, hq⟩ : ∃ q, l.any isSnap = q := ⟨_, rfl⟩
  rw [hq]
  have hgdW : gd < w4.heap.size := hD4.blk.lt
  have hgsW : gs < w4.heap.size := hS4.blk.lt
  have hgnW : gn < w4.heap.size := hN.lt
  have hvd : ∀ j, v.ownBlock = some j → j ≠ gs := h.own
  have hSD : Hid (saveD d l nx = if q = true then d.op (lput (krecs nx)).length (Dk.repl (lput (krecs nx))) id
      else if (d.op (d.b.length + (lput l).length) (Dk.app (lput l)) (Dk.app (lput l))).2 = 0 then (d.op (d.b.length + (lput l).length) (Dk.app (lput l)) (Dk.app (lput l))).1.op 0 Dk.last id
      else d.op (d.b.length + (lput l).length) (Dk.app (lput l)) (Dk.app (lput l))) := hide (by unfold saveD; rw [hq])
  clear hq
  obtain ⟨sd, hsd⟩ : ∃ sd, saveD d l nx = sd := ⟨_, rfl⟩
  rw [hsd] at HS hSD
  clear hsd
  go_upto_if 19 with fail
  go_cut [6] (fun vi wx => ∃ v', vi = .int .i64 sd.2 ∧ DiskAt wx gd v' sd.1 ∧ Chg [gd] w4 wx ∧ ∀ j, v'.ownBlock = some j → v.ownBlock = some j ∨ (w4.heap.size ≤ j ∧ j < wx.heap.size))
  case first =>
    replace hS := hS4
    cases q with
    | true =>
      have hks2 := krecs_small hns hnw (sl_terms hnen)
      have hkl : (krecs nx).length ≤ 1000 := by have := hks2.2; omega
      have hne := slN hnen
      have hnb := hnb.mono (Y := noneAt) fun _ _ h => h.elim
      go_upto_region 8 with fail
      refine Rg.regionT Try.checked.mixed 49 7 (by kernel_rfl) [
        (fun x_ _ => x_ = .pointer (some ⟨gs, 0, none⟩)),
        (fun x_ _ => x_ = .pointer (some ⟨gs, 0, none⟩)),
        (fun x_ _ => x_ = .pointer (some ⟨gs, 0, none⟩)),
        (fun x_ _ => x_ = .pointer (some ⟨gd, 0, none⟩)),
        (fun x_ _ => x_ = .agg #[.int .u64 nx.hard.term, .int .i64 nx.hard.vote, .int .u64 nx.snap.index, .int .u64 nx.snap.term, .slice An nx.snap.state.length cn, .slice Bn nx.ents.length dn]),
        (fun v W => ∃ A c, v = .slice A (krecs nx).length c ∧ Enc.Sl reE W noneAt (.slice A (krecs nx).length c) (krecs nx)),
        (fun v W => Bs W v (lput (krecs nx)) ∧ Off v [gd])] (fun W => Ext w4 W) Ext rfl rfl rfl
        ?st ((Ext.rfl' w4).drew') ?ob ?en
      case st => exact ⟨fun _ _ _ h _ => h, fun _ _ _ h _ => h, fun _ _ _ h _ => h, fun _ _ _ h _ => h, fun _ _ _ h _ => h, fun _ _ _ ⟨a1_, a2_, h1_, h2_⟩ hx => ⟨a1_, a2_, h1_, h2_.ext hx⟩, fun _ _ _ ⟨h1_, h2_⟩ hx => ⟨h1_.ext hx, h2_⟩, trivial⟩
      case ob =>
        refine ⟨Rg.at_run [0] rfl ?_, ?_⟩
        · intro ρ W hR ⟨q0, _⟩
          replace q0 : ρ 0 = .pointer (some ⟨gs, 0, none⟩) := q0
          refine ⟨rfl, ?_⟩
          exact Rg.run_ok (v := .pointer (some ⟨gs, 0, none⟩)) (by simp [execOp, Rg.ev, go_sem, q0]) ⟨rfl, hR, Ext.rfl' _⟩
        refine ⟨Rg.at_run [20] rfl ?_, ?_⟩
        · intro ρ W hR ⟨q20, _⟩
          replace q20 : ρ 20 = .pointer (some ⟨gs, 0, none⟩) := q20
          refine ⟨rfl, ?_⟩
          exact Rg.run_ok (v := .pointer (some ⟨gs, 0, none⟩)) (by simp [execOp, Rg.ev, go_sem, q20]) ⟨rfl, hR, Ext.rfl' _⟩
        refine ⟨Rg.at_run [21] rfl ?_, ?_⟩
        · intro ρ W hR ⟨q21, _⟩
          replace q21 : ρ 21 = .pointer (some ⟨gs, 0, none⟩) := q21
          refine ⟨rfl, ?_⟩
          exact Rg.run_ok (v := .pointer (some ⟨gs, 0, none⟩)) (by simp [execOp, Rg.ev, go_sem, q21]) ⟨rfl, hR, Ext.rfl' _⟩
        refine ⟨Rg.at_run [22] rfl ?_, ?_⟩
        · intro ρ W hR ⟨q22, _⟩
          replace q22 : ρ 22 = .pointer (some ⟨gs, 0, none⟩) := q22
          refine ⟨rfl, ?_⟩
          have c0_ : W.cell? ⟨gs, 0, none⟩ = some (.pointer (some ⟨gd, 0, none⟩)) := ((hS.blk.ext hR).cell 0).trans rfl
          exact Rg.run_ok (v := .pointer (some ⟨gd, 0, none⟩)) (by simp [execOp, Rg.ev, go_sem, q22, c0_]) ⟨rfl, hR, Ext.rfl' _⟩
        refine ⟨Rg.at_run [5] rfl ?_, ?_⟩
        · intro ρ W hR ⟨q5, _⟩
          replace q5 : ρ 5 = .pointer (some ⟨gn, 0, none⟩) := q5
          refine ⟨rfl, ?_⟩
          have c0_ : W.cell? ⟨gn, 0, none⟩ = some (.int .u64 nx.hard.term) := ((hN.ext hR).cell 0).trans rfl
          have c1_ : W.cell? ⟨gn, 1, none⟩ = some (.int .i64 nx.hard.vote) := ((hN.ext hR).cell 1).trans rfl
          have c2_ : W.cell? ⟨gn, 2, none⟩ = some (.int .u64 nx.snap.index) := ((hN.ext hR).cell 2).trans rfl
          have c3_ : W.cell? ⟨gn, 3, none⟩ = some (.int .u64 nx.snap.term) := ((hN.ext hR).cell 3).trans rfl
          have c4_ : W.cell? ⟨gn, 4, none⟩ = some (.slice An nx.snap.state.length cn) := ((hN.ext hR).cell 4).trans rfl
          have c5_ : W.cell? ⟨gn, 5, none⟩ = some (.slice Bn nx.ents.length dn) := ((hN.ext hR).cell 5).trans rfl
          exact Rg.run_ok (v := .agg #[.int .u64 nx.hard.term, .int .i64 nx.hard.vote, .int .u64 nx.snap.index, .int .u64 nx.snap.term, .slice An nx.snap.state.length cn, .slice Bn nx.ents.length dn]) (by simp [execOp, Rg.ev, go_sem, q5, c0_, c1_, c2_, c3_, c4_, c5_]) ⟨rfl, hR, Ext.rfl' _⟩
        refine ⟨Rg.at_run [24] rfl ?_, ?_⟩
        · intro ρ W hR ⟨q24, _⟩
          replace q24 : ρ 24 = .agg #[.int .u64 nx.hard.term, .int .i64 nx.hard.vote, .int .u64 nx.snap.index, .int .u64 nx.snap.term, .slice An nx.snap.state.length cn, .slice Bn nx.ents.length dn] := q24
          refine ⟨rfl, ?_⟩
          refine Rg.enter_fn (args := #[.agg #[.int .u64 nx.hard.term, .int .i64 nx.hard.vote, .int .u64 nx.snap.index, .int .u64 nx.snap.term, .slice An nx.snap.state.length cn, .slice Bn nx.ents.length dn]]) rfl (by simp only [List.map_toArray, List.map_cons, List.map_nil, Rg.ev, q24]) (by kernel_rfl) ?_
          refine (records_b noneAt nx (.slice An nx.snap.state.length cn) (.slice Bn nx.ents.length dn) (n + l.length) W (fun _ h => h.elim) hnw hns (hnb.ext hR) (hne.ext hR) hn).mono ?_
          rintro e_ w9 ⟨m_, A_, c_, hm_, rfl, ho_, hxx⟩
          obtain rfl : m_ = krecs nx := hm_.out
          exact ⟨_, rfl, ⟨_, _, rfl, ho_.sl⟩, hR.trans' hxx, hxx⟩
        refine ⟨Rg.at_run [25] rfl ?_, ?_⟩
        · intro ρ W hR ⟨q25, _⟩
          replace q25 : (fun v W => ∃ A c, v = .slice A (krecs nx).length c ∧ Enc.Sl reE W noneAt (.slice A (krecs nx).length c) (krecs nx)) (ρ 25) W := q25
          refine ⟨rfl, ?_⟩
          obtain ⟨A9, c9, hv9, hl9⟩ := q25
          refine Rg.enter_fn (args := #[(.slice A9 (krecs nx).length c9)]) rfl (by simp only [List.map_toArray, List.map_cons, List.map_nil, Rg.ev, hv9]) (by kernel_rfl) ?_
          refine (lputs_b (.slice A9 (krecs nx).length c9) (krecs nx) W (by omega) hl9 hks2.1).mono ?_
          rintro e_ w9 ⟨m_, A_, c_, hm_, rfl, ha_, hxx⟩
          obtain rfl : m_ = lput (krecs nx) := hm_.out
          exact ⟨_, rfl, ⟨ha_.bs, ha_.off (fun j hj => by have := List.mem_singleton.1 hj; have h1 := hgdW; have h2 := hR.size; omega)⟩, hR.trans' hxx, hxx⟩
        trivial
      case en =>
        intro tm W hR hsz hk
        rw [Rg.fin_eq (ds := [20, 21, 22, 23, 24, 25, 26]) rfl rfl rfl hsz hk]
        have k20 : tm.getD 20 undef = .pointer (some ⟨gs, 0, none⟩) := hk 20
        have k21 : tm.getD 21 undef = .pointer (some ⟨gs, 0, none⟩) := hk 21
        have k22 : tm.getD 22 undef = .pointer (some ⟨gs, 0, none⟩) := hk 22
        have k23 : tm.getD 23 undef = .pointer (some ⟨gd, 0, none⟩) := hk 23
        have k24 : tm.getD 24 undef = .agg #[.int .u64 nx.hard.term, .int .i64 nx.hard.vote, .int .u64 nx.snap.index, .int .u64 nx.snap.term, .slice An nx.snap.state.length cn, .slice Bn nx.ents.length dn] := hk 24
        have k25 : (fun v W => ∃ A c, v = .slice A (krecs nx).length c ∧ Enc.Sl reE W noneAt (.slice A (krecs nx).length c) (krecs nx)) (tm.getD 25 undef) W := hk 25
        have k26 : (fun v W => Bs W v (lput (krecs nx)) ∧ Off v [gd]) (tm.getD 26 undef) W := hk 26
        clear hk hsz
        simp only [Rg.putAll, List.setIfInBounds_toArray, List.set_cons_zero, List.set_cons_succ, k20, k21, k22, k23, k24]
        clear k20
        clear k21
        clear k22
        clear k23
        clear k24
        generalize tm.getD 25 undef = u25 at *
        generalize tm.getD 26 undef = u26 at *
        obtain ⟨hb26, ho26⟩ := k26
        obtain ⟨A26, c26, rfl, -, -, -⟩ := id hb26
        have hll := lput_len (l := krecs nx) fun r hr => (hks2.1 r hr).2
        go_wp2_with fail
        refine (disk_replace gd v (.slice A26 (lput (krecs nx)).length c26) d (lput (krecs nx)) W (hD4.ext hR) hb26 ho26 (by omega)).mono ?_
        rintro e W5 ⟨rfl, v', hd5, hc5, hn5⟩
        go_wp2_with fail
        go_meet
        case rel => exact ⟨v', by rw [hSD.out, if_pos trivial], by rw [hSD.out, if_pos trivial]; exact hd5, (hR.chg [gd]).trans hc5, fun j hj => (hn5 j hj).imp id fun h => by have := hR.size; omega⟩
    | false =>
      go_upto_region 9 with fail
      refine Rg.regionT Try.checked.mixed 49 6 (by kernel_rfl) [
        (fun x_ _ => x_ = .pointer (some ⟨gs, 0, none⟩)),
        (fun x_ _ => x_ = .pointer (some ⟨gs, 0, none⟩)),
        (fun x_ _ => x_ = .pointer (some ⟨gs, 0, none⟩)),
        (fun x_ _ => x_ = .pointer (some ⟨gd, 0, none⟩)),
        (fun x_ _ => x_ = .slice Ax l.length cx),
        (fun v W => Bs W v (lput l) ∧ Off v [gd])] (fun W => Ext w4 W) Ext rfl rfl rfl
        ?st ((Ext.rfl' w4).drew') ?ob ?en
      case st => exact ⟨fun _ _ _ h _ => h, fun _ _ _ h _ => h, fun _ _ _ h _ => h, fun _ _ _ h _ => h, fun _ _ _ h _ => h, fun _ _ _ ⟨h1_, h2_⟩ hx => ⟨h1_.ext hx, h2_⟩, trivial⟩
      case ob =>
        refine ⟨Rg.at_run [0] rfl ?_, ?_⟩
        · intro ρ W hR ⟨q0, _⟩
          replace q0 : ρ 0 = .pointer (some ⟨gs, 0, none⟩) := q0
          refine ⟨rfl, ?_⟩
          exact Rg.run_ok (v := .pointer (some ⟨gs, 0, none⟩)) (by simp [execOp, Rg.ev, go_sem, q0]) ⟨rfl, hR, Ext.rfl' _⟩
        refine ⟨Rg.at_run [28] rfl ?_, ?_⟩
        · intro ρ W hR ⟨q28, _⟩
          replace q28 : ρ 28 = .pointer (some ⟨gs, 0, none⟩) := q28
          refine ⟨rfl, ?_⟩
          exact Rg.run_ok (v := .pointer (some ⟨gs, 0, none⟩)) (by simp [execOp, Rg.ev, go_sem, q28]) ⟨rfl, hR, Ext.rfl' _⟩
        refine ⟨Rg.at_run [29] rfl ?_, ?_⟩
        · intro ρ W hR ⟨q29, _⟩
          replace q29 : ρ 29 = .pointer (some ⟨gs, 0, none⟩) := q29
          refine ⟨rfl, ?_⟩
          exact Rg.run_ok (v := .pointer (some ⟨gs, 0, none⟩)) (by simp [execOp, Rg.ev, go_sem, q29]) ⟨rfl, hR, Ext.rfl' _⟩
        refine ⟨Rg.at_run [30] rfl ?_, ?_⟩
        · intro ρ W hR ⟨q30, _⟩
          replace q30 : ρ 30 = .pointer (some ⟨gs, 0, none⟩) := q30
          refine ⟨rfl, ?_⟩
          have c0_ : W.cell? ⟨gs, 0, none⟩ = some (.pointer (some ⟨gd, 0, none⟩)) := ((hS.blk.ext hR).cell 0).trans rfl
          exact Rg.run_ok (v := .pointer (some ⟨gd, 0, none⟩)) (by simp [execOp, Rg.ev, go_sem, q30, c0_]) ⟨rfl, hR, Ext.rfl' _⟩
        refine ⟨Rg.at_run [1] rfl ?_, ?_⟩
        · intro ρ W hR ⟨q1, _⟩
          replace q1 : ρ 1 = .slice Ax l.length cx := q1
          refine ⟨rfl, ?_⟩
          exact Rg.run_ok (v := .slice Ax l.length cx) (by simp [execOp, Rg.ev, go_sem, q1]) ⟨rfl, hR, Ext.rfl' _⟩
        refine ⟨Rg.at_run [32] rfl ?_, ?_⟩
        · intro ρ W hR ⟨q32, _⟩
          replace q32 : ρ 32 = .slice Ax l.length cx := q32
          refine ⟨rfl, ?_⟩
          refine Rg.enter_fn (args := #[(.slice Ax l.length cx)]) rfl (by simp only [List.map_toArray, List.map_cons, List.map_nil, Rg.ev, q32]) (by kernel_rfl) ?_
          refine (lputs_b (.slice Ax l.length cx) l W (by omega) (hxl.ext hR) hl).mono ?_
          rintro e_ w9 ⟨m_, A_, c_, hm_, rfl, ha_, hxx⟩
          obtain rfl : m_ = lput l := hm_.out
          exact ⟨_, rfl, ⟨ha_.bs, ha_.off (fun j hj => by have := List.mem_singleton.1 hj; have h1 := hgdW; have h2 := hR.size; omega)⟩, hR.trans' hxx, hxx⟩
        trivial
      case en =>
        intro tm W hR hsz hk
        rw [Rg.fin_eq (ds := [28, 29, 30, 31, 32, 33]) rfl rfl rfl hsz hk]
        have k28 : tm.getD 28 undef = .pointer (some ⟨gs, 0, none⟩) := hk 28
        have k29 : tm.getD 29 undef = .pointer (some ⟨gs, 0, none⟩) := hk 29
        have k30 : tm.getD 30 undef = .pointer (some ⟨gs, 0, none⟩) := hk 30
        have k31 : tm.getD 31 undef = .pointer (some ⟨gd, 0, none⟩) := hk 31
        have k32 : tm.getD 32 undef = .slice Ax l.length cx := hk 32
        have k33 : (fun v W => Bs W v (lput l) ∧ Off v [gd]) (tm.getD 33 undef) W := hk 33
        clear hk hsz
        simp only [Rg.putAll, List.setIfInBounds_toArray, List.set_cons_zero, List.set_cons_succ, k28, k29, k30, k31, k32]
        clear k28
        clear k29
        clear k30
        clear k31
        clear k32
        generalize tm.getD 33 undef = u33 at *
        obtain ⟨hb33, ho33⟩ := k33
        obtain ⟨A33, c33, rfl, -, -, -⟩ := id hb33
        have hll := lput_len (l := l) fun r hr => (hl r hr).2
        go_wp2_with fail
        refine (disk_append gd v (.slice A33 (lput l).length c33) d (lput l) W (hD4.ext hR) hb33 ho33 (by omega)).mono ?_
        rintro e W5 ⟨rfl, v', hd5, hc5, hn5⟩
        obtain ⟨⟨d1, e1⟩, hq1⟩ : ∃ r, d.op (d.b.length + (lput l).length) (Dk.app (lput l)) (Dk.app (lput l)) = r := ⟨_, rfl⟩
        rw [hq1] at hSD hd5 ⊢
        have HQ1 := hide hq1
        clear hq1
        simp only at hd5 ⊢
        have hn6 : ∀ j, v'.ownBlock = some j → v.ownBlock = some j ∨ (w4.heap.size ≤ j ∧ j < W5.heap.size) := fun j hj => (hn5 j hj).imp id fun h => by have := hR.size; omega
        rcases Bool.eq_false_or_eq_true (e1 == 0) with he | he
        · have hS5 := (hS.ext hR).chg hc5 hne_
          have b0 := (hS5.blk.cell 0).trans rfl
          have HE : Hid (sd = d1.op 0 Dk.last id) := hide (by rw [hSD.out, if_neg (by simp), if_pos (by simpa using he)])
          go_wp2_with fail
          refine (disk_sync gd v' d1 W5 hd5).mono ?_
          rintro e W6 ⟨rfl, v6, hd6, hc6, hn7⟩
          go_wp2_with fail
          go_meet
          case rel => exact ⟨v6, by rw [HE.out], by rw [HE.out]; exact hd6, ((hR.chg [gd]).trans hc5).trans hc6, fun j hj => by
            rcases hn7 j hj with h | h
            · exact (hn6 j h).imp id fun h => by have h3 := hc6.size; omega
            · have h1 := hR.size; have h2 := hc5.size; exact .inr (by omega)⟩
        · have HE : Hid (sd = (d1, e1)) := hide (by rw [hSD.out, if_neg (by simp), if_neg (by simpa using he)])
          go_wp2_with fail
          go_meet
          case rel => exact ⟨v', by rw [HE.out], by rw [HE.out]; exact hd5, (hR.chg [gd]).trans hc5, hn6⟩
  case rest =>
    obtain ⟨v', rfl, hD5, hc5, hn5⟩ := hcut
    have hN5 := hN.chg hc5 (by simp; omega)
    have hS5 := hS4.chg hc5 hne_
    have hnb5 := hnb.chg hc5 (fun j hj _ => .inl (.inr (List.mem_singleton.1 hj)))
    have hne5 := hnen.chg hc5 (fun j hj _ => .inr (List.mem_singleton.1 hj))
    have hsz5 := hc5.size
    have hv5 : ∀ j, v'.ownBlock = some j → j ≠ gs := fun j hj => by
      rcases hn5 j hj with h | h
      · exact hvd j h
      · omega
    have hvl : ∀ j, v'.ownBlock = some j → j < wc.heap.size := fun j hj => by
      rcases hn5 j hj with h9 | h9
      · have := h.lt j h9; have := hx3.size; omega
      · omega
    have hcw : Chg [gs, gd] w wc := (hx3.chg [gs, gd]).trans (hc5.mono fun j hj => by simp at hj; simp [hj])
    generalize wc = W6 at *
    obtain ⟨d6, e6⟩ := sd
    simp only at hD5 HS ⊢
    rcases Bool.eq_false_or_eq_true (e6 == 0) with he | he
    · have HS2 : Hid (sv = (d6, nx, e6)) := hide (by rw [HS.out, if_pos (by simpa using he)])
      have c0 := (hN5.cell 0).trans rfl
      have c1 := (hN5.cell 1).trans rfl
      have c2 := (hN5.cell 2).trans rfl
      have c3 := (hN5.cell 3).trans rfl
      have c4 := (hN5.cell 4).trans rfl
      have c5 := (hN5.cell 5).trans rfl
      have b1 := (hS5.blk.cell 1).trans rfl
      have b2 := (hS5.blk.cell 2).trans rfl
      have b3 := (hS5.blk.cell 3).trans rfl
      have b4 := (hS5.blk.cell 4).trans rfl
      have b5 := (hS5.blk.cell 5).trans rfl
      have b6 := (hS5.blk.cell 6).trans rfl
      have f1 := hS5.blk.frozen 1
      have f2 := hS5.blk.frozen 2
      have f3 := hS5.blk.frozen 3
      have f4 := hS5.blk.frozen 4
      have f5 := hS5.blk.frozen 5
      have f6 := hS5.blk.frozen 6
      go_wp2_with fail
      go_ret
      rw [HS2.out]
      have hcg : Chg [gs] W6 ((((((W6.setCell ⟨gs, 1, none⟩ (.int .u64 nx.hard.term)).setCell ⟨gs, 2, none⟩ (.int .i64 nx.hard.vote)).setCell ⟨gs, 3, none⟩ (.int .u64 nx.snap.index)).setCell ⟨gs, 4, none⟩ (.int .u64 nx.snap.term)).setCell ⟨gs, 5, none⟩ (.slice An nx.snap.state.length cn)).setCell ⟨gs, 6, none⟩ (.slice Bn nx.ents.length dn)) :=
        ((((((Chg.refl _ _).set (by simp) _).set (by simp) _).set (by simp) _).set (by simp) _).set (by simp) _).set (by simp) _
      refine ⟨v', An, cn, Bn, dn, rfl, ⟨hD5.chg hcg (by simpa using hne_.symm) (Off.of_own fun j hj hm => hv5 j hj (List.mem_singleton.1 hm)), ⟨(((((hS5.blk.set_ 1 _).set_ 2 _).set_ 3 _).set_ 4 _).set_ 5 _).set_ 6 _, (hnb5.chg hcg (fun j hj _ => .inl (.inl (List.mem_singleton.1 hj)))).mono (fun j _ h => .inl h), hne5.chg hcg (fun j hj _ => .inl (List.mem_singleton.1 hj))⟩, hne_, hv5, hnw, fun j hj => Nat.lt_of_lt_of_le (hvl j hj) hcg.size⟩, hcw.trans (hcg.mono fun j hj => by simp at hj; simp [hj])⟩
    · have HS2 : Hid (sv = (d6, k, e6)) := hide (by rw [HS.out, if_neg (by simpa using he)])
      go_wp2
      go_ret
      rw [HS2.out]
      exact ⟨v', As, cs, Ae, ce, rfl, ⟨hD5, hS5, hne_, hv5, hkw, hvl⟩, hcw⟩
end Go.Proofs.Ytlblgopfdadalaa
namespace Go.Proofs.Ytlblgopfdadalaa
set_option linter.unusedVariables false
set_option linter.unusedSimpArgs false
set_option linter.unnecessarySimpa false
set_option maxRecDepth 100000
open Go.RowKit
theorem results_tct {P : Program} {fn : Func} {p u x : Tmp} {ty : TypeId} (h : fn.results = #[.tmp p, .cell u ty, .tmp x]) (tmps : Array Value) (w : World) (g : Nat) (t : TypeId) (cs : Array Value) (fr : Nat × Nat) (d : TypeDesc)
    (hp : tmps.getD u undef = .pointer (some ⟨g, 0, none⟩)) (hg : w.heap[g]? = some (.cells cs t fr))
    (hu : P.underlying ty = some d) (hd : (match d with | .struct _ | .array _ _ => true | _ => false) = true) (hi : (P.info? ty).map (·.size) = some cs.size) :
    (results fn tmps).run P w = .ok (.tuple #[tmps.getD p undef, .agg cs, tmps.getD x undef]) w := by
  have hp' : tmps[u]?.getD undef = .pointer (some ⟨g, 0, none⟩) := by simpa using hp
  simp only [results, h]
  simp [Sem.run_bind, hp', asAddr, run_loadVar_row w g t ty cs fr d hg hu hd hi]
theorem bsx_apart {w : World} {X : Avoid} {v : Value} {l : Bytes} {g : Nat} {T : TypeId} {cs : Array Value} (h : Enc.BsX w X v l) (hB : Blk w g T cs) (hn : ∀ (j : Nat) (x : Int), cs[j]? ≠ some (.int .u8 x)) : Enc.BsX w (fun j => X j ∨ j = g) v l := by
  refine ⟨h.1, fun ad n c he h0 hx => hx.elim (h.2 ad n c he h0) fun hg => ?_⟩
  subst he
  obtain ⟨hnl, -, -, hr⟩ := h.1.inv
  obtain ⟨ad', y, had, -, -, hc, -⟩ := Reads.byte hr (k := 0) (by omega)
  obtain rfl := Option.some.inj had
  have e0 : ad.add 0 = ad := by unfold Addr.add; simp
  rw [e0] at hc
  unfold World.cell? at hc
  unfold Blk at hB
  rw [hg, hB] at hc
  simp only at hc
  split at hc
  · cases hc
  · exact hn _ _ hc
theorem re_apart {w : World} {X : Avoid} {cs : List Value} {r : Rec} {g : Nat} {T : TypeId} {c : Array Value} (h : reE.rep w X cs r) (hB : Blk w g T c) (hn : ∀ (j : Nat) (x : Int), c[j]? ≠ some (.int .u8 x)) : reE.rep w (fun j => X j ∨ j = g) cs r := by
  obtain ⟨v1, v2, e, h1, h2, h3⟩ := re_rep.1 h
  exact re_rep.2 ⟨v1, v2, e, h1, bsx_apart h2 hB hn, bsx_apart h3 hB hn⟩
theorem slre_apart {w0 w : World} {X : Avoid} {v : Value} {l : List Rec} {g : Nat} {T : TypeId} {c : Array Value} (h : Own 101 reE w0 w X v l) (hB : Blk w g T c) (hT : 101 ≠ T) (hn : ∀ (j : Nat) (x : Int), c[j]? ≠ some (.int .u8 x)) : Own 101 reE w0 w (fun j => X j ∨ j = g) v l := by
  obtain ⟨css, h1, h2, h3⟩ := h
  refine ⟨css, h1, ⟨h2.1, fun k cs a e1 e2 => ?_⟩, fun k hk hx => hx.elim (h3 k hk) fun hg => own_blk_ne h1 hB hT (hg ▸ hk)⟩
  have h4 := re_apart (h2.2 k cs a e1 e2) hB hn
  exact reE.mono h4 fun j _ hj => by
    rcases hj with (hj | hj) | hj
    · exact .inl (.inl hj)
    · exact .inr hj
    · exact .inl (.inr hj)
theorem slen_apart {w0 w : World} {X : Avoid} {v : Value} {l : List En} {g : Nat} {T : TypeId} {c : Array Value} (h : Own 74 enE w0 w X v l) (hB : Blk w g T c) (hT : 74 ≠ T) (hn : ∀ (j : Nat) (x : Int), c[j]? ≠ some (.int .u8 x)) : Own 74 enE w0 w (fun j => X j ∨ j = g) v l := by
  obtain ⟨css, h1, h2, h3⟩ := h
  refine ⟨css, h1, ⟨h2.1, fun k cs a e1 e2 => ?_⟩, fun k hk hx => hx.elim (h3 k hk) fun hg => own_blk_ne h1 hB hT (hg ▸ hk)⟩
  obtain ⟨v1, e, h5, h6⟩ := en_rep.1 (h2.2 k cs a e1 e2)
  refine en_rep.2 ⟨v1, e, h5, (bsx_apart h6 hB hn).mono fun j _ hj => ?_⟩
  rcases hj with (hj | hj) | hj
  · exact .inl (.inl hj)
  · exact .inr hj
  · exact .inl (.inr hj)
theorem dcells_no8 (v : Value) (d : Dk) (hv : ∀ x, v ≠ .int .u8 x) : ∀ (j : Nat) (x : Int), (dcells v d)[j]? ≠ some (.int .u8 x) := by
  intro j x h
  rcases j with _ | _ | _ | _ | _ | _ | j <;> simp [dcells] at h
  exact hv x h
theorem zKept_no8 : ∀ (j : Nat) (x : Int), (#[.int .u64 0, .int .i64 0, .int .u64 0, .int .u64 0, .slice none 0 0, .slice none 0 0] : Array Value)[j]? ≠ some (.int .u8 x) := by
  intro j x h
  rcases j with _ | _ | _ | _ | _ | _ | j <;> simp at h
def openD (d : Dk) : Dk × Int := if (scan d.b).2 < d.b.length then d.op (lput (scan d.b).1).length (Dk.repl (lput (scan d.b).1)) id else (d, 0)
abbrev zKept : Array Value := #[.int .u64 0, .int .i64 0, .int .u64 0, .int .u64 0, .slice none 0 0, .slice none 0 0]
/-- what Open leaves -/
def RetOpen (w w' : World) (e : Ending) (gd : Nat) (d : Dk) (k : Kp) (er : Int) : Prop :=
  (er = 0 ∧ ∃ (gs : Nat) (v : Value) (As : Option Addr) (cs : Nat) (Ae : Option Addr) (ce : Nat) (Am : Option Addr) (cm : Nat) (Bm : Option Addr) (dm : Nat), e = .returned (.tuple #[.pointer (some ⟨gs, 0, none⟩), .agg #[.int .u64 k.hard.term, .int .i64 k.hard.vote, .int .u64 k.snap.index, .int .u64 k.snap.term, .slice Am k.snap.state.length cm, .slice Bm k.ents.length dm], .int .i64 0]) ∧
    StD w' gs gd k d v As cs Ae ce ∧ w.heap.size ≤ gs ∧ Bs w' (.slice Am k.snap.state.length cm) k.snap.state ∧ Enc.Sl enE w' noneAt (.slice Bm k.ents.length dm) k.ents ∧ Chg [gd] w w') ∨
  (er ≠ 0 ∧ e = .returned (.tuple #[.pointer none, .agg zKept, .int .i64 er]) ∧ ∃ v, DiskAt w' gd v d ∧ Chg [gd] w w')
/-- what Open leaves; the answer lies apart of the store and its disk -/
def RetOpen2 (w w' : World) (e : Ending) (gd : Nat) (d : Dk) (k : Kp) (er : Int) : Prop :=
  (er = 0 ∧ ∃ (gs : Nat) (v : Value) (As : Option Addr) (cs : Nat) (Ae : Option Addr) (ce : Nat) (Am : Option Addr) (cm : Nat) (Bm : Option Addr) (dm : Nat), e = .returned (.tuple #[.pointer (some ⟨gs, 0, none⟩), .agg #[.int .u64 k.hard.term, .int .i64 k.hard.vote, .int .u64 k.snap.index, .int .u64 k.snap.term, .slice Am k.snap.state.length cm, .slice Bm k.ents.length dm], .int .i64 0]) ∧
    StD w' gs gd k d v As cs Ae ce ∧ w.heap.size ≤ gs ∧ Enc.BsX w' (XS gs gd) (.slice Am k.snap.state.length cm) k.snap.state ∧ Enc.Sl enE w' (XS gs gd) (.slice Bm k.ents.length dm) k.ents ∧ Chg [gd] w w') ∨
  (er ≠ 0 ∧ e = .returned (.tuple #[.pointer none, .agg zKept, .int .i64 er]) ∧ ∃ v, DiskAt w' gd v d ∧ Chg [gd] w w')
set_option maxHeartbeats 12800000 in
theorem open2_b (gd : Nat) (v : Value) (d : Dk) (n : Nat) (w : World) (hD : DiskAt w gd v d) (hde : d.de = false) (hv : ∀ j, v.ownBlock = some j → j < w.heap.size) (hs : ∀ r ∈ (scan d.b).1, r.small) (hn : (scan d.b).1.length ≤ n) (hn2 : n ≤ 900) (hbl : d.b.length ≤ 100000) :
    Calls Try.prog 17 #[.pointer (some ⟨gd, 0, none⟩)] w fun e w' => RetOpen2 w w' e gd (openD d).1 (kfold Kp0 (scan d.b).1) (openD d).2 := by
  have hR_ := Blk.new w 53 zKept
  have hxw : Ext w (w.alloc (.cells zKept 53)) := (Ext.rfl' _).alloc' _
  obtain ⟨g, hg⟩ : ∃ g, w.heap.size = g := ⟨_, rfl⟩
  rw [hg] at hR_
  have hgdg : gd < g := by rw [← hg]; exact hD.blk.lt
  obtain ⟨od, hod⟩ : ∃ q, openD d = q := ⟨_, rfl⟩
  rw [hod]
  have HOD := hide hod
  clear hod
  obtain ⟨k, hk⟩ : ∃ k, kfold Kp0 (scan d.b).1 = k := ⟨_, rfl⟩
  rw [hk]
  have HK := hide hk
  clear hk
  go_enter Try.func17, Try.ntmps17
  go_upto_region 1 with fail
  generalize w.alloc (.cells zKept 53) = w1 at *
  try rw [hg]
  have hr1 := hR_.lt
  have hD1 := hD.ext hxw
  go_wp2_with fail
  refine (disk_read gd v d w1 hD1 hde).mono ?_
  rintro e w2 ⟨y, rfl, hy, hx2⟩
  obtain ⟨Ay, cy, rfl, -, -, -⟩ := id hy.bs
  go_wp2_with fail
  refine (scan_b (.slice Ay d.b.length cy) d.b w2 hbl hy.bs).mono ?_
  rintro e w3 ⟨l, Al, cl, m, hlm, rfl, hlo, hx3⟩
  have hl1 : l = (scan d.b).1 := congrArg Prod.fst hlm.out
  have hm1 : m = (scan d.b).2 := congrArg Prod.snd hlm.out
  have hls : ∀ r ∈ l, r.wide ∧ r.small := fun r hr => ⟨Sl.wides hlo.sl r hr, hs r (by rw [← hl1]; exact hr)⟩
  have hln : l.length ≤ n := by rw [hl1]; exact hn
  have HOD2 : Hid (od = if m < d.b.length then d.op (lput l).length (Dk.repl (lput l)) id else (d, 0)) := hide (by rw [← HOD.out, hl1, hm1]; rfl)
  have HK2 : Hid (kfold Kp0 l = k) := hide (by rw [← HK.out, hl1])
  clear hl1 hm1
  have hx13 := hx2.trans' hx3
  have hD3 := hD1.ext hx13
  have hsz3 := hx13.size
  have hsl := hlo.sl
  have hlow : ∀ j, (Value.slice Al l.length cl).ownBlock = some j → w1.heap.size ≤ j := fun j hj => by have := (hlo.lt j hj).1; have := hx2.size; omega
  have hR3 := hR_.ext hx13
  have hvs : ∀ x, v ≠ .int .u8 x := fun x hv => by obtain ⟨A, c, e, -⟩ := hD.bs; rw [e] at hv; cases hv
  have hslX : Enc.Sl reE w3 (fun j => (noneAt j ∨ j = gd) ∨ j = g) (.slice Al l.length cl) l := (slre_apart (slre_apart hlo hD3.blk (by decide) (dcells_no8 v d hvs)) hR3 (by decide) zKept_no8).sl
  have hgg : g < w1.heap.size := hr1
  go_upto_if 31 with fail
  go_cut [] (fun wx => ∃ v', od.2 = 0 ∧ DiskAt wx gd v' od.1 ∧ Chg [gd] w3 wx ∧ ∀ j, v'.ownBlock = some j → v.ownBlock = some j ∨ (w3.heap.size ≤ j ∧ j < wx.heap.size))
  case first =>
    by_cases hlt : (m : Int) < d.b.length
    · have HO : Hid (od = d.op (lput l).length (Dk.repl (lput l)) id) := hide (by rw [HOD2.out, if_pos (by omega)])
      go_wp2_with fail
      refine (lputs_b (.slice Al l.length cl) l w3 (by omega) hsl hls).mono ?_
      rintro e w4 ⟨m2, A2, c2, hm2, rfl, ha2, hx4⟩
      obtain rfl : m2 = lput l := hm2.out
      have hll := lput_len (l := l) fun r hr => (hls r hr).2
      go_wp2_with fail
      refine (disk_replace gd v (.slice A2 (lput l).length c2) d (lput l) w4 (hD3.ext hx4) ha2.bs (ha2.off (fun j hj => by have := List.mem_singleton.1 hj; omega)) (by omega)).mono ?_
      rintro e w5 ⟨rfl, v', hd5, hc5, hn5⟩
      rw [← HO.out] at hd5 ⊢
      have hn6 : ∀ j, v'.ownBlock = some j → v.ownBlock = some j ∨ (w3.heap.size ≤ j ∧ j < w5.heap.size) := fun j hj => (hn5 j hj).imp id fun h => by have := hx4.size; omega
      rcases Bool.eq_false_or_eq_true (od.2 == 0) with he | he
      · go_wp2_with fail
        go_meet
        case rel => exact ⟨v', by simpa using he, hd5, (hx4.chg _).trans hc5, hn6⟩
      · have hR5 := (hR3.ext hx4).chg hc5 (by simp; omega)
        have r0 := (hR5.cell 0).trans rfl
        have f0 := hR5.frozen 0
        have r1 := (hR5.cell 1).trans rfl
        have f1 := hR5.frozen 1
        have r2 := (hR5.cell 2).trans rfl
        have f2 := hR5.frozen 2
        have r3 := (hR5.cell 3).trans rfl
        have f3 := hR5.frozen 3
        have r4 := (hR5.cell 4).trans rfl
        have f4 := hR5.frozen 4
        have r5 := (hR5.cell 5).trans rfl
        have f5 := hR5.frozen 5
        go_wp2
        try simp only [Exit.inBlock, Exit.then]
        refine bodyPost_ret (results_tct rfl _ _ g 53 zKept (0, 0) _ rfl (Blk.sixK hR5 (.int .u64 0) (.int .i64 0) (.int .u64 0) (.int .u64 0) (.slice none 0 0) (.slice none 0 0)) Try.underlying53 rfl (by kernel_rfl)) rfl ?_
        have hcf : Chg [g] w5 _ := (Chg.refl [g] w5).sixK (g := g) (by simp) (.int .u64 0) (.int .i64 0) (.int .u64 0) (.int .u64 0) (.slice none 0 0) (.slice none 0 0)
        exact .inr ⟨by simpa using he, rfl, v', hd5.chg hcf (by simp; omega) (Off.of_own fun j hj hm => by have := List.mem_singleton.1 hm; rcases hn6 j hj with h | h; (have := hv j h; omega); omega), ((((hxw.trans' hx13).trans' hx4).chg [gd]).trans hc5).then_new hcf (by simp; omega)⟩
    · have HO : Hid (od = (d, 0)) := hide (by rw [HOD2.out, if_neg (by omega)])
      go_wp2_with fail
      go_meet
      case rel => exact ⟨v, by rw [HO.out], by rw [HO.out]; exact hD3, Chg.refl _ _, fun j hj => .inl hj⟩
  case rest =>
    obtain ⟨v', he0, hD5, hc5, hn5⟩ := hcut
    have hR5 := hR3.chg hc5 (by simp; omega)
    have hsl5 := (hslX.chg hc5 (fun j hj _ => .inl (.inr (List.mem_singleton.1 hj)))).mono (Y := fun j => j = gd ∨ j = g) (fun j _ h => h.elim (fun h => .inl (.inr h)) .inr)
    have hcw : Chg [gd] w wc := ((hxw.trans' hx13).chg [gd]).trans hc5
    have hsz5 := hc5.size
    have hv5 : ∀ j, v'.ownBlock = some j → j < w.heap.size ∨ (w3.heap.size ≤ j ∧ j < wc.heap.size) := fun j hj => (hn5 j hj).imp (hv j) id
    generalize wc = w6 at *
    have hF := hide (fun W (hx : Ext w6 W) => fold_b (fun j => j = gd ∨ j = g) Kp0 (.slice none 0 0) (.slice none 0 0) (.slice Al l.length cl) l 0 W (fun j hj => by have := hx.size; rcases hj with h | h <;> omega) Kp0.wide_ Kp0.small_ (Enc.BsX.nil _ _) (Enc.Sl.nil _ _ _) (hsl5.ext hx) hls (by omega))
    rw [HK2.out] at hF
    have hkw : k.wide := by rw [← HK2.out]; exact Kp.wide.fold l Kp0.wide_ fun r hr => (hls r hr).1
    have hks : k.small n := by rw [← HK2.out]; exact (Kp.small.fold l Kp0.small_ fun r hr => (hls r hr).2).mono (by omega)
    go_wp2_with fail
    refine (hF.out _ (Ext.rfl' _)).mono ?_
    rintro e w7 ⟨An, cn, Bn, dn, rfl, hnb, hno, hx7⟩
    obtain ⟨gs, hgs⟩ : ∃ g_, w7.heap.size = g_ := ⟨_, rfl⟩
    have hS := Blk.new w7 113 #[.pointer (some ⟨gd, 0, none⟩), .int .u64 k.hard.term, .int .i64 k.hard.vote, .int .u64 k.snap.index, .int .u64 k.snap.term, .slice An k.snap.state.length cn, .slice Bn k.ents.length dn]
    rw [hgs] at hS
    have hz : Ext w7 (w7.alloc (.cells #[.pointer (some ⟨gd, 0, none⟩), .int .u64 k.hard.term, .int .i64 k.hard.vote, .int .u64 k.snap.index, .int .u64 k.snap.term, .slice An k.snap.state.length cn, .slice Bn k.ents.length dn] 113)) := (Ext.rfl' _).alloc' _
    have hgs6 : w6.heap.size ≤ gs := by rw [← hgs]; exact hx7.size
    have hnb' := (hnb.mono (Y := fun j => (j = gs ∨ j = gd) ∨ j = g) (fun j hj h => by
      rcases h with (h | h) | h
      · omega
      · exact .inl (.inl h)
      · exact .inl (.inr h))).ext hz
    have hno' := (hno.sl.mono (Y := fun j => (j = gs ∨ j = gd) ∨ j = g) (fun j hj h => by
      rcases h with (h | h) | h
      · omega
      · exact .inl h
      · exact .inr h)).ext hz
    go_upto_region 12 with fail
    try rw [hgs]
    generalize (w7.alloc (.cells #[.pointer (some ⟨gd, 0, none⟩), .int .u64 k.hard.term, .int .i64 k.hard.vote, .int .u64 k.snap.index, .int .u64 k.snap.term, .slice An k.snap.state.length cn, .slice Bn k.ents.length dn] 113)) = w8 at *
    have hx8 := hx7.trans' hz
    have hSo : SoAt w8 gs gd k An cn Bn dn := ⟨hS, hnb'.mono fun _ _ h => .inl h, hno'.mono fun _ _ h => .inl h⟩
    have hD8 := hD5.ext hx8
    have hgd8 : gd < w8.heap.size := hD8.blk.lt
    go_wp2_with fail
    refine (kept_b gs gd k An Bn cn dn n w8 hSo hkw hks (by omega) hgd8).mono ?_
    rintro e w9 ⟨Am, cm, Bm, dm, rfl, hmb, hmo, hx9⟩
    have hR9 := hR5.ext (hx8.trans' hx9)
    have r0 := (hR9.cell 0).trans rfl
    have r1 := (hR9.cell 1).trans rfl
    have r2 := (hR9.cell 2).trans rfl
    have r3 := (hR9.cell 3).trans rfl
    have r4 := (hR9.cell 4).trans rfl
    have r5 := (hR9.cell 5).trans rfl
    have f0 := hR9.frozen 0
    have f1 := hR9.frozen 1
    have f2 := hR9.frozen 2
    have f3 := hR9.frozen 3
    have f4 := hR9.frozen 4
    have f5 := hR9.frozen 5
    go_wp2
    try simp only [Exit.inBlock, Exit.then]
    have hcf : Chg [g] w9 _ := (Chg.refl [g] w9).sixK (g := g) (by simp) (.int .u64 k.hard.term) (.int .i64 k.hard.vote) (.int .u64 k.snap.index) (.int .u64 k.snap.term) (.slice Am k.snap.state.length cm) (.slice Bm k.ents.length dm)
    refine bodyPost_ret (results_tct rfl _ _ g 53 #[.int .u64 k.hard.term, .int .i64 k.hard.vote, .int .u64 k.snap.index, .int .u64 k.snap.term, .slice Am k.snap.state.length cm, .slice Bm k.ents.length dm] (0, 0) _ rfl (Blk.sixK hR9 _ _ _ _ _ _) Try.underlying53 rfl (by kernel_rfl)) rfl ?_
    have hsz9 := (hx8.trans' hx9).size
    have hvg : ∀ j, v'.ownBlock = some j → j ≠ g ∧ j ≠ gs := fun j hj => by
      rcases hv5 j hj with h | h
      · omega
      · omega
    refine .inl ⟨he0, gs, v', An, cn, Bn, dn, Am, cm, Bm, dm, rfl, ⟨(hD8.ext hx9).chg hcf (by simp; omega) (Off.of_own fun j hj hm => (hvg j hj).1 (List.mem_singleton.1 hm)), ⟨(hSo.blk.ext hx9).chg hcf (by simp; omega), ((hnb'.ext hx9).chg hcf (fun j hj _ => .inr (List.mem_singleton.1 hj))).mono (fun j _ h => .inl h), ((hno'.ext hx9).chg hcf (fun j hj _ => .inr (List.mem_singleton.1 hj))).mono (fun j _ h => .inl h)⟩, by omega, fun j hj => (hvg j hj).2, hkw, fun j hj => by have := hcf.size; rcases hv5 j hj with h | h <;> omega⟩, by omega, ?_, ?_, ?_⟩
    · exact ((bsx_apart hmb hR9 zKept_no8).chg hcf (fun j hj _ => .inr (List.mem_singleton.1 hj))).mono (fun j _ h => .inl (.inl h))
    · exact ((slen_apart hmo hR9 (by decide) zKept_no8).sl.chg hcf (fun j hj _ => .inr (List.mem_singleton.1 hj))).mono (fun j _ h => .inl h)
    · exact (hcw.trans ((hx8.trans' hx9).chg [gd])).then_new hcf (by simp; omega)
theorem open_b (gd : Nat) (v : Value) (d : Dk) (n : Nat) (w : World) (hD : DiskAt w gd v d) (hde : d.de = false) (hv : ∀ j, v.ownBlock = some j → j < w.heap.size) (hs : ∀ r ∈ (scan d.b).1, r.small) (hn : (scan d.b).1.length ≤ n) (hn2 : n ≤ 900) (hbl : d.b.length ≤ 100000) :
    Calls Try.prog 17 #[.pointer (some ⟨gd, 0, none⟩)] w fun e w' => RetOpen w w' e gd (openD d).1 (kfold Kp0 (scan d.b).1) (openD d).2 := by
  refine (open2_b gd v d n w hD hde hv hs hn hn2 hbl).mono ?_
  rintro e w' (⟨h1, gs, v', As, cs, Ae, ce, Am, cm, Bm, dm, h2, h3, h4, h5, h6, h7⟩ | h)
  · exact .inl ⟨h1, gs, v', As, cs, Ae, ce, Am, cm, Bm, dm, h2, h3, h4, h5.1, slN h6, h7⟩
  · exact .inr h
end Go.Proofs.Ytlblgopfdadalaa
