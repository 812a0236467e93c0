/- A part of the proof of 'StoreAll'. -/
import Derived.Test.YtlblgopfdadalaaS22
import Derived.Test.YtlblgopfdadalaaS15
import Derived.Test.YtlblgopfdadalaaS6
namespace Go.Proofs.Ytlblgopfdadalaa
set_option linter.unusedVariables false
set_option linter.unusedSimpArgs false
set_option linter.unnecessarySimpa false
set_option maxRecDepth 100000
open Go.RowKit
theorem bsx_or {w : World} {X Y : Avoid} {v : Value} {l : Bytes} (h : Enc.BsX w X v l) (k : Enc.BsX w Y v l) : Enc.BsX w (fun j => X j ∨ Y j) v l := ⟨h.1, fun ad n c he h0 hx => hx.elim (h.2 ad n c he h0) (k.2 ad n c he h0)⟩
theorem en_or {w : World} {X Y : Avoid} {cs : List Value} {e : En} (h : enE.rep w X cs e) (k : enE.rep w Y cs e) : enE.rep w (fun j => X j ∨ Y j) cs e := by
  obtain ⟨v, rfl, h1, h2⟩ := en_rep.1 h
  obtain ⟨v', he, -, h3⟩ := en_rep.1 k
  obtain rfl : v = v' := by simpa [encells] using he
  exact en_rep.2 ⟨v, rfl, h1, bsx_or h2 h3⟩
theorem reads_det {w : World} {B n s : Nat} {A : Option Addr} {xs ys : List Value} (h : Reads w B s A n xs) (k : Reads w B s A n ys) : xs = ys := by
  apply List.ext_getElem? 
  intro j
  by_cases hj : j < xs.length
  · have hn : 0 < n := by
      rcases Nat.eq_zero_or_pos n with h0 | h0
      · have := h.1; rw [h0, Nat.zero_mul] at this; omega
      · exact h0
    obtain ⟨ad, rfl, -, h1⟩ := h.2 hn
    obtain ⟨ad', he, -, h2⟩ := k.2 hn
    obtain rfl := Option.some.inj he
    have hjy : j < ys.length := by rw [k.1, ← h.1]; exact hj
    have e1 := h1 j _ (List.getElem?_eq_getElem hj)
    have e2 := h2 j _ (List.getElem?_eq_getElem hjy)
    rw [List.getElem?_eq_getElem hj, List.getElem?_eq_getElem hjy, ← Option.some.inj (e1.symm.trans e2)]
  · have hjy : ¬ j < ys.length := by rw [k.1, ← h.1]; exact hj
    rw [List.getElem?_eq_none (by omega), List.getElem?_eq_none (by omega)]
theorem flat_inj {s : Nat} (hs : 0 < s) : ∀ (a b : List (List Value)), (∀ c ∈ a, c.length = s) → (∀ c ∈ b, c.length = s) → a.flatten = b.flatten → a = b
  | [], [], _, _, _ => rfl
  | [], d :: b, _, hb, h => by have := congrArg List.length h; simp [hb d List.mem_cons_self] at this; omega
  | c :: a, [], ha, _, h => by have := congrArg List.length h; simp [ha c List.mem_cons_self] at this; omega
  | c :: a, d :: b, ha, hb, h => by
    rw [List.flatten_cons, List.flatten_cons] at h
    obtain ⟨h1, h2⟩ := List.append_inj h (by rw [ha c List.mem_cons_self, hb d List.mem_cons_self])
    rw [h1, flat_inj hs a b (fun x hx => ha x (List.mem_cons_of_mem _ hx)) (fun x hx => hb x (List.mem_cons_of_mem _ hx)) h2]
theorem sl_or {w : World} {X Y : Avoid} {v : Value} {l : List En} (h : Enc.Sl enE w X v l) (k : Enc.Sl enE w Y v l) : Enc.Sl enE w (fun j => X j ∨ Y j) v l := by
  obtain ⟨A, c, css, rfl, h1, h2, h3, h4, h5⟩ := h
  obtain ⟨A', c', css', he, k1, k2, k3, k4, k5⟩ := k
  simp only [Value.slice.injEq, true_and] at he
  obtain ⟨rfl, rfl⟩ := he
  obtain rfl : css = css' := flat_inj (s := enE.size) (by decide) _ _ h5.lens k5.lens (reads_det h3 k3)
  exact ⟨A, c, css, rfl, h1, h2, h3, fun ad ha h0 hx => hx.elim (h4 ad ha h0) (k4 ad ha h0), h5.1, fun i cs a hi ha => en_or (h5.2 i cs a hi ha) (k5.2 i cs a hi ha)⟩
/-- what Save leaves -/
def RetSaveX (X : Avoid) (w w' : World) (e : Ending) (gs gd : Nat) (r : Dk × Kp × Int) : Prop :=
  ∃ (v : Value) (As : Option Addr) (cs : Nat) (Ae : Option Addr) (ce : Nat), e = .returned (.int .i64 r.2.2) ∧ StD w' gs gd r.2.1 r.1 v As cs Ae ce ∧ Chg [gs, gd] w w' ∧ Enc.BsX w' X (.slice As r.2.1.snap.state.length cs) r.2.1.snap.state ∧
    Enc.Sl enE w' X (.slice Ae r.2.1.ents.length ce) r.2.1.ents ∧ ∀ j, v.ownBlock = some j → ¬ X j
set_option maxHeartbeats 12800000 in
theorem saveX_b (X : Avoid) (gs gd : Nat) (k : Kp) (d : Dk) (v : Value) (As Ae : Option Addr) (cs ce : Nat) (x : Value) (l : List Rec) (n : Nat) (w : World) (h : StD w gs gd k d v As cs Ae ce) (hX : ∀ j, X j → j < w.heap.size) (hsX : Enc.BsX w X (.slice As k.snap.state.length cs) k.snap.state) (heX : Enc.Sl enE w X (.slice Ae k.ents.length ce) k.ents) (hvX : ∀ j, v.ownBlock = some j → ¬ X j) (hks : k.small n) (hx : Enc.Sl reE w (fun j => XS gs gd j ∨ X j) x l)
    (hl : ∀ r ∈ l, r.wide ∧ r.small) (hn0 : n + l.length ≤ 900) :
    Calls Try.prog 22 #[.pointer (some ⟨gs, 0, none⟩), x] w fun e w' => RetSaveX X w w' e gs gd (save d k l) := by
  have hn : n + l.length ≤ 1000 := by omega
  obtain ⟨Ax, cx, rfl, -, -⟩ := hx.form
  have hD := h.disk
  have hS := h.so
  have hne_ := h.ne
  have hkw := h.wide
  have hgsw : gs < w.heap.size := hS.blk.lt
  have hgdw : gd < w.heap.size := hD.blk.lt
  rcases Bool.eq_false_or_eq_true ((l.length : Int) == 0) with h0 | h0
  · have hl0 : l = [] := List.eq_nil_of_length_eq_zero (by simpa using h0)
    have HS : Hid (save d k l = (d, k, 0)) := if_pos hl0
    rw [HS.out]
    go_enter Try.func22, Try.ntmps22
    go_wp2
    go_ret
    exact ⟨v, As, cs, Ae, ce, rfl, h, Chg.refl _ _, hsX, heX, hvX⟩
  obtain ⟨nx, hnx⟩ : ∃ nx, kfold k l = nx := ⟨_, rfl⟩
  have HS : Hid (save d k l = ((saveD d l nx).1, if (saveD d l nx).2 = 0 then nx else k, (saveD d l nx).2)) := hide (by unfold save; rw [if_neg (by rintro rfl; simp at h0), hnx])
  obtain ⟨sv, hsv⟩ : ∃ sv, save d k l = sv := ⟨_, rfl⟩
  rw [hsv] at HS ⊢
  clear hsv
  have hnw : nx.wide := by rw [← hnx]; exact Kp.wide.fold l hkw fun r hr => (hl r hr).1
  have hns : nx.small (n + l.length) := by rw [← hnx]; exact Kp.small.fold l hks fun r hr => (hl r hr).2
  have HF := hide (fun W (hxx : Ext w W) => fold_b (fun j => XS gs gd j ∨ X j) k (.slice As k.snap.state.length cs) (.slice Ae k.ents.length ce) (.slice Ax l.length cx) l n W (fun j hj => Nat.lt_of_lt_of_le (hj.elim (fun h => by rcases h with h | h <;> omega) (hX j)) hxx.size) hkw hks ((bsx_or hS.bs hsX).ext hxx) ((sl_or hS.es heX).ext hxx) (hx.ext hxx) hl hn)
  rw [hnx] at HF
  clear hnx
  have b1 := (hS.blk.cell 1).trans rfl
  have b2 := (hS.blk.cell 2).trans rfl
  have b3 := (hS.blk.cell 3).trans rfl
  have b4 := (hS.blk.cell 4).trans rfl
  have b5 := (hS.blk.cell 5).trans rfl
  have b6 := (hS.blk.cell 6).trans rfl
  go_enter Try.func22, Try.ntmps22
  go_wp2_with fail
  refine (HF.out _ (Ext.rfl' _)).mono ?_
  rintro e w2 ⟨An, cn, Bn, dn, rfl, hnb, hno, hx2⟩
  clear b1 b2 b3 b4 b5 b6
  obtain ⟨gn, hgn⟩ : ∃ g_, w2.heap.size = g_ := ⟨_, rfl⟩
  have hN := Blk.new w2 53 #[.int .u64 nx.hard.term, .int .i64 nx.hard.vote, .int .u64 nx.snap.index, .int .u64 nx.snap.term, .slice An nx.snap.state.length cn, .slice Bn nx.ents.length dn]
  rw [hgn] at hN
  have hz : Ext w2 (w2.alloc (.cells #[.int .u64 nx.hard.term, .int .i64 nx.hard.vote, .int .u64 nx.snap.index, .int .u64 nx.snap.term, .slice An nx.snap.state.length cn, .slice Bn nx.ents.length dn] 53)) := (Ext.rfl' _).alloc' _
  have hgnw : w.heap.size ≤ gn := by rw [← hgn]; exact hx2.size
  go_upto_region 6 with fail
  try rw [hgn]
  clear hgn
  generalize (w2.alloc (.cells #[.int .u64 nx.hard.term, .int .i64 nx.hard.vote, .int .u64 nx.snap.index, .int .u64 nx.snap.term, .slice An nx.snap.state.length cn, .slice Bn nx.ents.length dn] 53)) = w3 at *
  have hx3 := hx2.trans' hz
  replace hnb := hnb.ext hz
  have hnen := hno.sl.ext hz
  clear hno hz hx2
  have hxl3 := (slN hx).ext hx3
  go_wp2_with fail
  refine (hasSnap_b (.slice Ax l.length cx) l w3 (by omega) hxl3).mono ?_
  rintro e w4 ⟨rfl, hx4⟩
  replace hN := hN.ext hx4
  replace hnb := hnb.ext hx4
  replace hnen := hnen.ext hx4
  replace hx3 := hx3.trans' hx4
  have hxl := (slN hx).ext hx3
  have hD4 := hD.ext hx3
  have hS4 := hS.ext hx3
  clear hx4 hxl3
  obtain ⟨q, hq⟩ : ∃ q, l.any isSnap = q := ⟨_, rfl⟩
  rw [hq]
  have hgdW : gd < w4.heap.size := hD4.blk.lt
  have hgsW : gs < w4.heap.size := hS4.blk.lt
  have hgnW : gn < w4.heap.size := hN.lt
  have hvd : ∀ j, v.ownBlock = some j → j ≠ gs := h.own
  have hSD : Hid (saveD d l nx = if q = true then d.op (lput (krecs nx)).length (Dk.repl (lput (krecs nx))) id
      else if (d.op (d.b.length + (lput l).length) (Dk.app (lput l)) (Dk.app (lput l))).2 = 0 then (d.op (d.b.length + (lput l).length) (Dk.app (lput l)) (Dk.app (lput l))).1.op 0 Dk.last id
      else d.op (d.b.length + (lput l).length) (Dk.app (lput l)) (Dk.app (lput l))) := hide (by unfold saveD; rw [hq])
  clear hq
  obtain ⟨sd, hsd⟩ : ∃ sd, saveD d l nx = sd := ⟨_, rfl⟩
  rw [hsd] at HS hSD
  clear hsd
  go_upto_if 19 with fail
  go_cut [6] (fun vi wx => ∃ v', vi = .int .i64 sd.2 ∧ DiskAt wx gd v' sd.1 ∧ Chg [gd] w4 wx ∧ ∀ j, v'.ownBlock = some j → v.ownBlock = some j ∨ (w4.heap.size ≤ j ∧ j < wx.heap.size))
  case first =>
    replace hS := hS4
    cases q with
    | true =>
      have hks2 := krecs_small hns hnw (sl_terms hnen)
      have hkl : (krecs nx).length ≤ 1000 := by have := hks2.2; omega
      have hne := slN hnen
      have hnb := hnb.mono (Y := noneAt) fun _ _ h => h.elim
      go_upto_region 8 with fail
      refine Rg.regionT Try.checked.mixed 49 7 (by kernel_rfl) [
        (fun x_ _ => x_ = .pointer (some ⟨gs, 0, none⟩)),
        (fun x_ _ => x_ = .pointer (some ⟨gs, 0, none⟩)),
        (fun x_ _ => x_ = .pointer (some ⟨gs, 0, none⟩)),
        (fun x_ _ => x_ = .pointer (some ⟨gd, 0, none⟩)),
        (fun x_ _ => x_ = .agg #[.int .u64 nx.hard.term, .int .i64 nx.hard.vote, .int .u64 nx.snap.index, .int .u64 nx.snap.term, .slice An nx.snap.state.length cn, .slice Bn nx.ents.length dn]),
        (fun v W => ∃ A c, v = .slice A (krecs nx).length c ∧ Enc.Sl reE W noneAt (.slice A (krecs nx).length c) (krecs nx)),
        (fun v W => Bs W v (lput (krecs nx)) ∧ Off v [gd])] (fun W => Ext w4 W) Ext rfl rfl rfl
        ?st ((Ext.rfl' w4).drew') ?ob ?en
      case st => exact ⟨fun _ _ _ h _ => h, fun _ _ _ h _ => h, fun _ _ _ h _ => h, fun _ _ _ h _ => h, fun _ _ _ h _ => h, fun _ _ _ ⟨a1_, a2_, h1_, h2_⟩ hx => ⟨a1_, a2_, h1_, h2_.ext hx⟩, fun _ _ _ ⟨h1_, h2_⟩ hx => ⟨h1_.ext hx, h2_⟩, trivial⟩
      case ob =>
        refine ⟨Rg.at_run [0] rfl ?_, ?_⟩
        · intro ρ W hR ⟨q0, _⟩
          replace q0 : ρ 0 = .pointer (some ⟨gs, 0, none⟩) := q0
          refine ⟨rfl, ?_⟩
          exact Rg.run_ok (v := .pointer (some ⟨gs, 0, none⟩)) (by simp [execOp, Rg.ev, go_sem, q0]) ⟨rfl, hR, Ext.rfl' _⟩
        refine ⟨Rg.at_run [20] rfl ?_, ?_⟩
        · intro ρ W hR ⟨q20, _⟩
          replace q20 : ρ 20 = .pointer (some ⟨gs, 0, none⟩) := q20
          refine ⟨rfl, ?_⟩
          exact Rg.run_ok (v := .pointer (some ⟨gs, 0, none⟩)) (by simp [execOp, Rg.ev, go_sem, q20]) ⟨rfl, hR, Ext.rfl' _⟩
        refine ⟨Rg.at_run [21] rfl ?_, ?_⟩
        · intro ρ W hR ⟨q21, _⟩
          replace q21 : ρ 21 = .pointer (some ⟨gs, 0, none⟩) := q21
          refine ⟨rfl, ?_⟩
          exact Rg.run_ok (v := .pointer (some ⟨gs, 0, none⟩)) (by simp [execOp, Rg.ev, go_sem, q21]) ⟨rfl, hR, Ext.rfl' _⟩
        refine ⟨Rg.at_run [22] rfl ?_, ?_⟩
        · intro ρ W hR ⟨q22, _⟩
          replace q22 : ρ 22 = .pointer (some ⟨gs, 0, none⟩) := q22
          refine ⟨rfl, ?_⟩
          have c0_ : W.cell? ⟨gs, 0, none⟩ = some (.pointer (some ⟨gd, 0, none⟩)) := ((hS.blk.ext hR).cell 0).trans rfl
          exact Rg.run_ok (v := .pointer (some ⟨gd, 0, none⟩)) (by simp [execOp, Rg.ev, go_sem, q22, c0_]) ⟨rfl, hR, Ext.rfl' _⟩
        refine ⟨Rg.at_run [5] rfl ?_, ?_⟩
        · intro ρ W hR ⟨q5, _⟩
          replace q5 : ρ 5 = .pointer (some ⟨gn, 0, none⟩) := q5
          refine ⟨rfl, ?_⟩
          have c0_ : W.cell? ⟨gn, 0, none⟩ = some (.int .u64 nx.hard.term) := ((hN.ext hR).cell 0).trans rfl
          have c1_ : W.cell? ⟨gn, 1, none⟩ = some (.int .i64 nx.hard.vote) := ((hN.ext hR).cell 1).trans rfl
          have c2_ : W.cell? ⟨gn, 2, none⟩ = some (.int .u64 nx.snap.index) := ((hN.ext hR).cell 2).trans rfl
          have c3_ : W.cell? ⟨gn, 3, none⟩ = some (.int .u64 nx.snap.term) := ((hN.ext hR).cell 3).trans rfl
          have c4_ : W.cell? ⟨gn, 4, none⟩ = some (.slice An nx.snap.state.length cn) := ((hN.ext hR).cell 4).trans rfl
          have c5_ : W.cell? ⟨gn, 5, none⟩ = some (.slice Bn nx.ents.length dn) := ((hN.ext hR).cell 5).trans rfl
          exact Rg.run_ok (v := .agg #[.int .u64 nx.hard.term, .int .i64 nx.hard.vote, .int .u64 nx.snap.index, .int .u64 nx.snap.term, .slice An nx.snap.state.length cn, .slice Bn nx.ents.length dn]) (by simp [execOp, Rg.ev, go_sem, q5, c0_, c1_, c2_, c3_, c4_, c5_]) ⟨rfl, hR, Ext.rfl' _⟩
        refine ⟨Rg.at_run [24] rfl ?_, ?_⟩
        · intro ρ W hR ⟨q24, _⟩
          replace q24 : ρ 24 = .agg #[.int .u64 nx.hard.term, .int .i64 nx.hard.vote, .int .u64 nx.snap.index, .int .u64 nx.snap.term, .slice An nx.snap.state.length cn, .slice Bn nx.ents.length dn] := q24
          refine ⟨rfl, ?_⟩
          refine Rg.enter_fn (args := #[.agg #[.int .u64 nx.hard.term, .int .i64 nx.hard.vote, .int .u64 nx.snap.index, .int .u64 nx.snap.term, .slice An nx.snap.state.length cn, .slice Bn nx.ents.length dn]]) rfl (by simp only [List.map_toArray, List.map_cons, List.map_nil, Rg.ev, q24]) (by kernel_rfl) ?_
          refine (records_b noneAt nx (.slice An nx.snap.state.length cn) (.slice Bn nx.ents.length dn) (n + l.length) W (fun _ h => h.elim) hnw hns (hnb.ext hR) (hne.ext hR) hn).mono ?_
          rintro e_ w9 ⟨m_, A_, c_, hm_, rfl, ho_, hxx⟩
          obtain rfl : m_ = krecs nx := hm_.out
          exact ⟨_, rfl, ⟨_, _, rfl, ho_.sl⟩, hR.trans' hxx, hxx⟩
        refine ⟨Rg.at_run [25] rfl ?_, ?_⟩
        · intro ρ W hR ⟨q25, _⟩
          replace q25 : (fun v W => ∃ A c, v = .slice A (krecs nx).length c ∧ Enc.Sl reE W noneAt (.slice A (krecs nx).length c) (krecs nx)) (ρ 25) W := q25
          refine ⟨rfl, ?_⟩
          obtain ⟨A9, c9, hv9, hl9⟩ := q25
          refine Rg.enter_fn (args := #[(.slice A9 (krecs nx).length c9)]) rfl (by simp only [List.map_toArray, List.map_cons, List.map_nil, Rg.ev, hv9]) (by kernel_rfl) ?_
          refine (lputs_b (.slice A9 (krecs nx).length c9) (krecs nx) W (by omega) hl9 hks2.1).mono ?_
          rintro e_ w9 ⟨m_, A_, c_, hm_, rfl, ha_, hxx⟩
          obtain rfl : m_ = lput (krecs nx) := hm_.out
          exact ⟨_, rfl, ⟨ha_.bs, ha_.off (fun j hj => by have := List.mem_singleton.1 hj; have h1 := hgdW; have h2 := hR.size; omega)⟩, hR.trans' hxx, hxx⟩
        trivial
      case en =>
        intro tm W hR hsz hk
        rw [Rg.fin_eq (ds := [20, 21, 22, 23, 24, 25, 26]) rfl rfl rfl hsz hk]
        have k20 : tm.getD 20 undef = .pointer (some ⟨gs, 0, none⟩) := hk 20
        have k21 : tm.getD 21 undef = .pointer (some ⟨gs, 0, none⟩) := hk 21
        have k22 : tm.getD 22 undef = .pointer (some ⟨gs, 0, none⟩) := hk 22
        have k23 : tm.getD 23 undef = .pointer (some ⟨gd, 0, none⟩) := hk 23
        have k24 : tm.getD 24 undef = .agg #[.int .u64 nx.hard.term, .int .i64 nx.hard.vote, .int .u64 nx.snap.index, .int .u64 nx.snap.term, .slice An nx.snap.state.length cn, .slice Bn nx.ents.length dn] := hk 24
        have k25 : (fun v W => ∃ A c, v = .slice A (krecs nx).length c ∧ Enc.Sl reE W noneAt (.slice A (krecs nx).length c) (krecs nx)) (tm.getD 25 undef) W := hk 25
        have k26 : (fun v W => Bs W v (lput (krecs nx)) ∧ Off v [gd]) (tm.getD 26 undef) W := hk 26
        clear hk hsz
        simp only [Rg.putAll, List.setIfInBounds_toArray, List.set_cons_zero, List.set_cons_succ, k20, k21, k22, k23, k24]
        clear k20
        clear k21
        clear k22
        clear k23
        clear k24
        generalize tm.getD 25 undef = u25 at *
        generalize tm.getD 26 undef = u26 at *
        obtain ⟨hb26, ho26⟩ := k26
        obtain ⟨A26, c26, rfl, -, -, -⟩ := id hb26
        have hll := lput_len (l := krecs nx) fun r hr => (hks2.1 r hr).2
        go_wp2_with fail
        refine (disk_replace gd v (.slice A26 (lput (krecs nx)).length c26) d (lput (krecs nx)) W (hD4.ext hR) hb26 ho26 (by omega)).mono ?_
        rintro e W5 ⟨rfl, v', hd5, hc5, hn5⟩
        go_wp2_with fail
        go_meet
        case rel => exact ⟨v', by rw [hSD.out, if_pos trivial], by rw [hSD.out, if_pos trivial]; exact hd5, (hR.chg [gd]).trans hc5, fun j hj => (hn5 j hj).imp id fun h => by have := hR.size; omega⟩
    | false =>
      go_upto_region 9 with fail
      refine Rg.regionT Try.checked.mixed 49 6 (by kernel_rfl) [
        (fun x_ _ => x_ = .pointer (some ⟨gs, 0, none⟩)),
        (fun x_ _ => x_ = .pointer (some ⟨gs, 0, none⟩)),
        (fun x_ _ => x_ = .pointer (some ⟨gs, 0, none⟩)),
        (fun x_ _ => x_ = .pointer (some ⟨gd, 0, none⟩)),
        (fun x_ _ => x_ = .slice Ax l.length cx),
        (fun v W => Bs W v (lput l) ∧ Off v [gd])] (fun W => Ext w4 W) Ext rfl rfl rfl
        ?st ((Ext.rfl' w4).drew') ?ob ?en
      case st => exact ⟨fun _ _ _ h _ => h, fun _ _ _ h _ => h, fun _ _ _ h _ => h, fun _ _ _ h _ => h, fun _ _ _ h _ => h, fun _ _ _ ⟨h1_, h2_⟩ hx => ⟨h1_.ext hx, h2_⟩, trivial⟩
      case ob =>
        refine ⟨Rg.at_run [0] rfl ?_, ?_⟩
        · intro ρ W hR ⟨q0, _⟩
          replace q0 : ρ 0 = .pointer (some ⟨gs, 0, none⟩) := q0
          refine ⟨rfl, ?_⟩
          exact Rg.run_ok (v := .pointer (some ⟨gs, 0, none⟩)) (by simp [execOp, Rg.ev, go_sem, q0]) ⟨rfl, hR, Ext.rfl' _⟩
        refine ⟨Rg.at_run [28] rfl ?_, ?_⟩
        · intro ρ W hR ⟨q28, _⟩
          replace q28 : ρ 28 = .pointer (some ⟨gs, 0, none⟩) := q28
          refine ⟨rfl, ?_⟩
          exact Rg.run_ok (v := .pointer (some ⟨gs, 0, none⟩)) (by simp [execOp, Rg.ev, go_sem, q28]) ⟨rfl, hR, Ext.rfl' _⟩
        refine ⟨Rg.at_run [29] rfl ?_, ?_⟩
        · intro ρ W hR ⟨q29, _⟩
          replace q29 : ρ 29 = .pointer (some ⟨gs, 0, none⟩) := q29
          refine ⟨rfl, ?_⟩
          exact Rg.run_ok (v := .pointer (some ⟨gs, 0, none⟩)) (by simp [execOp, Rg.ev, go_sem, q29]) ⟨rfl, hR, Ext.rfl' _⟩
        refine ⟨Rg.at_run [30] rfl ?_, ?_⟩
        · intro ρ W hR ⟨q30, _⟩
          replace q30 : ρ 30 = .pointer (some ⟨gs, 0, none⟩) := q30
          refine ⟨rfl, ?_⟩
          have c0_ : W.cell? ⟨gs, 0, none⟩ = some (.pointer (some ⟨gd, 0, none⟩)) := ((hS.blk.ext hR).cell 0).trans rfl
          exact Rg.run_ok (v := .pointer (some ⟨gd, 0, none⟩)) (by simp [execOp, Rg.ev, go_sem, q30, c0_]) ⟨rfl, hR, Ext.rfl' _⟩
        refine ⟨Rg.at_run [1] rfl ?_, ?_⟩
        · intro ρ W hR ⟨q1, _⟩
          replace q1 : ρ 1 = .slice Ax l.length cx := q1
          refine ⟨rfl, ?_⟩
          exact Rg.run_ok (v := .slice Ax l.length cx) (by simp [execOp, Rg.ev, go_sem, q1]) ⟨rfl, hR, Ext.rfl' _⟩
        refine ⟨Rg.at_run [32] rfl ?_, ?_⟩
        · intro ρ W hR ⟨q32, _⟩
          replace q32 : ρ 32 = .slice Ax l.length cx := q32
          refine ⟨rfl, ?_⟩
          refine Rg.enter_fn (args := #[(.slice Ax l.length cx)]) rfl (by simp only [List.map_toArray, List.map_cons, List.map_nil, Rg.ev, q32]) (by kernel_rfl) ?_
          refine (lputs_b (.slice Ax l.length cx) l W (by omega) (hxl.ext hR) hl).mono ?_
          rintro e_ w9 ⟨m_, A_, c_, hm_, rfl, ha_, hxx⟩
          obtain rfl : m_ = lput l := hm_.out
          exact ⟨_, rfl, ⟨ha_.bs, ha_.off (fun j hj => by have := List.mem_singleton.1 hj; have h1 := hgdW; have h2 := hR.size; omega)⟩, hR.trans' hxx, hxx⟩
        trivial
      case en =>
        intro tm W hR hsz hk
        rw [Rg.fin_eq (ds := [28, 29, 30, 31, 32, 33]) rfl rfl rfl hsz hk]
        have k28 : tm.getD 28 undef = .pointer (some ⟨gs, 0, none⟩) := hk 28
        have k29 : tm.getD 29 undef = .pointer (some ⟨gs, 0, none⟩) := hk 29
        have k30 : tm.getD 30 undef = .pointer (some ⟨gs, 0, none⟩) := hk 30
        have k31 : tm.getD 31 undef = .pointer (some ⟨gd, 0, none⟩) := hk 31
        have k32 : tm.getD 32 undef = .slice Ax l.length cx := hk 32
        have k33 : (fun v W => Bs W v (lput l) ∧ Off v [gd]) (tm.getD 33 undef) W := hk 33
        clear hk hsz
        simp only [Rg.putAll, List.setIfInBounds_toArray, List.set_cons_zero, List.set_cons_succ, k28, k29, k30, k31, k32]
        clear k28
        clear k29
        clear k30
        clear k31
        clear k32
        generalize tm.getD 33 undef = u33 at *
        obtain ⟨hb33, ho33⟩ := k33
        obtain ⟨A33, c33, rfl, -, -, -⟩ := id hb33
        have hll := lput_len (l := l) fun r hr => (hl r hr).2
        go_wp2_with fail
        refine (disk_append gd v (.slice A33 (lput l).length c33) d (lput l) W (hD4.ext hR) hb33 ho33 (by omega)).mono ?_
        rintro e W5 ⟨rfl, v', hd5, hc5, hn5⟩
        obtain ⟨⟨d1, e1⟩, hq1⟩ : ∃ r, d.op (d.b.length + (lput l).length) (Dk.app (lput l)) (Dk.app (lput l)) = r := ⟨_, rfl⟩
        rw [hq1] at hSD hd5 ⊢
        have HQ1 := hide hq1
        clear hq1
        simp only at hd5 ⊢
        have hn6 : ∀ j, v'.ownBlock = some j → v.ownBlock = some j ∨ (w4.heap.size ≤ j ∧ j < W5.heap.size) := fun j hj => (hn5 j hj).imp id fun h => by have := hR.size; omega
        rcases Bool.eq_false_or_eq_true (e1 == 0) with he | he
        · have hS5 := (hS.ext hR).chg hc5 hne_
          have b0 := (hS5.blk.cell 0).trans rfl
          have HE : Hid (sd = d1.op 0 Dk.last id) := hide (by rw [hSD.out, if_neg (by simp), if_pos (by simpa using he)])
          go_wp2_with fail
          refine (disk_sync gd v' d1 W5 hd5).mono ?_
          rintro e W6 ⟨rfl, v6, hd6, hc6, hn7⟩
          go_wp2_with fail
          go_meet
          case rel => exact ⟨v6, by rw [HE.out], by rw [HE.out]; exact hd6, ((hR.chg [gd]).trans hc5).trans hc6, fun j hj => by
            rcases hn7 j hj with h | h
            · exact (hn6 j h).imp id fun h => by have h3 := hc6.size; omega
            · have h1 := hR.size; have h2 := hc5.size; exact .inr (by omega)⟩
        · have HE : Hid (sd = (d1, e1)) := hide (by rw [hSD.out, if_neg (by simp), if_neg (by simpa using he)])
          go_wp2_with fail
          go_meet
          case rel => exact ⟨v', by rw [HE.out], by rw [HE.out]; exact hd5, (hR.chg [gd]).trans hc5, hn6⟩
  case rest =>
    obtain ⟨v', rfl, hD5, hc5, hn5⟩ := hcut
    have hN5 := hN.chg hc5 (by simp; omega)
    have hS5 := hS4.chg hc5 hne_
    have hnb5 := hnb.chg hc5 (fun j hj _ => .inl (.inl (.inr (List.mem_singleton.1 hj))))
    have hne5 := hnen.chg hc5 (fun j hj _ => .inl (.inr (List.mem_singleton.1 hj)))
    have hS5X := ((bsx_or hS.bs hsX).ext hx3).chg hc5 (fun j hj _ => .inl (.inr (List.mem_singleton.1 hj)))
    have hE5X := ((sl_or hS.es heX).ext hx3).chg hc5 (fun j hj _ => .inl (.inr (List.mem_singleton.1 hj)))
    have hv5X : ∀ j, v'.ownBlock = some j → ¬ X j := fun j hj hx => by
      rcases hn5 j hj with h | h
      · exact hvX j h hx
      · have h1 := hX j hx; have h2 := hx3.size; omega
    have hsz5 := hc5.size
    have hv5 : ∀ j, v'.ownBlock = some j → j ≠ gs := fun j hj => by
      rcases hn5 j hj with h | h
      · exact hvd j h
      · omega
    have hvl : ∀ j, v'.ownBlock = some j → j < wc.heap.size := fun j hj => by
      rcases hn5 j hj with h9 | h9
      · have := h.lt j h9; have := hx3.size; omega
      · omega
    have hcw : Chg [gs, gd] w wc := (hx3.chg [gs, gd]).trans (hc5.mono fun j hj => by simp at hj; simp [hj])
    generalize wc = W6 at *
    obtain ⟨d6, e6⟩ := sd
    simp only at hD5 HS ⊢
    rcases Bool.eq_false_or_eq_true (e6 == 0) with he | he
    · have HS2 : Hid (sv = (d6, nx, e6)) := hide (by rw [HS.out, if_pos (by simpa using he)])
      have c0 := (hN5.cell 0).trans rfl
      have c1 := (hN5.cell 1).trans rfl
      have c2 := (hN5.cell 2).trans rfl
      have c3 := (hN5.cell 3).trans rfl
      have c4 := (hN5.cell 4).trans rfl
      have c5 := (hN5.cell 5).trans rfl
      have b1 := (hS5.blk.cell 1).trans rfl
      have b2 := (hS5.blk.cell 2).trans rfl
      have b3 := (hS5.blk.cell 3).trans rfl
      have b4 := (hS5.blk.cell 4).trans rfl
      have b5 := (hS5.blk.cell 5).trans rfl
      have b6 := (hS5.blk.cell 6).trans rfl
      have f1 := hS5.blk.frozen 1
      have f2 := hS5.blk.frozen 2
      have f3 := hS5.blk.frozen 3
      have f4 := hS5.blk.frozen 4
      have f5 := hS5.blk.frozen 5
      have f6 := hS5.blk.frozen 6
      go_wp2_with fail
      go_ret
      rw [HS2.out]
      have hcg : Chg [gs] W6 ((((((W6.setCell ⟨gs, 1, none⟩ (.int .u64 nx.hard.term)).setCell ⟨gs, 2, none⟩ (.int .i64 nx.hard.vote)).setCell ⟨gs, 3, none⟩ (.int .u64 nx.snap.index)).setCell ⟨gs, 4, none⟩ (.int .u64 nx.snap.term)).setCell ⟨gs, 5, none⟩ (.slice An nx.snap.state.length cn)).setCell ⟨gs, 6, none⟩ (.slice Bn nx.ents.length dn)) :=
        ((((((Chg.refl _ _).set (by simp) _).set (by simp) _).set (by simp) _).set (by simp) _).set (by simp) _).set (by simp) _
      refine ⟨v', An, cn, Bn, dn, rfl, ⟨hD5.chg hcg (by simpa using hne_.symm) (Off.of_own fun j hj hm => hv5 j hj (List.mem_singleton.1 hm)), ⟨(((((hS5.blk.set_ 1 _).set_ 2 _).set_ 3 _).set_ 4 _).set_ 5 _).set_ 6 _, (hnb5.chg hcg (fun j hj _ => .inl (.inl (.inl (List.mem_singleton.1 hj))))).mono (fun j _ h => .inl (.inl h)), (hne5.chg hcg (fun j hj _ => .inl (.inl (List.mem_singleton.1 hj)))).mono (fun j _ h => .inl h)⟩, hne_, hv5, hnw, fun j hj => Nat.lt_of_lt_of_le (hvl j hj) hcg.size⟩, hcw.trans (hcg.mono fun j hj => by simp at hj; simp [hj]), (hnb5.chg hcg (fun j hj _ => .inl (.inl (.inl (List.mem_singleton.1 hj))))).mono (fun j _ h => .inl (.inr h)), (hne5.chg hcg (fun j hj _ => .inl (.inl (List.mem_singleton.1 hj)))).mono (fun j _ h => .inr h), hv5X⟩
    · have HS2 : Hid (sv = (d6, k, e6)) := hide (by rw [HS.out, if_neg (by simpa using he)])
      go_wp2
      go_ret
      rw [HS2.out]
      exact ⟨v', As, cs, Ae, ce, rfl, ⟨hD5, hS5, hne_, hv5, hkw, hvl⟩, hcw, hS5X.mono (fun j _ h => .inr h), hE5X.mono (fun j _ h => .inr h), hv5X⟩
end Go.Proofs.Ytlblgopfdadalaa
namespace Go.Proofs.Ytlblgopfdadalaa
set_option linter.unusedVariables false
set_option linter.unusedSimpArgs false
set_option linter.unnecessarySimpa false
set_option maxRecDepth 100000
open Go.RowKit
set_option maxHeartbeats 6400000 in
theorem rrecords_b (X : Avoid) (k : Kp) (vs ve : Value) (n : Nat) (w : World) (hX : ∀ j, X j → j < w.heap.size) (hkw : k.wide) (hks : k.small n) (hs : Enc.BsX w X vs k.snap.state) (he : Enc.Sl enE w X ve k.ents) (hn : n ≤ 1000) :
    Calls Try.prog 65 #[.agg (kpcells k vs ve).toArray] w fun e w' => RetRecs X w w' e (krecs k) := by
  obtain ⟨As0, cS0, rfl, -, -, -⟩ := id hs.1
  obtain ⟨Ae0, cE0, rfl, -, -⟩ := he.form
  have hB := Blk.new w 53 (kpcells k (.slice As0 k.snap.state.length cS0) (.slice Ae0 k.ents.length cE0)).toArray
  have hxw : Ext w (w.alloc (.cells (kpcells k (.slice As0 k.snap.state.length cS0) (.slice Ae0 k.ents.length cE0)).toArray 53)) := (Ext.rfl' _).alloc' _
  obtain ⟨g, hg⟩ : ∃ g, w.heap.size = g := ⟨_, rfl⟩
  rw [hg] at hB
  have hXl : ∀ j, X j → j < g := fun j hj => by rw [← hg]; exact hX j hj
  go_enter Try.func65, Try.ntmps65
  go_upto_region 1 with fail
  generalize (w.alloc (.cells (kpcells k (.slice As0 k.snap.state.length cS0) (.slice Ae0 k.ents.length cE0)).toArray 53)) = w1 at *
  try rw [hg]
  have hr1 := hB.lt
  have hX1 : ∀ j, (X j ∨ j = g) → j < w1.heap.size := fun j hj => by rcases hj with h | h; (have := hXl j h; omega); omega
  have hs3 := hs.ext hxw
  have he3 := he.ext hxw
  have hx3 := hxw
  have hB3 := hB
  generalize w1 = W3 at *
  have b0 := (hB3.cell 0).trans rfl
  have b1 := (hB3.cell 1).trans rfl
  obtain ⟨gl, hgl⟩ : ∃ g_, W3.heap.size = g_ := ⟨_, rfl⟩
  have hglg : g < gl := by rw [← hgl]; exact hB3.lt
  have hgl3 : W3.heap.size = gl := hgl
  have hX3 : ¬ X gl := fun h => by have := hXl _ h; omega
  have hown := Own.lit1S (E := reE) (w0 := W3) (w := W3) (X := X) (cs := recells (rHard k.hard) (.slice none 0 0) (.slice none 0 0)) (a := rHard k.hard) 101 (Ext.rfl' _) gl hgl hX3 (re_rep.2 ⟨_, _, rfl, rHard_wide hkw, Enc.BsX.nil _ _, Enc.BsX.nil _ _⟩)
  have hz : Ext W3 (W3.alloc (.cells #[.int .i64 1, .int .u64 k.hard.term, .int .i64 k.hard.vote, .int .u64 0, .slice none 0 0, .int .u64 0, .int .u64 0, .int .u64 0, .slice none 0 0] 101)) := (Ext.rfl' _).alloc' _
  change Own _ _ _ (W3.alloc (.cells #[.int .i64 1, .int .u64 k.hard.term, .int .i64 k.hard.vote, .int .u64 0, .slice none 0 0, .int .u64 0, .int .u64 0, .int .u64 0, .slice none 0 0] 101)) _ _ _ at hown
  go_upto_region 2 with fail
  try rw [hgl]
  clear b0 b1 hgl
  generalize (W3.alloc (.cells #[.int .i64 1, .int .u64 k.hard.term, .int .i64 k.hard.vote, .int .u64 0, .slice none 0 0, .int .u64 0, .int .u64 0, .int .u64 0, .slice none 0 0] 101)) = W4 at *
  have b2 := ((hB3.ext hz).cell 2).trans rfl
  go_upto_if 12 with fail
  go_cut [3] (fun vo wx => ∃ (l : List Rec) (A : Option Addr) (c : Nat), vo = .slice A l.length c ∧ Hid (l = krecs1 k) ∧ Own 101 reE W3 wx X (.slice A l.length c) l ∧ Ext W3 wx)
  case first =>
    rcases Bool.eq_false_or_eq_true (k.snap.index != 0) with h0 | h0
    · have b3 := ((hB3.ext hz).cell 3).trans rfl
      have b4 := ((hB3.ext hz).cell 4).trans rfl
      have hxa : Ext W4 (W4.alloc (.cells #[.int .i64 4, .int .u64 0, .int .i64 0, .int .u64 0, .slice none 0 0, .int .u64 0, .int .u64 k.snap.index, .int .u64 k.snap.term, .slice As0 k.snap.state.length cS0] 101)) := (Ext.rfl' _).alloc' _
      have hlit : Enc.Sl reE (W4.alloc (.cells #[.int .i64 4, .int .u64 0, .int .i64 0, .int .u64 0, .slice none 0 0, .int .u64 0, .int .u64 k.snap.index, .int .u64 k.snap.term, .slice As0 k.snap.state.length cS0] 101)) (fun j => X j ∨ (Value.slice (some (⟨gl, 0, none⟩ : Addr)) 1 1).ownBlock = some j) (.slice (some ⟨W4.heap.size, 0, none⟩) 1 1) [rSnap k.snap] :=
        Sl.one (E := reE) 101 (cs := recells (rSnap k.snap) (.slice none 0 0) (.slice As0 k.snap.state.length cS0)) (re_rep.2 ⟨_, _, rfl, rSnap_wide hkw, Enc.BsX.nil _ _, (hs3.mono (Y := fun j => X j ∨ (Value.slice (some (⟨gl, 0, none⟩ : Addr)) 1 1).ownBlock = some j) fun j hj h => by
          rcases h with h | h
          · exact h
          · have h9 : gl = j := Option.some.inj h
            omega).ext hz⟩) _ rfl (fun h => by
          rcases h with h | h
          · have := hXl _ h; have := hz.size; omega
          · have := (hown.lt _ h).2; omega)
      go_wp2_with (at_builtin; refine wpList_own elt_re 60 Try.underlying60 rfl _ _ rfl (hown.ext hxa) rfl (hz.trans' hxa) (m := [rSnap k.snap]) (y := .slice (some ⟨W4.heap.size, 0, none⟩) 1 1) rfl hlit (fun h => by have h1 := hXl _ h; have h2 := (hz.trans' hxa).size; omega) (by simp) (by simp) ?_; intro l2 A2 c2 w5 hl2 hown2 hx5 hc5)
      go_meet
      case rel => exact ⟨l2, A2, c2, rfl, hide (by rw [hl2.out]; unfold krecs1; rw [if_neg (by simpa using h0)]; rfl), hown2, hx5⟩
    · go_wp2_with fail
      go_meet
      case rel => exact ⟨[rHard k.hard], _, _, rfl, hide (by unfold krecs1; rw [if_pos (by simpa using h0)]), hown, hz⟩
  case rest =>
    obtain ⟨l1, A1, c1, rfl, hl1, hown1, hx4⟩ := hcut
    generalize wc = W5 at *
    clear b2 hown
    have hl1n : l1.length ≤ 2 := by rw [hl1.out]; exact krecs1_len k
    have hkn := hks.len
    have hKR : Hid (krecs k = l1 ++ k.ents.map rEnt) := hide (by rw [krecs_eq, hl1.out])
    obtain ⟨kr, hkr⟩ : ∃ kr, krecs k = kr := ⟨_, rfl⟩
    have HKR := hide hkr
    clear hkr
    have b5 := ((hB3.ext hx4).cell 5).trans rfl
    go_wp2_with fail
    go_loopw [3, 4] (fun vo i wr => ∃ (m : Nat) (l : List Rec) (A : Option Addr) (c : Nat), m ≤ k.ents.length ∧ vo = .slice A l.length c ∧ i = .int .i64 m ∧ Hid (l = l1 ++ (k.ents.take m).map rEnt) ∧ Own 101 reE W3 wr X (.slice A l.length c) l ∧ Ext W3 wr) (fun _ i _ => (k.ents.length - intOf i).toNat)
    case atStart => exact ⟨0, l1, A1, c1, by omega, rfl, rfl, hide (by simp), hown1, hx4⟩
    case round =>
      clear b5 hown1 hx4
      obtain ⟨m, l, A, c, hm, rfl, rfl, hl, hown, hxr⟩ := hrel
      have b5 := ((hB3.ext hxr).cell 5).trans rfl
      have hll : Hid (l.length ≤ 2 + m) := hide (by rw [hl.out]; simp; omega)
      by_cases hlt : m < k.ents.length
      · obtain ⟨ad, y, v, rfl, hyk, hbp, p0, p1, hyt, hyd⟩ := en_at he3 (k := m) hlt
        replace p0 := (hxr.cell (by rw [block_of_add]; exact hbp)).trans p0
        replace p1 := (hxr.cell (by show (ad.add (m * 2)).block < _; rw [block_of_add]; exact hbp)).trans p1
        obtain ⟨Ay, cy, rfl, -, -, -⟩ := id hyd.1
        have hm0 : (0 : Int) ≤ m := by omega
        have hml : (m : Int) < k.ents.length := by omega
        have HLT := hide hlt
        have HT : Hid (k.ents.take (m + 1) = k.ents.take m ++ [y]) := hide (take_snoc hyk.out)
        clear hlt
        have hxa : Ext wr (wr.alloc (.cells #[.int .i64 2, .int .u64 0, .int .i64 0, .int .u64 y.term, .slice Ay y.data.length cy, .int .u64 0, .int .u64 0, .int .u64 0, .slice none 0 0] 101)) := (Ext.rfl' _).alloc' _
        have hown3 := fun j h => (hown.lt j h).1
        have hlit : Enc.Sl reE (wr.alloc (.cells #[.int .i64 2, .int .u64 0, .int .i64 0, .int .u64 y.term, .slice Ay y.data.length cy, .int .u64 0, .int .u64 0, .int .u64 0, .slice none 0 0] 101)) (fun j => X j ∨ (Value.slice A l.length c).ownBlock = some j) (.slice (some ⟨wr.heap.size, 0, none⟩) 1 1) [rEnt y] :=
          Sl.one (E := reE) 101 (cs := recells (rEnt y) (.slice Ay y.data.length cy) (.slice none 0 0)) (re_rep.2 ⟨_, _, rfl, rEnt_wide hyt, (hyd.mono (Y := fun j => X j ∨ (Value.slice A l.length c).ownBlock = some j) fun j hj h => by
            rcases h with h | h
            · exact h
            · have := hown3 j h; omega).ext hxr, Enc.BsX.nil _ _⟩) _ rfl (fun h => by
            have h3 := hxr.size
            rcases h with h | h
            · have := hXl _ h; omega
            · have := (hown.lt _ h).2; omega)
        go_wp2_with (at_builtin; refine wpList_own elt_re 60 Try.underlying60 rfl _ _ rfl (hown.ext hxa) rfl (hxr.trans' hxa) (m := [rEnt y]) (y := .slice (some ⟨wr.heap.size, 0, none⟩) 1 1) rfl hlit (fun h => by have h1 := hXl _ h; have h2 := (hxr.trans' hxa).size; omega) (by have := hll.out; simp only [List.length_singleton]; omega) (by have := hll.out; simp only [List.length_singleton]; omega) ?_; intro l2 A2 c2 w5 hl2 hown2 hx5 hc5)
        go_roundw
        case rel => exact ⟨m + 1, l2, A2, c2, by have := HLT.out; omega, rfl, by go_num, hide (by rw [hl2.out, hl.out, HT.out]; simp), hown2, hx5⟩
        case measure => have := HLT.out; simp [intOf]; omega
      · obtain rfl : m = k.ents.length := by omega
        rw [List.take_length] at hl
        go_wp2
        go_ret
        exact ⟨l, A, c, hide (by rw [hl.out, ← hKR.out]), rfl, hown.base hx3.size, hx3.trans' hxr⟩
end Go.Proofs.Ytlblgopfdadalaa
namespace Go.Proofs.Ytlblgopfdadalaa
set_option linter.unusedVariables false
set_option linter.unusedSimpArgs false
set_option linter.unnecessarySimpa false
set_option maxRecDepth 100000
open Go.RowKit
section
variable {α : Type} {T : TypeId} {E : Enc α} {w0 w w' : World} {X : Avoid} {m : List α}
/-- a slice whose elements lie apart; its own block may lie anywhere -/
def SlR (E : Enc α) (w : World) (X : Avoid) (v : Value) (l : List α) : Prop :=
  ∃ A c css, v = .slice A l.length c ∧ l.length ≤ c ∧ c ≤ maxLen ∧ Reads w w.heap.size E.size A l.length css.flatten ∧ Enc.Each E w X css l
theorem SlR.ext {v : Value} {l : List α} (h : SlR E w X v l) (hx : Ext w w') : SlR E w' X v l := by
  obtain ⟨A, c, css, h1, h2, h3, h4, h5⟩ := h
  exact ⟨A, c, css, h1, h2, h3, h4.ext hx, h5.ext hx⟩
theorem SlR.mono {Y : Avoid} {v : Value} {l : List α} (h : SlR E w X v l) (hs : ∀ k, k < w.heap.size → Y k → X k) : SlR E w Y v l := by
  obtain ⟨A, c, css, h1, h2, h3, h4, h5⟩ := h
  exact ⟨A, c, css, h1, h2, h3, h4, h5.mono hs⟩
/-- one element in a block of its own -/
theorem SlR.one (T : TypeId) {cs : List Value} {a : α} (h : E.rep w X cs a) : SlR E (w.alloc (.cells cs.toArray T)) X (.slice (some ⟨w.heap.size, 0, none⟩) 1 1) [a] := by
  refine ⟨_, 1, [cs], rfl, Nat.le_refl _, by simp [maxLen], ?_, Enc.Each.single (E.ext h ((Ext.rfl' w).alloc' _))⟩
  refine ⟨by simp [E.len h], fun _ => ⟨_, rfl, by simp, fun j u hu => ?_⟩⟩
  have hadd : (⟨w.heap.size, 0, none⟩ : Addr).add j = ⟨w.heap.size, j, none⟩ := by unfold Addr.add; split <;> simp_all
  rw [hadd, cell_of_row _ _ _ _ _ _ (heap_alloc_new w _)]
  simpa using hu
variable {v : Value} {l : List α}
end
end Go.Proofs.Ytlblgopfdadalaa
