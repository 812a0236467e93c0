/- A part of the proof of 'StateBytes'. -/
import Derived.Test.YtamimdlaclglkaaGreatB21
import Derived.Test.YtamimdlaclglkaaGreatB23
namespace Go.Proofs.YtamimdlaclglkaaGreat
set_option linter.unusedVariables false
set_option linter.unusedSimpArgs false
set_option linter.unnecessarySimpa false
set_option maxRecDepth 100000
open Go.RowKit
set_option maxHeartbeats 6400000 in
theorem lkmdo_b (X : Avoid) (g : Nat) (s : St) (c : Cm) (vt vl vs : Value) (w : World) (hX : ∀ k, X k → k < w.heap.size) (hXg : ¬ X g) (h : Blk w g 107 (mkcells s c vt vl vs).toArray)
    (hvt : Enc.Sl lnE w (fun k => X k ∨ k = g) vt s.links) (hsl' : Enc.Sl lnE w (fun k => X k ∨ k = g) vl s.links) (hl : s.links.length ≤ 10000) (hr : RiseL s.links) (hf : s.count < 238328 → lfind s.links (code3 s.count.toNat) = none) (hc : U64 s.count)
    (hct : U64 c.till) (hcu : c.url.length ≤ maxLen) (hcn : c.name.length ≤ 1000000) :
    Calls Tryz.prog 61 #[.pointer (some ⟨g, 0, none⟩)] w fun e w' => RetMk X w w' g c vt vs e (ldoW lfind lkput s c) := by
  obtain ⟨At, ct, rfl, -, -⟩ := hvt.form
  have hgw := h.lt
  have hvX : Enc.Sl lnE w X (.slice At s.links.length ct) s.links := hvt.mono fun _ _ h => .inl h
  have hvN : Enc.Sl lnE w noneAt (.slice At s.links.length ct) s.links := hvt.mono fun _ _ h => h.elim
  have hsl := hsl'.mono (Y := X) fun _ _ h => .inl h
  have hnm : c.name.length ≤ maxLen := by unfold maxLen; omega
  obtain ⟨ga, hga⟩ : ∃ ga, w.heap.size = ga := ⟨_, rfl⟩
  have hA := Blk.new w 33 (acells ⟨0, []⟩).toArray
  have hx0 : Ext w (w.alloc (.cells (acells ⟨0, []⟩).toArray 33)) := (Ext.rfl' w).alloc' _
  rw [hga] at hA
  have hgg : ga ≠ g := by omega
  have hgaw : w.heap.size ≤ ga := by omega
  go_enter Tryz.func61, Tryz.ntmps61
  go_upto_region 1 with fail
  try rw [hga]
  generalize hw0 : (w.alloc (.cells (acells ⟨0, []⟩).toArray 33)) = w2 at *
  clear hw0
  have m5 : w2.cell? ⟨g, 5, none⟩ = some (.int .i64 c.kind) := ((h.ext hx0).cell 5).trans rfl
  have hsX := (hsl'.mono (Y := fun k => (X k ∨ k = ga) ∨ k = g) (fun k hk h => h.elim (fun h => h.elim .inl fun h => by omega) .inr)).ext hx0
  have hvX2 := (hvt.mono (Y := fun k => (X k ∨ k = ga) ∨ k = g) (fun k hk h => h.elim (fun h => h.elim .inl fun h => by omega) .inr)).ext hx0
  have hsX' := hsX.mono (Y := fun k => X k ∨ k = ga) fun _ _ h => .inl h
  rcases Bool.eq_false_or_eq_true (c.kind == 4) with k4 | k4
  · have HL : Hid (ldoW lfind lkput s c = ltime s c) := if_pos (beq_iff_eq.1 k4)
    go_wp2_with fail
    refine (lktime_b (fun k => X k ∨ k = ga) g s c _ _ vs _ (fun k hk => hk.elim (fun hk => by have := hX k hk; have := hx0.size; omega) (fun hk => by subst hk; exact hA.lt)) (fun hk => hk.elim hXg fun h => hgg h.symm) (h.ext hx0) hsX hl).mono ?_
    rintro e w6 ⟨t, a, hta, rfl, vl6, hB6, hsl6, hc6⟩
    have hA6 := hA.chg hc6 (by simpa using hgg)
    have y0 := (hA6.cell 0).trans rfl
    have y1 := (hA6.cell 1).trans rfl
    have z0 := hA6.frozen 0
    have z1 := hA6.frozen 1
    go_wp2
    try simp only [Exit.inBlock, Exit.then]
    refine bodyPost_ret (results_cell_row rfl _ _ ga 33 (acells a).toArray (0, 0) _ rfl (Blk.two_ hA6 (.int .i64 a.err) (str a.text)) Tryz.underlying33 rfl (by kernel_rfl)) rfl ?_
    have hcA : Chg [ga] w6 _ := (Chg.refl [ga] w6).two_ (g := ga) (by simp) (.int .i64 a.err) (str a.text)
    exact ⟨t, a, hide (hta.out.trans HL.out.symm), rfl, vl6, hB6.chg hcA (by simpa using fun h => hgg h.symm), (hsl6.chg hcA (fun k hk _ => .inr (by simpa using hk))).mono (fun _ _ h => .inl h), ((hx0.chg [g]).trans hc6).then_new hcA (by simp; omega)⟩
  have e4 : ¬ c.kind = 4 := by simpa using k4
  rcases Bool.eq_false_or_eq_true (c.kind == 1) with k1 | k1
  · have HL : Hid (ldoW lfind lkput s c = lmakeW lkput s c) := by unfold Hid ldoW; rw [if_neg e4, if_pos (beq_iff_eq.1 k1)]
    clear e4
    go_wp2_with fail
    refine (lkmakes_b (fun k => X k ∨ k = ga) g s c _ _ vs _ (fun k hk => hk.elim (fun hk => by have := hX k hk; have := hx0.size; omega) (fun hk => by subst hk; exact hA.lt)) (fun hk => hk.elim hXg fun h => hgg h.symm) (h.ext hx0) hvX2 hsX' hl hr hf hc hct hcu).mono ?_
    rintro e w6 ⟨t, a, hta, rfl, vl6, hB6, hsl6, hc6⟩
    have hA6 := hA.chg hc6 (by simpa using hgg)
    have y0 := (hA6.cell 0).trans rfl
    have y1 := (hA6.cell 1).trans rfl
    have z0 := hA6.frozen 0
    have z1 := hA6.frozen 1
    go_wp2
    try simp only [Exit.inBlock, Exit.then]
    refine bodyPost_ret (results_cell_row rfl _ _ ga 33 (acells a).toArray (0, 0) _ rfl (Blk.two_ hA6 (.int .i64 a.err) (str a.text)) Tryz.underlying33 rfl (by kernel_rfl)) rfl ?_
    have hcA : Chg [ga] w6 _ := (Chg.refl [ga] w6).two_ (g := ga) (by simp) (.int .i64 a.err) (str a.text)
    exact ⟨t, a, hide (hta.out.trans HL.out.symm), rfl, vl6, hB6.chg hcA (by simpa using fun h => hgg h.symm), (hsl6.chg hcA (fun k hk _ => .inr (by simpa using hk))).mono (fun _ _ h => .inl h), ((hx0.chg [g]).trans hc6).then_new hcA (by simp; omega)⟩
  have e1 : ¬ c.kind = 1 := by simpa using k1
  rcases Bool.eq_false_or_eq_true (c.kind == 2) with k2 | k2
  · have HL : Hid (ldoW lfind lkput s c = lnameW lfind lkput s c) := by unfold Hid ldoW; rw [if_neg e4, if_neg e1, if_pos (beq_iff_eq.1 k2)]
    clear e4 e1
    go_wp2_with fail
    refine (lknames_b (fun k => X k ∨ k = ga) g s c _ _ vs _ (fun k hk => hk.elim (fun hk => by have := hX k hk; have := hx0.size; omega) (fun hk => by subst hk; exact hA.lt)) (fun hk => hk.elim hXg fun h => hgg h.symm) (h.ext hx0) hvX2 hsX' hl hr hct hcu hcn).mono ?_
    rintro e w6 ⟨t, a, hta, rfl, vl6, hB6, hsl6, hc6⟩
    have hA6 := hA.chg hc6 (by simpa using hgg)
    have y0 := (hA6.cell 0).trans rfl
    have y1 := (hA6.cell 1).trans rfl
    have z0 := hA6.frozen 0
    have z1 := hA6.frozen 1
    go_wp2
    try simp only [Exit.inBlock, Exit.then]
    refine bodyPost_ret (results_cell_row rfl _ _ ga 33 (acells a).toArray (0, 0) _ rfl (Blk.two_ hA6 (.int .i64 a.err) (str a.text)) Tryz.underlying33 rfl (by kernel_rfl)) rfl ?_
    have hcA : Chg [ga] w6 _ := (Chg.refl [ga] w6).two_ (g := ga) (by simp) (.int .i64 a.err) (str a.text)
    exact ⟨t, a, hide (hta.out.trans HL.out.symm), rfl, vl6, hB6.chg hcA (by simpa using fun h => hgg h.symm), (hsl6.chg hcA (fun k hk _ => .inr (by simpa using hk))).mono (fun _ _ h => .inl h), ((hx0.chg [g]).trans hc6).then_new hcA (by simp; omega)⟩
  have e2 : ¬ c.kind = 2 := by simpa using k2
  rcases Bool.eq_false_or_eq_true (c.kind == 3) with k3 | k3
  case inr =>
    have e3 : ¬ c.kind = 3 := by simpa using k3
    have HL : Hid (ldoW lfind lkput s c = (s, ⟨1, []⟩)) := by unfold Hid ldoW; rw [if_neg e4, if_neg e1, if_neg e2, if_neg e3]
    clear e4 e1 e2 e3
    go_wp2_with fail
    refine (lkans_b 1 [] _).mono ?_
    rintro e W9 ⟨rfl, hx9⟩
    rw [if_neg (by decide)]
    have hA9 := hA.ext hx9
    have y0 := (hA9.cell 0).trans rfl
    have y1 := (hA9.cell 1).trans rfl
    have z0 := hA9.frozen 0
    have z1 := hA9.frozen 1
    go_wp2
    try simp only [Exit.inBlock, Exit.then]
    refine bodyPost_ret (results_cell_row rfl _ _ ga 33 (acells ⟨1, []⟩).toArray (0, 0) _ rfl (Blk.two_ hA9 (.int .i64 1) (str [])) Tryz.underlying33 rfl (by kernel_rfl)) rfl ?_
    have hcA : Chg [ga] W9 _ := (Chg.refl [ga] W9).two_ (g := ga) (by simp) (.int .i64 1) (str [])
    have hxe := (hx0.trans' hx9).then_ hcA (by simp; omega)
    exact ⟨s, _, hide HL.out.symm, rfl, vl, ((h.ext (hx0.trans' hx9)).chg hcA (by simpa using fun h => hgg h.symm)), hsl.ext hxe, hxe.chg [g]⟩
  have HL0 : Hid (ldoW lfind lkput s c = lfindW lfind s c) := by unfold Hid ldoW; rw [if_neg e4, if_neg e1, if_neg e2, if_pos (beq_iff_eq.1 k3)]
  clear e4 e1 e2
  have hM2 := h.ext hx0
  have HT := hide (fun W (hx : Ext w2 W) => tfind_b (.slice At s.links.length ct) s.links c.name W (by omega) (hvN.ext (hx0.trans' hx)) hr hnm)
  obtain ⟨⟨y, is⟩, hyi⟩ : ∃ r, lfv s.links c.name = r := ⟨_, rfl⟩
  rw [hyi] at HT
  have HYI := hide hyi
  clear hyi
  go_upto_region 9 with fail
  go_cut [3, 4] (fun v4 v5 wx => ∃ gl, v4 = .pointer (some ⟨gl, 0, none⟩) ∧ v5 = .bool is ∧ Blk wx gl 53 (lcells y).toArray ∧ Ext w2 wx ∧ w2.heap.size ≤ gl)
  case first =>
    refine Rg.regionX Tryz.checked.mixed 43 14 12 36 _ _ (by rfl) (by rfl) (by kernel_rfl) [
      (fun x_ _ => x_ = .pointer (some ⟨g, 0, none⟩)),
      (fun x_ _ => x_ = .pointer (some ⟨g, 0, none⟩)),
      (fun x_ _ => x_ = .pointer (some ⟨g, 0, none⟩)),
      (fun x_ _ => x_ = .slice At s.links.length ct),
      (fun x_ _ => x_ = .pointer (some ⟨g, 0, none⟩)),
      (fun x_ _ => x_ = .pointer (some ⟨g, 0, none⟩)),
      (fun x_ _ => x_ = .pointer (some ⟨g, 5, none⟩)),
      (fun x_ _ => x_ = .pointer (some ⟨g, 8, none⟩)),
      (fun x_ _ => x_ = str c.name),
      (fun x_ _ => x_ = .tuple #[.agg #[str y.name, str y.url, .int .u64 y.till, .bool y.made], .bool is]),
      (fun x_ _ => x_ = .tuple #[.agg #[str y.name, str y.url, .int .u64 y.till, .bool y.made], .bool is]),
      (fun x_ _ => x_ = .agg #[str y.name, str y.url, .int .u64 y.till, .bool y.made]),
      (fun x_ _ => x_ = .bool is),
      (fun v W => ∃ gl, v = .pointer (some ⟨gl, 0, none⟩) ∧ Blk W gl 53 #[str [], str [], .int .u64 0, .bool false] ∧ w2.heap.size ≤ gl)] (fun W => Ext w2 W) Ext rfl rfl rfl
      ?st ((Ext.rfl' w2).drew') ?ob ?en ?en2
    case st => exact ⟨fun _ _ _ h _ => h, fun _ _ _ h _ => h, fun _ _ _ h _ => h, fun _ _ _ h _ => h, fun _ _ _ h _ => h, fun _ _ _ h _ => h, fun _ _ _ h _ => h, fun _ _ _ h _ => h, fun _ _ _ h _ => h, fun _ _ _ h _ => h, fun _ _ _ h _ => h, fun _ _ _ h _ => h, fun _ _ _ h _ => h, fun _ _ _ ⟨gl, h1, h2, h3⟩ hx => ⟨gl, h1, h2.ext hx, h3⟩, trivial⟩
    case ob =>
      refine ⟨Rg.at_run [0] rfl ?_, ?_⟩
      · intro ρ W hR ⟨q0, _⟩
        replace q0 : ρ 0 = .pointer (some ⟨g, 0, none⟩) := q0
        refine ⟨rfl, ?_⟩
        exact Rg.run_ok (v := .pointer (some ⟨g, 0, none⟩)) (by simp [execOp, Rg.ev, go_sem, q0]) ⟨rfl, hR, Ext.rfl' _⟩
      refine ⟨Rg.at_run [25] rfl ?_, ?_⟩
      · intro ρ W hR ⟨q25, _⟩
        replace q25 : ρ 25 = .pointer (some ⟨g, 0, none⟩) := q25
        refine ⟨rfl, ?_⟩
        exact Rg.run_ok (v := .pointer (some ⟨g, 0, none⟩)) (by simp [execOp, Rg.ev, go_sem, q25]) ⟨rfl, hR, Ext.rfl' _⟩
      refine ⟨Rg.at_run [26] rfl ?_, ?_⟩
      · intro ρ W hR ⟨q26, _⟩
        replace q26 : ρ 26 = .pointer (some ⟨g, 0, none⟩) := q26
        refine ⟨rfl, ?_⟩
        exact Rg.run_ok (v := .pointer (some ⟨g, 0, none⟩)) (by simp [execOp, Rg.ev, go_sem, q26]) ⟨rfl, hR, Ext.rfl' _⟩
      refine ⟨Rg.at_run [27] rfl ?_, ?_⟩
      · intro ρ W hR ⟨q27, _⟩
        replace q27 : ρ 27 = .pointer (some ⟨g, 0, none⟩) := q27
        refine ⟨rfl, ?_⟩
        have c0_ : W.cell? ⟨g, 0, none⟩ = some (.slice At s.links.length ct) := ((hM2.ext hR).cell 0).trans rfl
        exact Rg.run_ok (v := .slice At s.links.length ct) (by simp [execOp, Rg.ev, go_sem, q27, c0_]) ⟨rfl, hR, Ext.rfl' _⟩
      refine ⟨Rg.at_run [0] rfl ?_, ?_⟩
      · intro ρ W hR ⟨q0, _⟩
        replace q0 : ρ 0 = .pointer (some ⟨g, 0, none⟩) := q0
        refine ⟨rfl, ?_⟩
        exact Rg.run_ok (v := .pointer (some ⟨g, 0, none⟩)) (by simp [execOp, Rg.ev, go_sem, q0]) ⟨rfl, hR, Ext.rfl' _⟩
      refine ⟨Rg.at_run [29] rfl ?_, ?_⟩
      · intro ρ W hR ⟨q29, _⟩
        replace q29 : ρ 29 = .pointer (some ⟨g, 0, none⟩) := q29
        refine ⟨rfl, ?_⟩
        exact Rg.run_ok (v := .pointer (some ⟨g, 0, none⟩)) (by simp [execOp, Rg.ev, go_sem, q29]) ⟨rfl, hR, Ext.rfl' _⟩
      refine ⟨Rg.at_run [30] rfl ?_, ?_⟩
      · intro ρ W hR ⟨q30, _⟩
        replace q30 : ρ 30 = .pointer (some ⟨g, 0, none⟩) := q30
        refine ⟨rfl, ?_⟩
        exact Rg.run_ok (v := .pointer (some ⟨g, 5, none⟩)) (by simp [execOp, Rg.ev, go_sem, q30]) ⟨rfl, hR, Ext.rfl' _⟩
      refine ⟨Rg.at_run [31] rfl ?_, ?_⟩
      · intro ρ W hR ⟨q31, _⟩
        replace q31 : ρ 31 = .pointer (some ⟨g, 5, none⟩) := q31
        refine ⟨rfl, ?_⟩
        exact Rg.run_ok (v := .pointer (some ⟨g, 8, none⟩)) (by simp [execOp, Rg.ev, go_sem, q31]) ⟨rfl, hR, Ext.rfl' _⟩
      refine ⟨Rg.at_run [32] rfl ?_, ?_⟩
      · intro ρ W hR ⟨q32, _⟩
        replace q32 : ρ 32 = .pointer (some ⟨g, 8, none⟩) := q32
        refine ⟨rfl, ?_⟩
        have c8_ : W.cell? ⟨g, 8, none⟩ = some (str c.name) := ((hM2.ext hR).cell 8).trans rfl
        exact Rg.run_ok (v := str c.name) (by simp [execOp, Rg.ev, go_sem, q32, c8_]) ⟨rfl, hR, Ext.rfl' _⟩
      refine ⟨Rg.at_run [28, 33] rfl ?_, ?_⟩
      · intro ρ W hR ⟨q28, q33, _⟩
        replace q28 : ρ 28 = .slice At s.links.length ct := q28
        replace q33 : ρ 33 = str c.name := q33
        refine ⟨rfl, ?_⟩
        refine Rg.enter_fn (args := #[.slice At s.links.length ct, str c.name]) rfl (by simp only [List.map_toArray, List.map_cons, List.map_nil, Rg.ev, q28, q33]) (by kernel_rfl) ?_
        refine (HT.out W hR).mono ?_
        rintro e_ w9 ⟨rfl, hxx⟩
        exact ⟨_, rfl, rfl, hR.trans' hxx, hxx⟩
      refine ⟨Rg.at_run [34] rfl ?_, ?_⟩
      · intro ρ W hR ⟨q34, _⟩
        replace q34 : ρ 34 = .tuple #[.agg #[str y.name, str y.url, .int .u64 y.till, .bool y.made], .bool is] := q34
        refine ⟨rfl, ?_⟩
        exact Rg.run_ok (v := .tuple #[.agg #[str y.name, str y.url, .int .u64 y.till, .bool y.made], .bool is]) (by simp [execOp, Rg.ev, go_sem, q34]) ⟨rfl, hR, Ext.rfl' _⟩
      refine ⟨Rg.at_run [24] rfl ?_, ?_⟩
      · intro ρ W hR ⟨q24, _⟩
        replace q24 : ρ 24 = .tuple #[.agg #[str y.name, str y.url, .int .u64 y.till, .bool y.made], .bool is] := q24
        refine ⟨rfl, ?_⟩
        exact Rg.run_ok (v := .agg #[str y.name, str y.url, .int .u64 y.till, .bool y.made]) (by simp [execOp, Rg.ev, go_sem, q24]) ⟨rfl, hR, Ext.rfl' _⟩
      refine ⟨Rg.at_run [24] rfl ?_, ?_⟩
      · intro ρ W hR ⟨q24, _⟩
        replace q24 : ρ 24 = .tuple #[.agg #[str y.name, str y.url, .int .u64 y.till, .bool y.made], .bool is] := q24
        refine ⟨rfl, ?_⟩
        exact Rg.run_ok (v := .bool is) (by simp [execOp, Rg.ev, go_sem, q24]) ⟨rfl, hR, Ext.rfl' _⟩
      refine ⟨Rg.at_run [] rfl ?_, ?_⟩
      · intro ρ W hR _
        refine ⟨rfl, ?_⟩
        exact Rg.run_ok (v := .pointer (some ⟨W.heap.size, 0, none⟩)) (W' := W.alloc (.cells #[str [], str [], .int .u64 0, .bool false] 53)) (by kernel_rfl) ⟨⟨_, rfl, Blk.new W _ _, hR.size⟩, hR.alloc' _, (Ext.rfl' _).alloc' _⟩
      trivial
    case en =>
      intro tm W hR hsz hk
      rw [Rg.fin_eq (ds := [25, 26, 27, 28, 29, 30, 31, 32, 33, 34, 24, 35, 36, 3]) rfl rfl rfl hsz hk]
      have k3 : (fun v W => ∃ gl, v = .pointer (some ⟨gl, 0, none⟩) ∧ Blk W gl 53 #[str [], str [], .int .u64 0, .bool false] ∧ w2.heap.size ≤ gl) (tm.getD 3 undef) W := hk 3
      have k24 : tm.getD 24 undef = .tuple #[.agg #[str y.name, str y.url, .int .u64 y.till, .bool y.made], .bool is] := hk 24
      have k25 : tm.getD 25 undef = .pointer (some ⟨g, 0, none⟩) := hk 25
      have k26 : tm.getD 26 undef = .pointer (some ⟨g, 0, none⟩) := hk 26
      have k27 : tm.getD 27 undef = .pointer (some ⟨g, 0, none⟩) := hk 27
      have k28 : tm.getD 28 undef = .slice At s.links.length ct := hk 28
      have k29 : tm.getD 29 undef = .pointer (some ⟨g, 0, none⟩) := hk 29
      have k30 : tm.getD 30 undef = .pointer (some ⟨g, 0, none⟩) := hk 30
      have k31 : tm.getD 31 undef = .pointer (some ⟨g, 5, none⟩) := hk 31
      have k32 : tm.getD 32 undef = .pointer (some ⟨g, 8, none⟩) := hk 32
      have k33 : tm.getD 33 undef = str c.name := hk 33
      have k34 : tm.getD 34 undef = .tuple #[.agg #[str y.name, str y.url, .int .u64 y.till, .bool y.made], .bool is] := hk 34
      have k35 : tm.getD 35 undef = .agg #[str y.name, str y.url, .int .u64 y.till, .bool y.made] := hk 35
      have k36 : tm.getD 36 undef = .bool is := hk 36
      clear hk hsz
      simp only [Rg.putAll, List.setIfInBounds_toArray, List.set_cons_zero, List.set_cons_succ, k24, k25, k26, k27, k28, k29, k30, k31, k32, k33, k34, k35, k36]
      generalize tm.getD 3 undef = u3 at *
      clear k24
      clear k25
      clear k26
      clear k27
      clear k28
      clear k29
      clear k30
      clear k31
      clear k32
      clear k33
      clear k34
      clear k35
      clear k36
      obtain ⟨gl, rfl, hL, hgl⟩ := k3
      have l0 := (hL.cell 0).trans rfl
      have l1 := (hL.cell 1).trans rfl
      have l2 := (hL.cell 2).trans rfl
      have l3 := (hL.cell 3).trans rfl
      have n0 := hL.frozen 0
      have n1 := hL.frozen 1
      have n2 := hL.frozen 2
      have n3 := hL.frozen 3
      go_wp2_with fail
      go_meet
      case rel => exact ⟨gl, rfl, rfl, Blk.four hL _ _ _ _, hR.then_ ((Chg.refl [gl] W).four (by simp) _ _ _ _) (by simpa using hgl), hgl⟩
    case en2 =>
      intro tm W hR hsz hk
      rw [Rg.fin_eqX (ds := [25, 26, 27, 28, 29, 30, 31, 32, 33, 34, 24, 35, 36, 3]) rfl (by decide) rfl rfl hsz hk]
      have k3 : (fun v W => ∃ gl, v = .pointer (some ⟨gl, 0, none⟩) ∧ Blk W gl 53 #[str [], str [], .int .u64 0, .bool false] ∧ w2.heap.size ≤ gl) (tm.getD 3 undef) W := hk 3
      have k24 : tm.getD 24 undef = .tuple #[.agg #[str y.name, str y.url, .int .u64 y.till, .bool y.made], .bool is] := hk 24
      have k25 : tm.getD 25 undef = .pointer (some ⟨g, 0, none⟩) := hk 25
      have k26 : tm.getD 26 undef = .pointer (some ⟨g, 0, none⟩) := hk 26
      have k27 : tm.getD 27 undef = .pointer (some ⟨g, 0, none⟩) := hk 27
      have k28 : tm.getD 28 undef = .slice At s.links.length ct := hk 28
      have k29 : tm.getD 29 undef = .pointer (some ⟨g, 0, none⟩) := hk 29
      have k30 : tm.getD 30 undef = .pointer (some ⟨g, 0, none⟩) := hk 30
      have k31 : tm.getD 31 undef = .pointer (some ⟨g, 5, none⟩) := hk 31
      have k32 : tm.getD 32 undef = .pointer (some ⟨g, 8, none⟩) := hk 32
      have k33 : tm.getD 33 undef = str c.name := hk 33
      have k34 : tm.getD 34 undef = .tuple #[.agg #[str y.name, str y.url, .int .u64 y.till, .bool y.made], .bool is] := hk 34
      have k35 : tm.getD 35 undef = .agg #[str y.name, str y.url, .int .u64 y.till, .bool y.made] := hk 35
      clear hk hsz
      simp only [Rg.putAll, List.setIfInBounds_toArray, List.set_cons_zero, List.set_cons_succ, k24, k25, k26, k27, k28, k29, k30, k31, k32, k33, k34, k35]
      generalize tm.getD 3 undef = u3 at *
      clear k24
      clear k25
      clear k26
      clear k27
      clear k28
      clear k29
      clear k30
      clear k31
      clear k32
      clear k33
      clear k34
      clear k35
      generalize tm.getD 36 undef = u36 at *
      obtain ⟨gl, rfl, hL, hgl⟩ := k3
      have l0 := (hL.cell 0).trans rfl
      have l1 := (hL.cell 1).trans rfl
      have l2 := (hL.cell 2).trans rfl
      have l3 := (hL.cell 3).trans rfl
      have n0 := hL.frozen 0
      have n1 := hL.frozen 1
      have n2 := hL.frozen 2
      have n3 := hL.frozen 3
      go_wp2_with fail
      go_meet
      case rel => exact ⟨gl, rfl, rfl, Blk.four hL _ _ _ _, hR.then_ ((Chg.refl [gl] W).four (by simp) _ _ _ _) (by simpa using hgl), hgl⟩
  case rest =>
  obtain ⟨gl, rfl, rfl, hL, hx3, hgl⟩ := hcut
  replace hA := hA.ext hx3
  replace hx0 := hx0.trans' hx3
  clear hx3 HT hM2 m5 hsX hvX2 hsX' k4 k1 k2 k3
  generalize wc = w3 at *
  have l1 := (hL.cell 1).trans rfl
  cases is with
  | true =>
    have hfy : lfind s.links c.name = some y := by
      have h1 := HYI.out
      unfold lfv at h1
      split at h1
      · rename_i z hz
        rw [hz, (Prod.mk.inj h1).1]
      · cases (Prod.mk.inj h1).2
    have HL : Hid (ldoW lfind lkput s c = (s, ⟨0, y.url⟩)) := by
      unfold Hid; rw [HL0.out, lfindW, hfy]
    clear hfy
    go_wp2_with fail
    refine (lkans_b 0 y.url _).mono ?_
    rintro e W9 ⟨rfl, hx9⟩
    rw [if_pos rfl]
    have hA9 := hA.ext hx9
    have y0 := (hA9.cell 0).trans rfl
    have y1 := (hA9.cell 1).trans rfl
    have z0 := hA9.frozen 0
    have z1 := hA9.frozen 1
    go_wp2
    try simp only [Exit.inBlock, Exit.then]
    refine bodyPost_ret (results_cell_row rfl _ _ ga 33 (acells ⟨0, y.url⟩).toArray (0, 0) _ rfl (Blk.two_ hA9 (.int .i64 0) (str y.url)) Tryz.underlying33 rfl (by kernel_rfl)) rfl ?_
    have hcA : Chg [ga] W9 _ := (Chg.refl [ga] W9).two_ (g := ga) (by simp) (.int .i64 0) (str y.url)
    have hxe := (hx0.trans' hx9).then_ hcA (by simp; omega)
    exact ⟨s, _, hide HL.out.symm, rfl, vl, ((h.ext (hx0.trans' hx9)).chg hcA (by simpa using fun h => hgg h.symm)), hsl.ext hxe, hxe.chg [g]⟩
  | false =>
    have hfn : lfind s.links c.name = none := by
      have h1 := HYI.out
      unfold lfv at h1
      split at h1
      · cases (Prod.mk.inj h1).2
      · assumption
    have HL : Hid (ldoW lfind lkput s c = (s, ⟨10, []⟩)) := by
      unfold Hid; rw [HL0.out, lfindW, hfn]
    clear hfn
    go_wp2_with fail
    refine (lkans_b 10 [] _).mono ?_
    rintro e W9 ⟨rfl, hx9⟩
    rw [if_neg (by decide)]
    have hA9 := hA.ext hx9
    have y0 := (hA9.cell 0).trans rfl
    have y1 := (hA9.cell 1).trans rfl
    have z0 := hA9.frozen 0
    have z1 := hA9.frozen 1
    go_wp2
    try simp only [Exit.inBlock, Exit.then]
    refine bodyPost_ret (results_cell_row rfl _ _ ga 33 (acells ⟨10, []⟩).toArray (0, 0) _ rfl (Blk.two_ hA9 (.int .i64 10) (str [])) Tryz.underlying33 rfl (by kernel_rfl)) rfl ?_
    have hcA : Chg [ga] W9 _ := (Chg.refl [ga] W9).two_ (g := ga) (by simp) (.int .i64 10) (str [])
    have hxe := (hx0.trans' hx9).then_ hcA (by simp; omega)
    exact ⟨s, _, hide HL.out.symm, rfl, vl, ((h.ext (hx0.trans' hx9)).chg hcA (by simpa using fun h => hgg h.symm)), hsl.ext hxe, hxe.chg [g]⟩
end Go.Proofs.YtamimdlaclglkaaGreat
