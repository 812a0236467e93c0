/- A part of the proof of 'StateBytes'. -/
import Derived.Test.YtamimdlaclglkaaGreatB20
import Derived.Test.YtamimdlaclglkaaGreatB22
namespace Go.Proofs.YtamimdlaclglkaaGreat
set_option linter.unusedVariables false
set_option linter.unusedSimpArgs false
set_option linter.unnecessarySimpa false
set_option maxRecDepth 100000
open Go.RowKit
set_option maxHeartbeats 6400000 in
theorem lknames_b (X : Avoid) (g : Nat) (s : St) (c : Cm) (vt vl vs : Value) (w : World) (hX : ∀ k, X k → k < w.heap.size) (hXg : ¬ X g) (h : Blk w g 107 (mkcells s c vt vl vs).toArray)
    (hvt : Enc.Sl lnE w (fun k => X k ∨ k = g) vt s.links) (hsl : Enc.Sl lnE w X vl s.links) (hl : s.links.length ≤ 10000) (hr : RiseL s.links) (hct : U64 c.till) (hcu : c.url.length ≤ maxLen) (hcn : c.name.length ≤ 1000000) :
    Calls Tryz.prog 92 #[.pointer (some ⟨g, 0, none⟩)] w fun e w' => RetMk X w w' g c vt vs e (lnameW lfind lkput s c) := by
  obtain ⟨At, ct, rfl, -, -⟩ := hvt.form
  have hgw := h.lt
  have hvX : Enc.Sl lnE w X (.slice At s.links.length ct) s.links := hvt.mono fun _ _ h => .inl h
  have hvN : Enc.Sl lnE w noneAt (.slice At s.links.length ct) s.links := hvt.mono fun _ _ h => h.elim
  have hnm : c.name.length ≤ maxLen := by unfold maxLen; omega
  obtain ⟨ga, hga⟩ : ∃ ga, w.heap.size = ga := ⟨_, rfl⟩
  have hA := Blk.new w 33 (acells ⟨0, []⟩).toArray
  have hx0 : Ext w (w.alloc (.cells (acells ⟨0, []⟩).toArray 33)) := (Ext.rfl' w).alloc' _
  rw [hga] at hA
  have hgg : ga ≠ g := by omega
  have hgaw : w.heap.size ≤ ga := by omega
  have HM := hide (fun W (hx : Ext w W) => lkmay_b g s c (.slice At s.links.length ct) vl vs W (h.ext hx))
  have HAL := hide (fun W => alias_b ⟨c.name.toArray⟩ W (by show c.name.toArray.size ≤ _; simp; omega))
  obtain ⟨al, hal⟩ : ∃ al, isAlias c.name = al := ⟨_, rfl⟩
  have HALS := hide hal
  rw [show alias ⟨c.name.toArray⟩ = al from hal] at HAL
  clear hal
  obtain ⟨ek, hek⟩ : ∃ ek, lmay c s.now = ek := ⟨_, rfl⟩
  rw [hek] at HM
  have HEK := hide hek
  clear hek
  go_enter Tryz.func92, Tryz.ntmps92
  go_upto_region 1 with fail
  try rw [hga]
  generalize hw0 : (w.alloc (.cells (acells ⟨0, []⟩).toArray 33)) = w0 at *
  clear hw0
  have m8 : w0.cell? ⟨g, 8, none⟩ = some (str c.name) := ((h.ext hx0).cell 8).trans rfl
  go_wp2_with fail
  refine (HAL.out _).mono ?_
  rintro e w00 ⟨rfl, rfl⟩
  cases al with
  | false =>
    have HL : Hid (lnameW lfind lkput s c = (s, ⟨9, []⟩)) := if_pos HALS.out
    go_wp2_with fail
    refine (lkans_b 9 [] _).mono ?_
    rintro e W9 ⟨rfl, hx9⟩
    rw [if_neg (by decide)]
    have hA9 := hA.ext hx9
    have y0 := (hA9.cell 0).trans rfl
    have y1 := (hA9.cell 1).trans rfl
    have z0 := hA9.frozen 0
    have z1 := hA9.frozen 1
    go_wp2
    try simp only [Exit.inBlock, Exit.then]
    refine bodyPost_ret (results_cell_row rfl _ _ ga 33 (acells ⟨9, []⟩).toArray (0, 0) _ rfl (Blk.two_ hA9 (.int .i64 9) (str [])) Tryz.underlying33 rfl (by kernel_rfl)) rfl ?_
    have hcA : Chg [ga] W9 _ := (Chg.refl [ga] W9).two_ (g := ga) (by simp) (.int .i64 9) (str [])
    have hxe := (hx0.trans' hx9).then_ hcA (by simp; omega)
    exact ⟨s, _, hide HL.out.symm, rfl, vl, ((h.ext (hx0.trans' hx9)).chg hcA (by simpa using fun h => hgg h.symm)), hsl.ext hxe, hxe.chg [g]⟩
  | true =>
  go_wp2_with fail
  refine (HM.out _ hx0).mono ?_
  rintro e w2 ⟨rfl, hx2⟩
  replace hA := hA.ext hx2
  replace hx0 := hx0.trans' hx2
  clear hx2 m8
  by_cases hk : ek = 0
  case neg =>
    have hk' : (ek != 0) = true := by simpa using hk
    have HL : Hid (lnameW lfind lkput s c = (s, ⟨ek, []⟩)) := by unfold Hid lnameW; rw [HALS.out, HEK.out, if_neg (by simp), if_pos hk]
    go_wp2_with fail
    refine (lkans_b ek [] _).mono ?_
    rintro e W9 ⟨rfl, hx9⟩
    rw [if_neg hk]
    have hA9 := hA.ext hx9
    have y0 := (hA9.cell 0).trans rfl
    have y1 := (hA9.cell 1).trans rfl
    have z0 := hA9.frozen 0
    have z1 := hA9.frozen 1
    go_wp2
    try simp only [Exit.inBlock, Exit.then]
    refine bodyPost_ret (results_cell_row rfl _ _ ga 33 (acells ⟨ek, []⟩).toArray (0, 0) _ rfl (Blk.two_ hA9 (.int .i64 ek) (str [])) Tryz.underlying33 rfl (by kernel_rfl)) rfl ?_
    have hcA : Chg [ga] W9 _ := (Chg.refl [ga] W9).two_ (g := ga) (by simp) (.int .i64 ek) (str [])
    have hxe := (hx0.trans' hx9).then_ hcA (by simp; omega)
    exact ⟨s, _, hide HL.out.symm, rfl, vl, ((h.ext (hx0.trans' hx9)).chg hcA (by simpa using fun h => hgg h.symm)), hsl.ext hxe, hxe.chg [g]⟩
  subst hk
  have hM2 := h.ext hx0
  have HT := hide (fun W (hx : Ext w2 W) => tfind_b (.slice At s.links.length ct) s.links c.name W (by omega) (hvN.ext (hx0.trans' hx)) hr hnm)
  obtain ⟨⟨y, is⟩, hyi⟩ : ∃ r, lfv s.links c.name = r := ⟨_, rfl⟩
  rw [hyi] at HT
  have HYI := hide hyi
  clear hyi
  go_upto_region 6 with fail
  go_cut [4, 5] (fun v4 v5 wx => ∃ gl, v4 = .pointer (some ⟨gl, 0, none⟩) ∧ v5 = .bool is ∧ Blk wx gl 53 (lcells y).toArray ∧ Ext w2 wx ∧ w2.heap.size ≤ gl)
  case first =>
    refine Rg.regionX Tryz.checked.mixed 61 14 12 32 _ _ (by rfl) (by rfl) (by kernel_rfl) [
      (fun x_ _ => x_ = .pointer (some ⟨g, 0, none⟩)),
      (fun x_ _ => x_ = .pointer (some ⟨g, 0, none⟩)),
      (fun x_ _ => x_ = .pointer (some ⟨g, 0, none⟩)),
      (fun x_ _ => x_ = .slice At s.links.length ct),
      (fun x_ _ => x_ = .pointer (some ⟨g, 0, none⟩)),
      (fun x_ _ => x_ = .pointer (some ⟨g, 0, none⟩)),
      (fun x_ _ => x_ = .pointer (some ⟨g, 5, none⟩)),
      (fun x_ _ => x_ = .pointer (some ⟨g, 8, none⟩)),
      (fun x_ _ => x_ = str c.name),
      (fun x_ _ => x_ = .tuple #[.agg #[str y.name, str y.url, .int .u64 y.till, .bool y.made], .bool is]),
      (fun x_ _ => x_ = .tuple #[.agg #[str y.name, str y.url, .int .u64 y.till, .bool y.made], .bool is]),
      (fun x_ _ => x_ = .agg #[str y.name, str y.url, .int .u64 y.till, .bool y.made]),
      (fun x_ _ => x_ = .bool is),
      (fun v W => ∃ gl, v = .pointer (some ⟨gl, 0, none⟩) ∧ Blk W gl 53 #[str [], str [], .int .u64 0, .bool false] ∧ w2.heap.size ≤ gl)] (fun W => Ext w2 W) Ext rfl rfl rfl
      ?st ((Ext.rfl' w2).drew') ?ob ?en ?en2
    case st => exact ⟨fun _ _ _ h _ => h, fun _ _ _ h _ => h, fun _ _ _ h _ => h, fun _ _ _ h _ => h, fun _ _ _ h _ => h, fun _ _ _ h _ => h, fun _ _ _ h _ => h, fun _ _ _ h _ => h, fun _ _ _ h _ => h, fun _ _ _ h _ => h, fun _ _ _ h _ => h, fun _ _ _ h _ => h, fun _ _ _ h _ => h, fun _ _ _ ⟨gl, h1, h2, h3⟩ hx => ⟨gl, h1, h2.ext hx, h3⟩, trivial⟩
    case ob =>
      refine ⟨Rg.at_run [0] rfl ?_, ?_⟩
      · intro ρ W hR ⟨q0, _⟩
        replace q0 : ρ 0 = .pointer (some ⟨g, 0, none⟩) := q0
        refine ⟨rfl, ?_⟩
        exact Rg.run_ok (v := .pointer (some ⟨g, 0, none⟩)) (by simp [execOp, Rg.ev, go_sem, q0]) ⟨rfl, hR, Ext.rfl' _⟩
      refine ⟨Rg.at_run [21] rfl ?_, ?_⟩
      · intro ρ W hR ⟨q21, _⟩
        replace q21 : ρ 21 = .pointer (some ⟨g, 0, none⟩) := q21
        refine ⟨rfl, ?_⟩
        exact Rg.run_ok (v := .pointer (some ⟨g, 0, none⟩)) (by simp [execOp, Rg.ev, go_sem, q21]) ⟨rfl, hR, Ext.rfl' _⟩
      refine ⟨Rg.at_run [22] rfl ?_, ?_⟩
      · intro ρ W hR ⟨q22, _⟩
        replace q22 : ρ 22 = .pointer (some ⟨g, 0, none⟩) := q22
        refine ⟨rfl, ?_⟩
        exact Rg.run_ok (v := .pointer (some ⟨g, 0, none⟩)) (by simp [execOp, Rg.ev, go_sem, q22]) ⟨rfl, hR, Ext.rfl' _⟩
      refine ⟨Rg.at_run [23] rfl ?_, ?_⟩
      · intro ρ W hR ⟨q23, _⟩
        replace q23 : ρ 23 = .pointer (some ⟨g, 0, none⟩) := q23
        refine ⟨rfl, ?_⟩
        have c0_ : W.cell? ⟨g, 0, none⟩ = some (.slice At s.links.length ct) := ((hM2.ext hR).cell 0).trans rfl
        exact Rg.run_ok (v := .slice At s.links.length ct) (by simp [execOp, Rg.ev, go_sem, q23, c0_]) ⟨rfl, hR, Ext.rfl' _⟩
      refine ⟨Rg.at_run [0] rfl ?_, ?_⟩
      · intro ρ W hR ⟨q0, _⟩
        replace q0 : ρ 0 = .pointer (some ⟨g, 0, none⟩) := q0
        refine ⟨rfl, ?_⟩
        exact Rg.run_ok (v := .pointer (some ⟨g, 0, none⟩)) (by simp [execOp, Rg.ev, go_sem, q0]) ⟨rfl, hR, Ext.rfl' _⟩
      refine ⟨Rg.at_run [25] rfl ?_, ?_⟩
      · intro ρ W hR ⟨q25, _⟩
        replace q25 : ρ 25 = .pointer (some ⟨g, 0, none⟩) := q25
        refine ⟨rfl, ?_⟩
        exact Rg.run_ok (v := .pointer (some ⟨g, 0, none⟩)) (by simp [execOp, Rg.ev, go_sem, q25]) ⟨rfl, hR, Ext.rfl' _⟩
      refine ⟨Rg.at_run [26] rfl ?_, ?_⟩
      · intro ρ W hR ⟨q26, _⟩
        replace q26 : ρ 26 = .pointer (some ⟨g, 0, none⟩) := q26
        refine ⟨rfl, ?_⟩
        exact Rg.run_ok (v := .pointer (some ⟨g, 5, none⟩)) (by simp [execOp, Rg.ev, go_sem, q26]) ⟨rfl, hR, Ext.rfl' _⟩
      refine ⟨Rg.at_run [27] rfl ?_, ?_⟩
      · intro ρ W hR ⟨q27, _⟩
        replace q27 : ρ 27 = .pointer (some ⟨g, 5, none⟩) := q27
        refine ⟨rfl, ?_⟩
        exact Rg.run_ok (v := .pointer (some ⟨g, 8, none⟩)) (by simp [execOp, Rg.ev, go_sem, q27]) ⟨rfl, hR, Ext.rfl' _⟩
      refine ⟨Rg.at_run [28] rfl ?_, ?_⟩
      · intro ρ W hR ⟨q28, _⟩
        replace q28 : ρ 28 = .pointer (some ⟨g, 8, none⟩) := q28
        refine ⟨rfl, ?_⟩
        have c8_ : W.cell? ⟨g, 8, none⟩ = some (str c.name) := ((hM2.ext hR).cell 8).trans rfl
        exact Rg.run_ok (v := str c.name) (by simp [execOp, Rg.ev, go_sem, q28, c8_]) ⟨rfl, hR, Ext.rfl' _⟩
      refine ⟨Rg.at_run [24, 29] rfl ?_, ?_⟩
      · intro ρ W hR ⟨q24, q29, _⟩
        replace q24 : ρ 24 = .slice At s.links.length ct := q24
        replace q29 : ρ 29 = str c.name := q29
        refine ⟨rfl, ?_⟩
        refine Rg.enter_fn (args := #[.slice At s.links.length ct, str c.name]) rfl (by simp only [List.map_toArray, List.map_cons, List.map_nil, Rg.ev, q24, q29]) (by kernel_rfl) ?_
        refine (HT.out W hR).mono ?_
        rintro e_ w9 ⟨rfl, hxx⟩
        exact ⟨_, rfl, rfl, hR.trans' hxx, hxx⟩
      refine ⟨Rg.at_run [30] rfl ?_, ?_⟩
      · intro ρ W hR ⟨q30, _⟩
        replace q30 : ρ 30 = .tuple #[.agg #[str y.name, str y.url, .int .u64 y.till, .bool y.made], .bool is] := q30
        refine ⟨rfl, ?_⟩
        exact Rg.run_ok (v := .tuple #[.agg #[str y.name, str y.url, .int .u64 y.till, .bool y.made], .bool is]) (by simp [execOp, Rg.ev, go_sem, q30]) ⟨rfl, hR, Ext.rfl' _⟩
      refine ⟨Rg.at_run [20] rfl ?_, ?_⟩
      · intro ρ W hR ⟨q20, _⟩
        replace q20 : ρ 20 = .tuple #[.agg #[str y.name, str y.url, .int .u64 y.till, .bool y.made], .bool is] := q20
        refine ⟨rfl, ?_⟩
        exact Rg.run_ok (v := .agg #[str y.name, str y.url, .int .u64 y.till, .bool y.made]) (by simp [execOp, Rg.ev, go_sem, q20]) ⟨rfl, hR, Ext.rfl' _⟩
      refine ⟨Rg.at_run [20] rfl ?_, ?_⟩
      · intro ρ W hR ⟨q20, _⟩
        replace q20 : ρ 20 = .tuple #[.agg #[str y.name, str y.url, .int .u64 y.till, .bool y.made], .bool is] := q20
        refine ⟨rfl, ?_⟩
        exact Rg.run_ok (v := .bool is) (by simp [execOp, Rg.ev, go_sem, q20]) ⟨rfl, hR, Ext.rfl' _⟩
      refine ⟨Rg.at_run [] rfl ?_, ?_⟩
      · intro ρ W hR _
        refine ⟨rfl, ?_⟩
        exact Rg.run_ok (v := .pointer (some ⟨W.heap.size, 0, none⟩)) (W' := W.alloc (.cells #[str [], str [], .int .u64 0, .bool false] 53)) (by kernel_rfl) ⟨⟨_, rfl, Blk.new W _ _, hR.size⟩, hR.alloc' _, (Ext.rfl' _).alloc' _⟩
      trivial
    case en =>
      intro tm W hR hsz hk
      rw [Rg.fin_eq (ds := [21, 22, 23, 24, 25, 26, 27, 28, 29, 30, 20, 31, 32, 4]) rfl rfl rfl hsz hk]
      have k4 : (fun v W => ∃ gl, v = .pointer (some ⟨gl, 0, none⟩) ∧ Blk W gl 53 #[str [], str [], .int .u64 0, .bool false] ∧ w2.heap.size ≤ gl) (tm.getD 4 undef) W := hk 4
      have k20 : tm.getD 20 undef = .tuple #[.agg #[str y.name, str y.url, .int .u64 y.till, .bool y.made], .bool is] := hk 20
      have k21 : tm.getD 21 undef = .pointer (some ⟨g, 0, none⟩) := hk 21
      have k22 : tm.getD 22 undef = .pointer (some ⟨g, 0, none⟩) := hk 22
      have k23 : tm.getD 23 undef = .pointer (some ⟨g, 0, none⟩) := hk 23
      have k24 : tm.getD 24 undef = .slice At s.links.length ct := hk 24
      have k25 : tm.getD 25 undef = .pointer (some ⟨g, 0, none⟩) := hk 25
      have k26 : tm.getD 26 undef = .pointer (some ⟨g, 0, none⟩) := hk 26
      have k27 : tm.getD 27 undef = .pointer (some ⟨g, 5, none⟩) := hk 27
      have k28 : tm.getD 28 undef = .pointer (some ⟨g, 8, none⟩) := hk 28
      have k29 : tm.getD 29 undef = str c.name := hk 29
      have k30 : tm.getD 30 undef = .tuple #[.agg #[str y.name, str y.url, .int .u64 y.till, .bool y.made], .bool is] := hk 30
      have k31 : tm.getD 31 undef = .agg #[str y.name, str y.url, .int .u64 y.till, .bool y.made] := hk 31
      have k32 : tm.getD 32 undef = .bool is := hk 32
      clear hk hsz
      simp only [Rg.putAll, List.setIfInBounds_toArray, List.set_cons_zero, List.set_cons_succ, k20, k21, k22, k23, k24, k25, k26, k27, k28, k29, k30, k31, k32]
      generalize tm.getD 4 undef = u4 at *
      clear k20
      clear k21
      clear k22
      clear k23
      clear k24
      clear k25
      clear k26
      clear k27
      clear k28
      clear k29
      clear k30
      clear k31
      clear k32
      obtain ⟨gl, rfl, hL, hgl⟩ := k4
      have l0 := (hL.cell 0).trans rfl
      have l1 := (hL.cell 1).trans rfl
      have l2 := (hL.cell 2).trans rfl
      have l3 := (hL.cell 3).trans rfl
      have n0 := hL.frozen 0
      have n1 := hL.frozen 1
      have n2 := hL.frozen 2
      have n3 := hL.frozen 3
      go_wp2_with fail
      go_meet
      case rel => exact ⟨gl, rfl, rfl, Blk.four hL _ _ _ _, hR.then_ ((Chg.refl [gl] W).four (by simp) _ _ _ _) (by simpa using hgl), hgl⟩
    case en2 =>
      intro tm W hR hsz hk
      rw [Rg.fin_eqX (ds := [21, 22, 23, 24, 25, 26, 27, 28, 29, 30, 20, 31, 32, 4]) rfl (by decide) rfl rfl hsz hk]
      have k4 : (fun v W => ∃ gl, v = .pointer (some ⟨gl, 0, none⟩) ∧ Blk W gl 53 #[str [], str [], .int .u64 0, .bool false] ∧ w2.heap.size ≤ gl) (tm.getD 4 undef) W := hk 4
      have k20 : tm.getD 20 undef = .tuple #[.agg #[str y.name, str y.url, .int .u64 y.till, .bool y.made], .bool is] := hk 20
      have k21 : tm.getD 21 undef = .pointer (some ⟨g, 0, none⟩) := hk 21
      have k22 : tm.getD 22 undef = .pointer (some ⟨g, 0, none⟩) := hk 22
      have k23 : tm.getD 23 undef = .pointer (some ⟨g, 0, none⟩) := hk 23
      have k24 : tm.getD 24 undef = .slice At s.links.length ct := hk 24
      have k25 : tm.getD 25 undef = .pointer (some ⟨g, 0, none⟩) := hk 25
      have k26 : tm.getD 26 undef = .pointer (some ⟨g, 0, none⟩) := hk 26
      have k27 : tm.getD 27 undef = .pointer (some ⟨g, 5, none⟩) := hk 27
      have k28 : tm.getD 28 undef = .pointer (some ⟨g, 8, none⟩) := hk 28
      have k29 : tm.getD 29 undef = str c.name := hk 29
      have k30 : tm.getD 30 undef = .tuple #[.agg #[str y.name, str y.url, .int .u64 y.till, .bool y.made], .bool is] := hk 30
      have k31 : tm.getD 31 undef = .agg #[str y.name, str y.url, .int .u64 y.till, .bool y.made] := hk 31
      clear hk hsz
      simp only [Rg.putAll, List.setIfInBounds_toArray, List.set_cons_zero, List.set_cons_succ, k20, k21, k22, k23, k24, k25, k26, k27, k28, k29, k30, k31]
      generalize tm.getD 4 undef = u4 at *
      clear k20
      clear k21
      clear k22
      clear k23
      clear k24
      clear k25
      clear k26
      clear k27
      clear k28
      clear k29
      clear k30
      clear k31
      generalize tm.getD 32 undef = u32 at *
      obtain ⟨gl, rfl, hL, hgl⟩ := k4
      have l0 := (hL.cell 0).trans rfl
      have l1 := (hL.cell 1).trans rfl
      have l2 := (hL.cell 2).trans rfl
      have l3 := (hL.cell 3).trans rfl
      have n0 := hL.frozen 0
      have n1 := hL.frozen 1
      have n2 := hL.frozen 2
      have n3 := hL.frozen 3
      go_wp2_with fail
      go_meet
      case rel => exact ⟨gl, rfl, rfl, Blk.four hL _ _ _ _, hR.then_ ((Chg.refl [gl] W).four (by simp) _ _ _ _) (by simpa using hgl), hgl⟩
  case rest =>
  obtain ⟨gl, rfl, rfl, hL, hx3, hgl⟩ := hcut
  replace hA := hA.ext hx3
  replace hx0 := hx0.trans' hx3
  replace hM2 := hM2.ext hx3
  clear hx3 HT HM HAL
  generalize wc = w3 at *
  have l0 := (hL.cell 0).trans rfl
  have l1 := (hL.cell 1).trans rfl
  have l2 := (hL.cell 2).trans rfl
  have l3 := (hL.cell 3).trans rfl
  have m0 : w3.cell? ⟨g, 0, none⟩ = some (.slice At s.links.length ct) := (hM2.cell 0).trans rfl
  have m8 : w3.cell? ⟨g, 8, none⟩ = some (str c.name) := (hM2.cell 8).trans rfl
  cases is with
  | true =>
    have hfy : lfind s.links c.name = some y := by
      have h1 := HYI.out
      unfold lfv at h1
      split at h1
      · rename_i z hz
        rw [hz, (Prod.mk.inj h1).1]
      · cases (Prod.mk.inj h1).2
    obtain ⟨hyn, -⟩ := lfind_some hfy
    have HFY := hide hfy
    have HYN := hide hyn
    clear hfy hyn
    go_wp2_with fail
    refine (lkown_b g s c (.slice At s.links.length ct) vl vs y _ hM2).mono ?_
    rintro e w4 ⟨rfl, hx4⟩
    replace hA := hA.ext hx4
    replace hx0 := hx0.trans' hx4
    replace hL := hL.ext hx4
    clear l0 l1 l2 l3 m0 m8 hM2 hx4
    have l0 := (hL.cell 0).trans rfl
    cases how : lown c y with
    | true =>
      have HL : Hid (lnameW lfind lkput s c = (s, ⟨0, y.name⟩)) := by
        unfold Hid lnameW
        rw [HALS.out, HEK.out, if_neg (by simp), if_neg (by simp), HFY.out]
        simp only
        rw [if_pos how, HYN.out]
      clear how
      go_wp2_with fail
      refine (lkans_b 0 y.name _).mono ?_
      rintro e W9 ⟨rfl, hx9⟩
      rw [if_pos rfl]
      have hA9 := hA.ext hx9
      have y0 := (hA9.cell 0).trans rfl
      have y1 := (hA9.cell 1).trans rfl
      have z0 := hA9.frozen 0
      have z1 := hA9.frozen 1
      go_wp2
      try simp only [Exit.inBlock, Exit.then]
      refine bodyPost_ret (results_cell_row rfl _ _ ga 33 (acells ⟨0, y.name⟩).toArray (0, 0) _ rfl (Blk.two_ hA9 (.int .i64 0) (str y.name)) Tryz.underlying33 rfl (by kernel_rfl)) rfl ?_
      have hcA : Chg [ga] W9 _ := (Chg.refl [ga] W9).two_ (g := ga) (by simp) (.int .i64 0) (str y.name)
      have hxe := (hx0.trans' hx9).then_ hcA (by simp; omega)
      exact ⟨s, _, hide HL.out.symm, rfl, vl, ((h.ext (hx0.trans' hx9)).chg hcA (by simpa using fun h => hgg h.symm)), hsl.ext hxe, hxe.chg [g]⟩
    | false =>
      have HL : Hid (lnameW lfind lkput s c = (s, ⟨11, []⟩)) := by
        unfold Hid lnameW
        rw [HALS.out, HEK.out, if_neg (by simp), if_neg (by simp), HFY.out]
        simp only
        rw [if_neg (by rw [how]; simp)]
      clear how
      go_wp2_with fail
      refine (lkans_b 11 [] _).mono ?_
      rintro e W9 ⟨rfl, hx9⟩
      rw [if_neg (by decide)]
      have hA9 := hA.ext hx9
      have y0 := (hA9.cell 0).trans rfl
      have y1 := (hA9.cell 1).trans rfl
      have z0 := hA9.frozen 0
      have z1 := hA9.frozen 1
      go_wp2
      try simp only [Exit.inBlock, Exit.then]
      refine bodyPost_ret (results_cell_row rfl _ _ ga 33 (acells ⟨11, []⟩).toArray (0, 0) _ rfl (Blk.two_ hA9 (.int .i64 11) (str [])) Tryz.underlying33 rfl (by kernel_rfl)) rfl ?_
      have hcA : Chg [ga] W9 _ := (Chg.refl [ga] W9).two_ (g := ga) (by simp) (.int .i64 11) (str [])
      have hxe := (hx0.trans' hx9).then_ hcA (by simp; omega)
      exact ⟨s, _, hide HL.out.symm, rfl, vl, ((h.ext (hx0.trans' hx9)).chg hcA (by simpa using fun h => hgg h.symm)), hsl.ext hxe, hxe.chg [g]⟩
  | false =>
    have hfn : lfind s.links c.name = none := by
      have h1 := HYI.out
      unfold lfv at h1
      split at h1
      · cases (Prod.mk.inj h1).2
      · assumption
    have HFN := hide hfn
    clear hfn
    by_cases h40 : (40 : Int) ≤ s.links.length
    · have HL : Hid (lnameW lfind lkput s c = (s, ⟨12, []⟩)) := by
        unfold Hid lnameW
        rw [HALS.out, HEK.out, if_neg (by simp), if_neg (by simp), HFN.out]
        simp only
        rw [if_pos (by omega)]
      go_wp2_with fail
      refine (lkans_b 12 [] _).mono ?_
      rintro e W9 ⟨rfl, hx9⟩
      rw [if_neg (by decide)]
      have hA9 := hA.ext hx9
      have y0 := (hA9.cell 0).trans rfl
      have y1 := (hA9.cell 1).trans rfl
      have z0 := hA9.frozen 0
      have z1 := hA9.frozen 1
      go_wp2
      try simp only [Exit.inBlock, Exit.then]
      refine bodyPost_ret (results_cell_row rfl _ _ ga 33 (acells ⟨12, []⟩).toArray (0, 0) _ rfl (Blk.two_ hA9 (.int .i64 12) (str [])) Tryz.underlying33 rfl (by kernel_rfl)) rfl ?_
      have hcA : Chg [ga] W9 _ := (Chg.refl [ga] W9).two_ (g := ga) (by simp) (.int .i64 12) (str [])
      have hxe := (hx0.trans' hx9).then_ hcA (by simp; omega)
      exact ⟨s, _, hide HL.out.symm, rfl, vl, ((h.ext (hx0.trans' hx9)).chg hcA (by simpa using fun h => hgg h.symm)), hsl.ext hxe, hxe.chg [g]⟩
    · have HL : Hid (lnameW lfind lkput s c = (⟨s.now, s.count, lkput s.links ⟨c.name, c.url, c.till, false⟩, s.sess⟩, ⟨0, c.name⟩)) := by
        unfold Hid lnameW
        rw [HALS.out, HEK.out, if_neg (by simp), if_neg (by simp), HFN.out]
        simp only
        rw [if_neg (by omega)]
      have hvp := (hvt.mono (Y := fun k => X k ∨ k = ga) (fun k hk h => h.elim .inl fun h => by omega)).ext hx0
      go_wp2_with fail
      refine (lkput_b (fun k => X k ∨ k = ga) g s c (.slice At s.links.length ct) vl vs c.name false _ (fun k hk => hk.elim (fun hk => by have := hX k hk; have := hx0.size; omega) (fun hk => by subst hk; exact hA.lt)) (fun hk => hk.elim hXg fun h => hgg h.symm) hM2 hvp hl hr HFN.out ⟨hnm, hcu, hct⟩).mono ?_
      rintro e w6 ⟨t, a, hta, rfl, vl6, hB6, hsl6, hc6⟩
      obtain ⟨rfl, rfl⟩ := Prod.mk.inj hta.out
      have hA6 := hA.chg hc6 (by simpa using hgg)
      have y0 := (hA6.cell 0).trans rfl
      have y1 := (hA6.cell 1).trans rfl
      have z0 := hA6.frozen 0
      have z1 := hA6.frozen 1
      go_wp2
      try simp only [Exit.inBlock, Exit.then]
      refine bodyPost_ret (results_cell_row rfl _ _ ga 33 (acells ⟨0, c.name⟩).toArray (0, 0) _ rfl (Blk.two_ hA6 (.int .i64 0) (str (c.name))) Tryz.underlying33 rfl (by kernel_rfl)) rfl ?_
      have hcA : Chg [ga] w6 _ := (Chg.refl [ga] w6).two_ (g := ga) (by simp) (.int .i64 0) (str (c.name))
      exact ⟨_, _, hide HL.out.symm, rfl, vl6, hB6.chg hcA (by simpa using fun h => hgg h.symm), (hsl6.chg hcA (fun k hk _ => .inr (by simpa using hk))).mono (fun _ _ h => .inl h), ((hx0.chg [g]).trans hc6).then_new hcA (by simp; omega)⟩
end Go.Proofs.YtamimdlaclglkaaGreat
