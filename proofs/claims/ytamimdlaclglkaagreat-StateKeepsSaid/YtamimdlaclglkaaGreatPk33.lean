import Derived.Test.YtamimdlaclglkaaGreatPk32
import Derived.Test.YtamimdlaclglkaaGreatPk9
import Derived.Test.YtamimdlaclglkaaGreatPk14
import Derived.Deep.CutBlock
import Derived.Test.YtamimdlaclglkaaGreatPk28
/- shortcutplay: commands. -/
namespace Go.Proofs.YtamimdlaclglkaaGreat
set_option linter.unusedVariables false
set_option linter.unusedSimpArgs false
set_option linter.unnecessarySimpa false
set_option maxRecDepth 100000
open Go.RowKit
/-- a command that is made of numbers -/
structure PlayC (c : Cm) : Prop where
  k0 : 1 ≤ c.kind
  k1 : c.kind ≤ 4
  client : c.client = 0
  seq : c.seq = 0
  name : c.name.length ≤ 20
  url : c.url.length ≤ 20
  t0 : 0 ≤ c.till
  t1 : c.till ≤ 40
def namesB : List Bytes := [[97, 98, 99, 100], [110, 97, 109, 101, 45, 49], [120], [122, 122, 122, 122]]
def findB : List Bytes := [[48, 48, 48], [48, 48, 49], [48, 48, 50], [97, 98, 99, 100], [110, 97, 109, 101, 45, 49], [122, 122, 122]]
/-- while a command is made -/
def PR (g gc : Nat) (x : Value) (b : Bytes) (w1 W : World) : Prop := ∃ (n : Nat) (c : Cm), PkAt W g x b n ∧ Blk W gc 37 (ccells c) ∧ PlayC c ∧ Chg [g, gc] w1 W
theorem PR.drew {g gc : Nat} {x : Value} {b : Bytes} {w1 W : World} (h : PR g gc x b w1 W) : PR g gc x b w1 W.drew := by
  obtain ⟨n, c, h1, h2, h3, h4⟩ := h
  exact ⟨n, c, h1.ext (Ext.rfl' W).drew', h2.drew, h3, h4.drew⟩
theorem Blk.six_ {w : World} {g : Nat} {T : TypeId} {x0 x1 x2 x3 x4 x5 : Value} (h : Blk w g T #[x0, x1, x2, x3, x4, x5]) (a b c d e f : Value) :
    Blk ((((((w.setCell ⟨g, 0, none⟩ a).setCell ⟨g, 1, none⟩ b).setCell ⟨g, 2, none⟩ c).setCell ⟨g, 3, none⟩ d).setCell ⟨g, 4, none⟩ e).setCell ⟨g, 5, none⟩ f) g T #[a, b, c, d, e, f] := (((((h.set_ 0 a).set_ 1 b).set_ 2 c).set_ 3 d).set_ 4 e).set_ 5 f
theorem Chg.six_ {S : List Nat} {w0 w : World} {g : Nat} (h : Chg S w0 w) (hg : g ∈ S) (a b c d e f : Value) :
    Chg S w0 ((((((w.setCell ⟨g, 0, none⟩ a).setCell ⟨g, 1, none⟩ b).setCell ⟨g, 2, none⟩ c).setCell ⟨g, 3, none⟩ d).setCell ⟨g, 4, none⟩ e).setCell ⟨g, 5, none⟩ f) := (((((h.set hg _).set hg _).set hg _).set hg _).set hg _).set hg _
theorem Chg.less {S T : List Nat} {a b : World} (h : Chg S a b) (hs : ∀ k, k ∈ S → k ∈ T ∨ a.heap.size ≤ k) : Chg T a b :=
  ⟨h.os, h.tape, h.output, h.size, fun i hi hn => h.block i hi fun hm => (hs i hm).elim hn fun h => by omega⟩
set_option maxHeartbeats 6400000 in
theorem pkcmd_b (g : Nat) (x : Value) (b : Bytes) (n : Nat) (w : World) (h : PkAt w g x b n) :
    Calls Tryz.prog 26 #[.pointer (some ⟨g, 0, none⟩)] w fun e w' => ∃ c : Cm, PlayC c ∧ e = .returned (cv c) ∧ PkTo w w' g x b := by
  have hgw := h.blk.lt
  have hx0 : Ext w (w.alloc (.cells (ccells Cm.zero) 37)) := (Ext.rfl' w).alloc' _
  have hR := Blk.new w 37 (ccells Cm.zero)
  obtain ⟨gr, hgr⟩ : ∃ gr, w.heap.size = gr := ⟨_, rfl⟩
  rw [hgr] at hR
  go_enter Tryz.func26, Tryz.ntmps26
  go_wp2_with fail
  refine (pknum_b g x b n 10 _ (h.ext hx0) (by decide)).mono ?_
  rintro e w2 ⟨k, hk, rfl, n2, h2, hc2⟩
  replace hR := hR.chg hc2 (by simp; omega)
  have hcw := (hx0.chg [g]).trans hc2
  have hx3 : Ext w2 (w2.alloc (.cells (ccells ⟨1, 0, 0, [], [], 0⟩) 37)) := (Ext.rfl' w2).alloc' _
  have hC := Blk.new w2 37 (ccells ⟨1, 0, 0, [], [], 0⟩)
  have hs2 : gr < w2.heap.size := hR.lt
  obtain ⟨gc, hgc⟩ : ∃ gc, w2.heap.size = gc := ⟨_, rfl⟩
  rw [hgc] at hC
  replace hR := hR.ext hx3
  replace h2 := h2.ext hx3
  replace hcw := hcw.trans (hx3.chg [g])
  have hgg : g ≠ gc := by omega
  have hoff : Off x [gc] := h.bs.off (by simp; omega)
  go_upto_block 0 with fail
  generalize hw1 : w2.alloc (.cells (ccells ⟨1, 0, 0, [], [], 0⟩) 37) = w1 at *
  try rw [hw1]
  clear hw1
  have hP : PR g gc x b w1 w1 := ⟨n2, _, h2, hC, ⟨by decide, by decide, rfl, rfl, by decide, by decide, by decide, by decide⟩, Chg.refl _ _⟩
  go_cut [] (fun wx => PR g gc x b w1 wx)
  case first =>
    have f0 := hC.frozen 0
    have f3 := hC.frozen 3
    have f4 := hC.frozen 4
    have f5 := hC.frozen 5
    have y0 := (hC.cell 0).trans rfl
    have y3 := (hC.cell 3).trans rfl
    have y4 := (hC.cell 4).trans rfl
    have y5 := (hC.cell 5).trans rfl
    by_cases k4 : (k : Int) < 4
    · go_wp2_with fail
      refine (pkurl_b g x b n2 _ h2).mono ?_
      rintro e w5 ⟨u, hu, rfl, n5, h5, hc5⟩
      go_wp2_with fail
      refine (pkuntil_b g x b n5 _ h5).mono ?_
      rintro e w6 ⟨t, ht, rfl, n6, h6, hc6⟩
      have hC6 := (hC.chg hc5 (by simp; omega)).chg hc6 (by simp; omega)
      clear f0 f3 f4 f5 y0 y3 y4 y5
      have f4 := hC6.frozen 4
      have f5 := hC6.frozen 5
      have y4 := (hC6.cell 4).trans rfl
      have y5 := (hC6.cell 5).trans rfl
      go_wp2_with fail
      go_meet
      case rel =>
        have hcg : Chg [gc] w6 _ := ((Chg.refl [gc] w6).set (p := ⟨gc, 4, none⟩) (by simp) (str u)).set (p := ⟨gc, 5, none⟩) (by simp) (.int .u64 t)
        exact ⟨n6, ⟨1, 0, 0, [], u, t⟩, h6.chg hcg (by simpa using hgg) hoff, (hC6.set_ 4 (str u)).set_ 5 (.int .u64 t), ⟨(by decide : (1 : Int) ≤ 1), (by decide : (1 : Int) ≤ 4), rfl, rfl, Nat.zero_le _, hu, ht.1, ht.2⟩, ((hc5.trans hc6).mono (by simp)).trans (hcg.mono (by simp))⟩
    by_cases k7 : (k : Int) < 7
    · go_upto_region 7 with fail
      refine Rg.regionT Tryz.checked.mixed 49 17 (by kernel_rfl) [
        (fun v W => ∃ gl, v = .slice (some ⟨gl, 0, none⟩) 4 4 ∧ Blk W gl 9 (namesB.map str).toArray ∧ gc < gl ∧ g < gl),
        (fun x_ _ => x_ = .pointer (some ⟨g, 0, none⟩)),
        (fun v _ => ∃ r : Nat, r < 4 ∧ v = .int .i64 r),
        (fun v W => ∃ gl r, v = .pointer (some ⟨gl, r, none⟩) ∧ Blk W gl 9 (namesB.map str).toArray ∧ gc < gl ∧ g < gl ∧ r < 4),
        (fun v _ => ∃ u : Bytes, u.length ≤ 20 ∧ v = str u),
        (fun x_ _ => x_ = .pointer (some ⟨g, 0, none⟩)),
        (fun v _ => ∃ u : Bytes, u.length ≤ 20 ∧ v = str u),
        (fun x_ _ => x_ = .pointer (some ⟨g, 0, none⟩)),
        (fun v _ => ∃ t : Int, (0 ≤ t ∧ t ≤ 40) ∧ v = .int .u64 t),
        (fun x_ _ => x_ = .pointer (some ⟨gc, 0, none⟩)),
        (fun x_ _ => x_ = undef),
        (fun x_ _ => x_ = .pointer (some ⟨gc, 3, none⟩)),
        (fun x_ _ => x_ = undef),
        (fun x_ _ => x_ = .pointer (some ⟨gc, 4, none⟩)),
        (fun x_ _ => x_ = undef),
        (fun x_ _ => x_ = .pointer (some ⟨gc, 5, none⟩)),
        (fun x_ _ => x_ = undef)] (fun W => PR g gc x b w1 W) (Chg [g, gc]) rfl rfl rfl
        ?st (PR.drew hP) ?ob ?en
      case st => exact ⟨fun _ _ _ ⟨gl, h1, h2, h3, h4⟩ hx => ⟨gl, h1, h2.chg hx (by simp; omega), h3, h4⟩, fun _ _ _ h _ => h, fun _ _ _ h _ => h, fun _ _ _ ⟨gl, r, h1, h2, h3, h4, h5⟩ hx => ⟨gl, r, h1, h2.chg hx (by simp; omega), h3, h4, h5⟩, fun _ _ _ h _ => h, fun _ _ _ h _ => h, fun _ _ _ h _ => h, fun _ _ _ h _ => h, fun _ _ _ h _ => h, fun _ _ _ h _ => h, fun _ _ _ h _ => h, fun _ _ _ h _ => h, fun _ _ _ h _ => h, fun _ _ _ h _ => h, fun _ _ _ h _ => h, fun _ _ _ h _ => h, fun _ _ _ h _ => h, trivial⟩
      case ob =>
        refine ⟨Rg.at_run [] rfl ?_, ?_⟩
        · intro ρ W hR _
          refine ⟨rfl, ?_⟩
          obtain ⟨n_, c_, hp_, hb_, hc_, hg_⟩ := hR
          have hx_ : Ext W (W.alloc (.cells (namesB.map str).toArray 9)) := (Ext.rfl' W).alloc' _
          exact Rg.run_ok (v := .slice (some ⟨W.heap.size, 0, none⟩) 4 4) (W' := W.alloc (.cells (namesB.map str).toArray 9)) (by kernel_rfl) ⟨⟨_, rfl, Blk.new W _ _, hb_.lt, hp_.blk.lt⟩, ⟨n_, c_, hp_.ext hx_, hb_.ext hx_, hc_, hg_.trans (hx_.chg _)⟩, hx_.chg _⟩
        refine ⟨Rg.at_run [0] rfl ?_, ?_⟩
        · intro ρ W hR ⟨q0, _⟩
          replace q0 : ρ 0 = .pointer (some ⟨g, 0, none⟩) := q0
          refine ⟨rfl, ?_⟩
          exact Rg.run_ok (v := .pointer (some ⟨g, 0, none⟩)) (by simp [execOp, Rg.ev, go_sem, q0]) ⟨rfl, hR, Chg.refl _ _⟩
        refine ⟨Rg.at_run [26] rfl ?_, ?_⟩
        · intro ρ W hR ⟨q26, _⟩
          replace q26 : ρ 26 = .pointer (some ⟨g, 0, none⟩) := q26
          refine ⟨rfl, ?_⟩
          obtain ⟨n_, c_, hp_, hb_, hc_, hg_⟩ := hR
          refine Rg.enter_fn (args := #[.pointer (some ⟨g, 0, none⟩), .int .i64 4]) rfl (by simp only [List.map_toArray, List.map_cons, List.map_nil, Rg.ev, q26]) (by kernel_rfl) ?_
          refine (pknum_b g x b n_ 4 W hp_ (by decide)).mono ?_
          rintro e_ w2 ⟨r_, hr_, rfl, n2_, hp2_, hch_⟩
          have hch2_ : Chg [g, gc] W w2 := hch_.mono (by simp)
          exact ⟨_, rfl, ⟨r_, by omega, rfl⟩, ⟨n2_, c_, hp2_, hb_.chg hch_ (by simp; omega), hc_, hg_.trans hch2_⟩, hch2_⟩
        refine ⟨Rg.at_run [25, 27] rfl ?_, ?_⟩
        · intro ρ W hR ⟨q25, q27, _⟩
          replace q25 : (fun v W => ∃ gl, v = .slice (some ⟨gl, 0, none⟩) 4 4 ∧ Blk W gl 9 (namesB.map str).toArray ∧ gc < gl ∧ g < gl) (ρ 25) W := q25
          replace q27 : (fun v _ => ∃ r : Nat, r < 4 ∧ v = .int .i64 r) (ρ 27) W := q27
          refine ⟨rfl, ?_⟩
          obtain ⟨gl_, h25_, hbl_, hl1_, hl2_⟩ := q25
          obtain ⟨r_, hr_, h27_⟩ := q27
          have i1_ : (0 : Int) ≤ r_ := by omega
          have i2_ : (r_ : Int) < 4 := by omega
          exact Rg.run_ok (v := .pointer (some ⟨gl_, r_, none⟩)) (by simp [execOp, Rg.ev, go_sem, h25_, h27_, i1_, i2_]) ⟨⟨gl_, r_, rfl, hbl_, hl1_, hl2_, hr_⟩, hR, Chg.refl _ _⟩
        refine ⟨Rg.at_run [28] rfl ?_, ?_⟩
        · intro ρ W hR ⟨q28, _⟩
          replace q28 : (fun v W => ∃ gl r, v = .pointer (some ⟨gl, r, none⟩) ∧ Blk W gl 9 (namesB.map str).toArray ∧ gc < gl ∧ g < gl ∧ r < 4) (ρ 28) W := q28
          refine ⟨rfl, ?_⟩
          obtain ⟨gl_, r_, h28_, hbl_, hl1_, hl2_, hr_⟩ := q28
          obtain ⟨u_, hu_, hat_⟩ := lits_at namesB 20 (by decide) r_ hr_
          have hc_ : W.cell? ⟨gl_, r_, none⟩ = some (str u_) := (hbl_.cell r_).trans hat_
          exact Rg.run_ok (v := str u_) (by simp [execOp, Rg.ev, go_sem, h28_, hc_]) ⟨⟨u_, hu_, rfl⟩, hR, Chg.refl _ _⟩
        refine ⟨Rg.at_run [0] rfl ?_, ?_⟩
        · intro ρ W hR ⟨q0, _⟩
          replace q0 : ρ 0 = .pointer (some ⟨g, 0, none⟩) := q0
          refine ⟨rfl, ?_⟩
          exact Rg.run_ok (v := .pointer (some ⟨g, 0, none⟩)) (by simp [execOp, Rg.ev, go_sem, q0]) ⟨rfl, hR, Chg.refl _ _⟩
        refine ⟨Rg.at_run [30] rfl ?_, ?_⟩
        · intro ρ W hR ⟨q30, _⟩
          replace q30 : ρ 30 = .pointer (some ⟨g, 0, none⟩) := q30
          refine ⟨rfl, ?_⟩
          obtain ⟨n_, c_, hp_, hb_, hc_, hg_⟩ := hR
          refine Rg.enter_fn (args := #[.pointer (some ⟨g, 0, none⟩)]) rfl (by simp only [List.map_toArray, List.map_cons, List.map_nil, Rg.ev, q30]) (by kernel_rfl) ?_
          refine (pkurl_b g x b n_ W hp_).mono ?_
          rintro e_ w2 ⟨u_, hu_, rfl, n2_, hp2_, hch_⟩
          have hch2_ : Chg [g, gc] W w2 := hch_.mono (by simp)
          exact ⟨_, rfl, ⟨u_, hu_, rfl⟩, ⟨n2_, c_, hp2_, hb_.chg hch_ (by simp; omega), hc_, hg_.trans hch2_⟩, hch2_⟩
        refine ⟨Rg.at_run [0] rfl ?_, ?_⟩
        · intro ρ W hR ⟨q0, _⟩
          replace q0 : ρ 0 = .pointer (some ⟨g, 0, none⟩) := q0
          refine ⟨rfl, ?_⟩
          exact Rg.run_ok (v := .pointer (some ⟨g, 0, none⟩)) (by simp [execOp, Rg.ev, go_sem, q0]) ⟨rfl, hR, Chg.refl _ _⟩
        refine ⟨Rg.at_run [32] rfl ?_, ?_⟩
        · intro ρ W hR ⟨q32, _⟩
          replace q32 : ρ 32 = .pointer (some ⟨g, 0, none⟩) := q32
          refine ⟨rfl, ?_⟩
          obtain ⟨n_, c_, hp_, hb_, hc_, hg_⟩ := hR
          refine Rg.enter_fn (args := #[.pointer (some ⟨g, 0, none⟩)]) rfl (by simp only [List.map_toArray, List.map_cons, List.map_nil, Rg.ev, q32]) (by kernel_rfl) ?_
          refine (pkuntil_b g x b n_ W hp_).mono ?_
          rintro e_ w2 ⟨t_, ht_, rfl, n2_, hp2_, hch_⟩
          have hch2_ : Chg [g, gc] W w2 := hch_.mono (by simp)
          exact ⟨_, rfl, ⟨t_, ht_, rfl⟩, ⟨n2_, c_, hp2_, hb_.chg hch_ (by simp; omega), hc_, hg_.trans hch2_⟩, hch2_⟩
        refine ⟨Rg.at_run [4] rfl ?_, ?_⟩
        · intro ρ W hR ⟨q4, _⟩
          replace q4 : ρ 4 = .pointer (some ⟨gc, 0, none⟩) := q4
          refine ⟨rfl, ?_⟩
          exact Rg.run_ok (v := .pointer (some ⟨gc, 0, none⟩)) (by simp [execOp, Rg.ev, go_sem, q4]) ⟨rfl, hR, Chg.refl _ _⟩
        refine ⟨Rg.at_run [34] rfl ?_, ?_⟩
        · intro ρ W hR ⟨q34, _⟩
          replace q34 : ρ 34 = .pointer (some ⟨gc, 0, none⟩) := q34
          refine ⟨rfl, ?_⟩
          obtain ⟨n_, c_, hp_, hb_, hc_, hg_⟩ := hR
          have z_ := hb_.frozen 0
          have y_ : W.cell? ⟨gc, 0, none⟩ = _ := hb_.cell 0
          exact Rg.run_skip (W' := W.setCell ⟨gc, 0, none⟩ (.int .i64 2)) (by simp [execOp, Rg.ev, go_sem, q34, z_, y_]) ⟨rfl, ⟨n_, { c_ with kind := 2 }, hp_.chg ((Chg.refl [gc] W).set (by simp) _) (by simpa using hgg) hoff, hb_.set_ 0 _, { hc_ with k0 := (by decide : (1 : Int) ≤ 2), k1 := (by decide : (2 : Int) ≤ 4) }, hg_.trans ((Chg.refl [g, gc] W).set (by simp) _)⟩, (Chg.refl [g, gc] W).set (by simp) _⟩
        refine ⟨Rg.at_run [4] rfl ?_, ?_⟩
        · intro ρ W hR ⟨q4, _⟩
          replace q4 : ρ 4 = .pointer (some ⟨gc, 0, none⟩) := q4
          refine ⟨rfl, ?_⟩
          exact Rg.run_ok (v := .pointer (some ⟨gc, 3, none⟩)) (by simp [execOp, Rg.ev, go_sem, q4]) ⟨rfl, hR, Chg.refl _ _⟩
        refine ⟨Rg.at_run [35, 29] rfl ?_, ?_⟩
        · intro ρ W hR ⟨q35, q29, _⟩
          replace q35 : ρ 35 = .pointer (some ⟨gc, 3, none⟩) := q35
          replace q29 : (fun v _ => ∃ u : Bytes, u.length ≤ 20 ∧ v = str u) (ρ 29) W := q29
          refine ⟨rfl, ?_⟩
          obtain ⟨n_, c_, hp_, hb_, hc_, hg_⟩ := hR
          obtain ⟨u_, hu_, h29_⟩ := q29
          have z_ := hb_.frozen 3
          have y_ : W.cell? ⟨gc, 3, none⟩ = _ := hb_.cell 3
          exact Rg.run_skip (W' := W.setCell ⟨gc, 3, none⟩ (str u_)) (by simp [execOp, Rg.ev, go_sem, q35, z_, y_, h29_]) ⟨rfl, ⟨n_, { c_ with name := u_ }, hp_.chg ((Chg.refl [gc] W).set (by simp) _) (by simpa using hgg) hoff, hb_.set_ 3 _, { hc_ with name := hu_ }, hg_.trans ((Chg.refl [g, gc] W).set (by simp) _)⟩, (Chg.refl [g, gc] W).set (by simp) _⟩
        refine ⟨Rg.at_run [4] rfl ?_, ?_⟩
        · intro ρ W hR ⟨q4, _⟩
          replace q4 : ρ 4 = .pointer (some ⟨gc, 0, none⟩) := q4
          refine ⟨rfl, ?_⟩
          exact Rg.run_ok (v := .pointer (some ⟨gc, 4, none⟩)) (by simp [execOp, Rg.ev, go_sem, q4]) ⟨rfl, hR, Chg.refl _ _⟩
        refine ⟨Rg.at_run [36, 31] rfl ?_, ?_⟩
        · intro ρ W hR ⟨q36, q31, _⟩
          replace q36 : ρ 36 = .pointer (some ⟨gc, 4, none⟩) := q36
          replace q31 : (fun v _ => ∃ u : Bytes, u.length ≤ 20 ∧ v = str u) (ρ 31) W := q31
          refine ⟨rfl, ?_⟩
          obtain ⟨n_, c_, hp_, hb_, hc_, hg_⟩ := hR
          obtain ⟨u_, hu_, h31_⟩ := q31
          have z_ := hb_.frozen 4
          have y_ : W.cell? ⟨gc, 4, none⟩ = _ := hb_.cell 4
          exact Rg.run_skip (W' := W.setCell ⟨gc, 4, none⟩ (str u_)) (by simp [execOp, Rg.ev, go_sem, q36, z_, y_, h31_]) ⟨rfl, ⟨n_, { c_ with url := u_ }, hp_.chg ((Chg.refl [gc] W).set (by simp) _) (by simpa using hgg) hoff, hb_.set_ 4 _, { hc_ with url := hu_ }, hg_.trans ((Chg.refl [g, gc] W).set (by simp) _)⟩, (Chg.refl [g, gc] W).set (by simp) _⟩
        refine ⟨Rg.at_run [4] rfl ?_, ?_⟩
        · intro ρ W hR ⟨q4, _⟩
          replace q4 : ρ 4 = .pointer (some ⟨gc, 0, none⟩) := q4
          refine ⟨rfl, ?_⟩
          exact Rg.run_ok (v := .pointer (some ⟨gc, 5, none⟩)) (by simp [execOp, Rg.ev, go_sem, q4]) ⟨rfl, hR, Chg.refl _ _⟩
        refine ⟨Rg.at_run [37, 33] rfl ?_, ?_⟩
        · intro ρ W hR ⟨q37, q33, _⟩
          replace q37 : ρ 37 = .pointer (some ⟨gc, 5, none⟩) := q37
          replace q33 : (fun v _ => ∃ t : Int, (0 ≤ t ∧ t ≤ 40) ∧ v = .int .u64 t) (ρ 33) W := q33
          refine ⟨rfl, ?_⟩
          obtain ⟨n_, c_, hp_, hb_, hc_, hg_⟩ := hR
          obtain ⟨t_, ht_, h33_⟩ := q33
          have z_ := hb_.frozen 5
          have y_ : W.cell? ⟨gc, 5, none⟩ = _ := hb_.cell 5
          exact Rg.run_skip (W' := W.setCell ⟨gc, 5, none⟩ (.int .u64 t_)) (by simp [execOp, Rg.ev, go_sem, q37, z_, y_, h33_]) ⟨rfl, ⟨n_, { c_ with till := t_ }, hp_.chg ((Chg.refl [gc] W).set (by simp) _) (by simpa using hgg) hoff, hb_.set_ 5 _, { hc_ with t0 := ht_.1, t1 := ht_.2 }, hg_.trans ((Chg.refl [g, gc] W).set (by simp) _)⟩, (Chg.refl [g, gc] W).set (by simp) _⟩
        trivial
      case en =>
        intro tm W hR hsz hk
        rw [Rg.fin_eq (ds := [25, 26, 27, 28, 29, 30, 31, 32, 33, 34, 35, 36, 37]) rfl rfl rfl hsz hk]
        have k25 : (fun v W => ∃ gl, v = .slice (some ⟨gl, 0, none⟩) 4 4 ∧ Blk W gl 9 (namesB.map str).toArray ∧ gc < gl ∧ g < gl) (tm.getD 25 undef) W := hk 25
        have k26 : tm.getD 26 undef = .pointer (some ⟨g, 0, none⟩) := hk 26
        have k27 : (fun v _ => ∃ r : Nat, r < 4 ∧ v = .int .i64 r) (tm.getD 27 undef) W := hk 27
        have k28 : (fun v W => ∃ gl r, v = .pointer (some ⟨gl, r, none⟩) ∧ Blk W gl 9 (namesB.map str).toArray ∧ gc < gl ∧ g < gl ∧ r < 4) (tm.getD 28 undef) W := hk 28
        have k29 : (fun v _ => ∃ u : Bytes, u.length ≤ 20 ∧ v = str u) (tm.getD 29 undef) W := hk 29
        have k30 : tm.getD 30 undef = .pointer (some ⟨g, 0, none⟩) := hk 30
        have k31 : (fun v _ => ∃ u : Bytes, u.length ≤ 20 ∧ v = str u) (tm.getD 31 undef) W := hk 31
        have k32 : tm.getD 32 undef = .pointer (some ⟨g, 0, none⟩) := hk 32
        have k33 : (fun v _ => ∃ t : Int, (0 ≤ t ∧ t ≤ 40) ∧ v = .int .u64 t) (tm.getD 33 undef) W := hk 33
        have k34 : tm.getD 34 undef = .pointer (some ⟨gc, 0, none⟩) := hk 34
        have k35 : tm.getD 35 undef = .pointer (some ⟨gc, 3, none⟩) := hk 35
        have k36 : tm.getD 36 undef = .pointer (some ⟨gc, 4, none⟩) := hk 36
        have k37 : tm.getD 37 undef = .pointer (some ⟨gc, 5, none⟩) := hk 37
        clear hk hsz
        simp only [Rg.putAll, List.setIfInBounds_toArray, List.set_cons_zero, List.set_cons_succ, k26, k30, k32, k34, k35, k36, k37]
        generalize tm.getD 25 undef = u25 at *
        clear k26
        generalize tm.getD 27 undef = u27 at *
        generalize tm.getD 28 undef = u28 at *
        generalize tm.getD 29 undef = u29 at *
        clear k30
        generalize tm.getD 31 undef = u31 at *
        clear k32
        generalize tm.getD 33 undef = u33 at *
        clear k34
        clear k35
        clear k36
        clear k37
        refine Rg.nil_list ?_
        go_wp2_with fail
        go_meet
        case rel => exact hR
    by_cases k9 : (k : Int) < 9
    · go_upto_region 9 with fail
      refine Rg.regionT Tryz.checked.mixed 49 9 (by kernel_rfl) [
        (fun v W => ∃ gl, v = .slice (some ⟨gl, 0, none⟩) 6 6 ∧ Blk W gl 9 (findB.map str).toArray ∧ gc < gl ∧ g < gl),
        (fun x_ _ => x_ = .pointer (some ⟨g, 0, none⟩)),
        (fun v _ => ∃ r : Nat, r < 6 ∧ v = .int .i64 r),
        (fun v W => ∃ gl r, v = .pointer (some ⟨gl, r, none⟩) ∧ Blk W gl 9 (findB.map str).toArray ∧ gc < gl ∧ g < gl ∧ r < 6),
        (fun v _ => ∃ u : Bytes, u.length ≤ 20 ∧ v = str u),
        (fun x_ _ => x_ = .pointer (some ⟨gc, 0, none⟩)),
        (fun x_ _ => x_ = undef),
        (fun x_ _ => x_ = .pointer (some ⟨gc, 3, none⟩)),
        (fun x_ _ => x_ = undef)] (fun W => PR g gc x b w1 W) (Chg [g, gc]) rfl rfl rfl
        ?st (PR.drew hP) ?ob ?en
      case st => exact ⟨fun _ _ _ ⟨gl, h1, h2, h3, h4⟩ hx => ⟨gl, h1, h2.chg hx (by simp; omega), h3, h4⟩, fun _ _ _ h _ => h, fun _ _ _ h _ => h, fun _ _ _ ⟨gl, r, h1, h2, h3, h4, h5⟩ hx => ⟨gl, r, h1, h2.chg hx (by simp; omega), h3, h4, h5⟩, fun _ _ _ h _ => h, fun _ _ _ h _ => h, fun _ _ _ h _ => h, fun _ _ _ h _ => h, fun _ _ _ h _ => h, trivial⟩
      case ob =>
        refine ⟨Rg.at_run [] rfl ?_, ?_⟩
        · intro ρ W hR _
          refine ⟨rfl, ?_⟩
          obtain ⟨n_, c_, hp_, hb_, hc_, hg_⟩ := hR
          have hx_ : Ext W (W.alloc (.cells (findB.map str).toArray 9)) := (Ext.rfl' W).alloc' _
          exact Rg.run_ok (v := .slice (some ⟨W.heap.size, 0, none⟩) 6 6) (W' := W.alloc (.cells (findB.map str).toArray 9)) (by kernel_rfl) ⟨⟨_, rfl, Blk.new W _ _, hb_.lt, hp_.blk.lt⟩, ⟨n_, c_, hp_.ext hx_, hb_.ext hx_, hc_, hg_.trans (hx_.chg _)⟩, hx_.chg _⟩
        refine ⟨Rg.at_run [0] rfl ?_, ?_⟩
        · intro ρ W hR ⟨q0, _⟩
          replace q0 : ρ 0 = .pointer (some ⟨g, 0, none⟩) := q0
          refine ⟨rfl, ?_⟩
          exact Rg.run_ok (v := .pointer (some ⟨g, 0, none⟩)) (by simp [execOp, Rg.ev, go_sem, q0]) ⟨rfl, hR, Chg.refl _ _⟩
        refine ⟨Rg.at_run [42] rfl ?_, ?_⟩
        · intro ρ W hR ⟨q42, _⟩
          replace q42 : ρ 42 = .pointer (some ⟨g, 0, none⟩) := q42
          refine ⟨rfl, ?_⟩
          obtain ⟨n_, c_, hp_, hb_, hc_, hg_⟩ := hR
          refine Rg.enter_fn (args := #[.pointer (some ⟨g, 0, none⟩), .int .i64 6]) rfl (by simp only [List.map_toArray, List.map_cons, List.map_nil, Rg.ev, q42]) (by kernel_rfl) ?_
          refine (pknum_b g x b n_ 6 W hp_ (by decide)).mono ?_
          rintro e_ w2 ⟨r_, hr_, rfl, n2_, hp2_, hch_⟩
          have hch2_ : Chg [g, gc] W w2 := hch_.mono (by simp)
          exact ⟨_, rfl, ⟨r_, by omega, rfl⟩, ⟨n2_, c_, hp2_, hb_.chg hch_ (by simp; omega), hc_, hg_.trans hch2_⟩, hch2_⟩
        refine ⟨Rg.at_run [41, 43] rfl ?_, ?_⟩
        · intro ρ W hR ⟨q41, q43, _⟩
          replace q41 : (fun v W => ∃ gl, v = .slice (some ⟨gl, 0, none⟩) 6 6 ∧ Blk W gl 9 (findB.map str).toArray ∧ gc < gl ∧ g < gl) (ρ 41) W := q41
          replace q43 : (fun v _ => ∃ r : Nat, r < 6 ∧ v = .int .i64 r) (ρ 43) W := q43
          refine ⟨rfl, ?_⟩
          obtain ⟨gl_, h25_, hbl_, hl1_, hl2_⟩ := q41
          obtain ⟨r_, hr_, h27_⟩ := q43
          have i1_ : (0 : Int) ≤ r_ := by omega
          have i2_ : (r_ : Int) < 6 := by omega
          exact Rg.run_ok (v := .pointer (some ⟨gl_, r_, none⟩)) (by simp [execOp, Rg.ev, go_sem, h25_, h27_, i1_, i2_]) ⟨⟨gl_, r_, rfl, hbl_, hl1_, hl2_, hr_⟩, hR, Chg.refl _ _⟩
        refine ⟨Rg.at_run [44] rfl ?_, ?_⟩
        · intro ρ W hR ⟨q44, _⟩
          replace q44 : (fun v W => ∃ gl r, v = .pointer (some ⟨gl, r, none⟩) ∧ Blk W gl 9 (findB.map str).toArray ∧ gc < gl ∧ g < gl ∧ r < 6) (ρ 44) W := q44
          refine ⟨rfl, ?_⟩
          obtain ⟨gl_, r_, h28_, hbl_, hl1_, hl2_, hr_⟩ := q44
          obtain ⟨u_, hu_, hat_⟩ := lits_at findB 20 (by decide) r_ hr_
          have hc_ : W.cell? ⟨gl_, r_, none⟩ = some (str u_) := (hbl_.cell r_).trans hat_
          exact Rg.run_ok (v := str u_) (by simp [execOp, Rg.ev, go_sem, h28_, hc_]) ⟨⟨u_, hu_, rfl⟩, hR, Chg.refl _ _⟩
        refine ⟨Rg.at_run [4] rfl ?_, ?_⟩
        · intro ρ W hR ⟨q4, _⟩
          replace q4 : ρ 4 = .pointer (some ⟨gc, 0, none⟩) := q4
          refine ⟨rfl, ?_⟩
          exact Rg.run_ok (v := .pointer (some ⟨gc, 0, none⟩)) (by simp [execOp, Rg.ev, go_sem, q4]) ⟨rfl, hR, Chg.refl _ _⟩
        refine ⟨Rg.at_run [46] rfl ?_, ?_⟩
        · intro ρ W hR ⟨q46, _⟩
          replace q46 : ρ 46 = .pointer (some ⟨gc, 0, none⟩) := q46
          refine ⟨rfl, ?_⟩
          obtain ⟨n_, c_, hp_, hb_, hc_, hg_⟩ := hR
          have z_ := hb_.frozen 0
          have y_ : W.cell? ⟨gc, 0, none⟩ = _ := hb_.cell 0
          exact Rg.run_skip (W' := W.setCell ⟨gc, 0, none⟩ (.int .i64 3)) (by simp [execOp, Rg.ev, go_sem, q46, z_, y_]) ⟨rfl, ⟨n_, { c_ with kind := 3 }, hp_.chg ((Chg.refl [gc] W).set (by simp) _) (by simpa using hgg) hoff, hb_.set_ 0 _, { hc_ with k0 := (by decide : (1 : Int) ≤ 3), k1 := (by decide : (3 : Int) ≤ 4) }, hg_.trans ((Chg.refl [g, gc] W).set (by simp) _)⟩, (Chg.refl [g, gc] W).set (by simp) _⟩
        refine ⟨Rg.at_run [4] rfl ?_, ?_⟩
        · intro ρ W hR ⟨q4, _⟩
          replace q4 : ρ 4 = .pointer (some ⟨gc, 0, none⟩) := q4
          refine ⟨rfl, ?_⟩
          exact Rg.run_ok (v := .pointer (some ⟨gc, 3, none⟩)) (by simp [execOp, Rg.ev, go_sem, q4]) ⟨rfl, hR, Chg.refl _ _⟩
        refine ⟨Rg.at_run [47, 45] rfl ?_, ?_⟩
        · intro ρ W hR ⟨q47, q45, _⟩
          replace q47 : ρ 47 = .pointer (some ⟨gc, 3, none⟩) := q47
          replace q45 : (fun v _ => ∃ u : Bytes, u.length ≤ 20 ∧ v = str u) (ρ 45) W := q45
          refine ⟨rfl, ?_⟩
          obtain ⟨n_, c_, hp_, hb_, hc_, hg_⟩ := hR
          obtain ⟨u_, hu_, h45_⟩ := q45
          have z_ := hb_.frozen 3
          have y_ : W.cell? ⟨gc, 3, none⟩ = _ := hb_.cell 3
          exact Rg.run_skip (W' := W.setCell ⟨gc, 3, none⟩ (str u_)) (by simp [execOp, Rg.ev, go_sem, q47, z_, y_, h45_]) ⟨rfl, ⟨n_, { c_ with name := u_ }, hp_.chg ((Chg.refl [gc] W).set (by simp) _) (by simpa using hgg) hoff, hb_.set_ 3 _, { hc_ with name := hu_ }, hg_.trans ((Chg.refl [g, gc] W).set (by simp) _)⟩, (Chg.refl [g, gc] W).set (by simp) _⟩
        trivial
      case en =>
        intro tm W hR hsz hk
        rw [Rg.fin_eq (ds := [41, 42, 43, 44, 45, 46, 47]) rfl rfl rfl hsz hk]
        have k41 : (fun v W => ∃ gl, v = .slice (some ⟨gl, 0, none⟩) 6 6 ∧ Blk W gl 9 (findB.map str).toArray ∧ gc < gl ∧ g < gl) (tm.getD 41 undef) W := hk 41
        have k42 : tm.getD 42 undef = .pointer (some ⟨g, 0, none⟩) := hk 42
        have k43 : (fun v _ => ∃ r : Nat, r < 6 ∧ v = .int .i64 r) (tm.getD 43 undef) W := hk 43
        have k44 : (fun v W => ∃ gl r, v = .pointer (some ⟨gl, r, none⟩) ∧ Blk W gl 9 (findB.map str).toArray ∧ gc < gl ∧ g < gl ∧ r < 6) (tm.getD 44 undef) W := hk 44
        have k45 : (fun v _ => ∃ u : Bytes, u.length ≤ 20 ∧ v = str u) (tm.getD 45 undef) W := hk 45
        have k46 : tm.getD 46 undef = .pointer (some ⟨gc, 0, none⟩) := hk 46
        have k47 : tm.getD 47 undef = .pointer (some ⟨gc, 3, none⟩) := hk 47
        clear hk hsz
        simp only [Rg.putAll, List.setIfInBounds_toArray, List.set_cons_zero, List.set_cons_succ, k42, k46, k47]
        generalize tm.getD 41 undef = u41 at *
        clear k42
        generalize tm.getD 43 undef = u43 at *
        generalize tm.getD 44 undef = u44 at *
        generalize tm.getD 45 undef = u45 at *
        clear k46
        clear k47
        refine Rg.nil_list ?_
        go_wp2_with fail
        go_meet
        case rel => exact hR
    · go_wp2_with fail
      refine (pknum_b g x b n2 40 _ h2 (by decide)).mono ?_
      rintro e w6 ⟨t, ht, rfl, n6, h6, hc6⟩
      have hC6 := hC.chg hc6 (by simp; omega)
      clear f0 f3 f4 f5 y0 y3 y4 y5
      have f0 := hC6.frozen 0
      have f5 := hC6.frozen 5
      have y0 := (hC6.cell 0).trans rfl
      have y5 := (hC6.cell 5).trans rfl
      have hwt : IntKind.u64.wrap (t : Int) = (t : Int) := by rw [IntKind.wrap_u64]; omega
      go_wp2_with fail
      go_meet
      case rel =>
        have hcg : Chg [gc] w6 _ := ((Chg.refl [gc] w6).set (p := ⟨gc, 0, none⟩) (by simp) (.int .i64 4)).set (p := ⟨gc, 5, none⟩) (by simp) (.int .u64 t)
        exact ⟨n6, ⟨4, 0, 0, [], [], t⟩, h6.chg hcg (by simpa using hgg) hoff, (hC6.set_ 0 (.int .i64 4)).set_ 5 (.int .u64 t), ⟨(by decide : (1 : Int) ≤ 4), (by decide : (4 : Int) ≤ 4), rfl, rfl, Nat.zero_le _, Nat.zero_le _, by show (0 : Int) ≤ t; omega, by show (t : Int) ≤ 40; omega⟩, (hc6.mono (by simp)).trans (hcg.mono (by simp))⟩
  case rest =>
  obtain ⟨n9, c, h9, hC9, hpc, hc9⟩ := hcut
  replace hR := hR.chg hc9 (by simp; omega)
  generalize wc = w9 at *
  have y0 := (hC9.cell 0).trans rfl
  have y1 := (hC9.cell 1).trans rfl
  have y2 := (hC9.cell 2).trans rfl
  have y3 := (hC9.cell 3).trans rfl
  have y4 := (hC9.cell 4).trans rfl
  have y5 := (hC9.cell 5).trans rfl
  have z0 := (hR.cell 0).trans rfl
  have z1 := (hR.cell 1).trans rfl
  have z2 := (hR.cell 2).trans rfl
  have z3 := (hR.cell 3).trans rfl
  have z4 := (hR.cell 4).trans rfl
  have z5 := (hR.cell 5).trans rfl
  have f0 := hR.frozen 0
  have f1 := hR.frozen 1
  have f2 := hR.frozen 2
  have f3 := hR.frozen 3
  have f4 := hR.frozen 4
  have f5 := hR.frozen 5
  go_wp2
  try simp only [Exit.inBlock, Exit.then]
  have hcg : Chg [gr] w9 _ := (Chg.refl [gr] w9).six_ (g := gr) (by simp) (.int .i64 c.kind) (.int .i64 c.client) (.int .u64 c.seq) (str c.name) (str c.url) (.int .u64 c.till)
  refine bodyPost_ret (results_cell_row rfl _ _ gr 37 (ccells c) (0, 0) _ rfl (Blk.six_ hR (.int .i64 c.kind) (.int .i64 c.client) (.int .u64 c.seq) (str c.name) (str c.url) (.int .u64 c.till)) Tryz.underlying37 rfl (by kernel_rfl)) rfl ?_
  have hor : Off x [gr] := h.bs.off (by simp; omega)
  exact ⟨c, hpc, rfl, n9, h9.chg hcg (by simp; omega) hor, (((hcw.mono (T := [g, gc]) (by simp)).trans hc9).less (T := [g]) (by simp; omega)).then_new hcg (by simp; omega)⟩
theorem elt_cm : Elt 37 cmE (.agg #[.int .i64 0, .int .i64 0, .int .u64 0, .string ByteArray.empty, .string ByteArray.empty, .int .u64 0]) 64 := ⟨by kernel_rfl, rfl, by decide⟩
theorem PlayC.wide {c : Cm} (h : PlayC c) : c.wide := by
  have h1 := h.k0; have h2 := h.k1; have h3 := h.client; have h4 := h.seq; have h5 := h.name; have h6 := h.url; have h7 := h.t0; have h8 := h.t1
  exact ⟨by omega, by omega, by omega, by omega, by omega, by omega, by unfold maxLen; omega, by unfold maxLen; omega, h7, by omega⟩
theorem cm_rep {w : World} {X : Avoid} {c : Cm} (h : c.wide) : cmE.rep w X (ccells c).toList c := by
  obtain ⟨k0, k1, c0, c1, s0, s1, n1, u1, t0, t1⟩ := h
  exact ⟨[_], [_, _, _, _, _], rfl, ⟨rfl, k0, k1⟩, [_], [_, _, _, _], rfl, ⟨rfl, c0, c1⟩, [_], [_, _, _], rfl, ⟨rfl, s0, s1⟩, [_], [_, _], rfl, ⟨rfl, n1⟩, [_], [_], rfl, ⟨rfl, u1⟩, [_], [], rfl, ⟨rfl, t0, t1⟩, rfl⟩
theorem cm_any {w w' : World} {X Y : Avoid} {cs : List Value} {c : Cm} (h : cmE.rep w X cs c) : cmE.rep w' Y cs c := by
  obtain ⟨h1, h2⟩ := cmE_rep (cs := cs.toArray) (by simpa using h)
  have h3 := cm_rep (w := w') (X := Y) h2
  rw [← h1] at h3
  simpa using h3
/-- some commands in new memory -/
def RetCms (most : Int) (w w' : World) (e : Ending) : Prop := ∃ (cs : List Cm) (A : Option Addr) (c : Nat), (∀ m ∈ cs, PlayC m) ∧ (cs.length : Int) ≤ most ∧ e = .returned (.slice A cs.length c) ∧ Own 37 cmE w w' noneAt (.slice A cs.length c) cs ∧ Ext w w'

























































end Go.Proofs.YtamimdlaclglkaaGreat

/- Links: what the laws call. -/
namespace Go.Proofs.YtamimdlaclglkaaGreat
set_option linter.unusedVariables false
set_option linter.unusedSimpArgs false
set_option linter.unnecessarySimpa false
set_option maxRecDepth 100000
open Go.RowKit
theorem ldoK_eq {s : St} (h : LInv s) (c : Cm) : ldoW lfind lkput s c = ldo s c := by
  unfold ldo ldoW
  by_cases h4 : c.kind = 4
  · rw [if_pos h4, if_pos h4]
  rw [if_neg h4, if_neg h4]
  by_cases h1 : c.kind = 1
  · rw [if_pos h1, if_pos h1]
    unfold lmakeW
    split
    · rfl
    · split
      · rfl
      · split
        · rfl
        · rename_i hc
          rw [lwith_new (h.fresh (by omega))]
  rw [if_neg h1, if_neg h1]
  by_cases h2 : c.kind = 2
  · rw [if_pos h2, if_pos h2]
    unfold lnameW
    split
    · rfl
    · split
      · rfl
      · split
        · rfl
        · rename_i hf
          rw [lwith_new hf]
  rw [if_neg h2, if_neg h2]
/-- a state and an answer -/
def RetDo (X : Avoid) (w w' : World) (e : Ending) (r : St × An) : Prop :=
  ∃ (t : St) (a : An) (At : Option Addr) (ct : Nat) (Au : Option Addr) (cu : Nat), Hid ((t, a) = r) ∧ e = .returned (.tuple #[.agg #[.int .u64 t.now, .int .u64 t.count, .slice At t.links.length ct, .slice Au t.sess.length cu], .agg (acells a).toArray]) ∧
    stE.rep w' X [.int .u64 t.now, .int .u64 t.count, .slice At t.links.length ct, .slice Au t.sess.length cu] t ∧ Ext w w'
theorem ldoL_b (X : Avoid) (s : St) (cs : List Value) (c : Cm) (w : World) (hX : ∀ k, X k → k < w.heap.size) (hs : stE.rep w X cs s) (hi : LInv s) (hse : s.sess = []) (hc : c.wide) (hcu : c.url.length ≤ 1000000) (hcn : c.name.length ≤ 1000000) :
    Calls Tryz.prog 29 #[.agg cs.toArray, cv c] w fun e w' => RetDo X w w' e (ldo s c) := by
  refine (ldo_b X s cs c w hX hs hc hcu hcn hi.rise (by have := hi.len; omega) (fun h => hi.fresh h) (by rw [hse]; simp) (by rw [hse]; simp)).mono ?_
  rintro e w' ⟨cs', t, a, h1, rfl, h2, h3⟩
  obtain ⟨vl, vs, rfl, s1, s2, s3, s4⟩ := st_rep.1 h2
  obtain ⟨At, ct, rfl, -, -⟩ := s3.form
  obtain ⟨Au, cu, rfl, -, -⟩ := s4.form
  exact ⟨t, a, At, ct, Au, cu, hide (by rw [h1.out, ldoK_eq hi]), rfl, h2, h3⟩
theorem cm_at {w : World} {X : Avoid} {A : Option Addr} {n c k : Nat} {l : List Cm} (h : Enc.Sl cmE w X (.slice A n c) l) (hk : k < l.length) : ∃ (ad : Addr) (m : Cm), A = some ad ∧ Hid (l[k]? = some m) ∧ ad.block < w.heap.size ∧ w.cell? (ad.add (k * 6)) = some (.int .i64 m.kind) ∧
    w.cell? ⟨(ad.add (k * 6)).block, (ad.add (k * 6)).off + 1, none⟩ = some (.int .i64 m.client) ∧ w.cell? ⟨(ad.add (k * 6)).block, (ad.add (k * 6)).off + 2, none⟩ = some (.int .u64 m.seq) ∧
    w.cell? ⟨(ad.add (k * 6)).block, (ad.add (k * 6)).off + 3, none⟩ = some (str m.name) ∧ w.cell? ⟨(ad.add (k * 6)).block, (ad.add (k * 6)).off + 4, none⟩ = some (str m.url) ∧
    w.cell? ⟨(ad.add (k * 6)).block, (ad.add (k * 6)).off + 5, none⟩ = some (.int .u64 m.till) ∧ m.wide := by
  obtain ⟨ad, cs, rfl, hrep, hb, hcell⟩ := h.at_ hk
  obtain ⟨h1, h2⟩ := cmE_rep (cs := cs.toArray) (by simpa using hrep)
  have h3 : cs = (ccells l[k]).toList := by rw [← h1]
  subst h3
  exact ⟨ad, _, rfl, hide (List.getElem?_eq_getElem hk), hb, Enc.cell0 hcell rfl, Enc.cellS hcell 0 rfl, Enc.cellS hcell 1 rfl, Enc.cellS hcell 2 rfl, Enc.cellS hcell 3 rfl, Enc.cellS hcell 4 rfl, h2⟩

































end Go.Proofs.YtamimdlaclglkaaGreat

