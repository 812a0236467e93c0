/- A part of the proof of 'StateBytes'. -/
import Derived.Test.YtamimdlaclglkaaGreatB29
import Derived.Test.YtamimdlaclglkaaGreatB34
import Derived.Deep.DeepCutAuto
namespace Go.Proofs.YtamimdlaclglkaaGreat
set_option linter.unusedVariables false
set_option linter.unusedSimpArgs false
set_option linter.unnecessarySimpa false
set_option maxRecDepth 100000
open Go.RowKit
theorem OwnO.flatO {α : Type} {T : TypeId} {E : Enc α} {w0 w : World} {X X' : Avoid} {v : Value} {l : List α} (h : OwnO T E w0 w X v l) (hE : ∀ {Y Z : Avoid} {cs a}, E.rep w Y cs a → E.rep w Z cs a) (hX : ∀ j, X' j → j < w0.heap.size) : OwnO T E w0 w X' v l := by
  rcases h with ⟨A, e1, e2, hA⟩ | ⟨g, off, c, cur, css, rfl, h1, h2, h3, h4, h0, h5, h6, h7, h8⟩
  · exact .inl ⟨A, e1, e2, fun a ha => ⟨(hA a ha).1, (hA a ha).2.1, fun hx => by have := hX _ hx; have := (hA a ha).1; omega⟩⟩
  · exact .inr ⟨g, off, c, cur, css, rfl, h1, h2, h3, h4, h0, h5, h6, ⟨h7.1, fun k cs a e1 e2 => hE (h7.2 k cs a e1 e2)⟩, fun hx => by have := hX _ hx; omega⟩
theorem ln_flatO {w : World} {Y Z : Avoid} {cs : List Value} {a : Ln} (h : lnE.rep w Y cs a) : lnE.rep w Z cs a := ln_rep.2 (ln_rep.1 h)
theorem st0_rep (w : World) (X : Avoid) : stE.rep w X [.int .u64 0, .int .u64 0, .slice none 0 0, .slice none 0 0] St0 := st_rep.2 ⟨_, _, rfl, ⟨by decide, by decide⟩, ⟨by decide, by decide⟩, Enc.Sl.nil _ _ _, Enc.Sl.nil _ _ _⟩
/-- the answer of Take: a state, apart from X, and an error -/
def RetTk (X : Avoid) (w w' : World) (e : Ending) (r : St × Int) : Prop :=
  ∃ (t : St) (k : Int) (At : Option Addr) (ct : Nat) (Au : Option Addr) (cu : Nat), Hid ((t, k) = r) ∧ e = .returned (.tuple #[.agg #[.int .u64 t.now, .int .u64 t.count, .slice At t.links.length ct, .slice Au t.sess.length cu], .int .i64 k]) ∧
    stE.rep w' X [.int .u64 t.now, .int .u64 t.count, .slice At t.links.length ct, .slice Au t.sess.length cu] t ∧ Ext w w'
set_option maxHeartbeats 6400000 in
theorem sttake_b (x : Value) (b : Bytes) (X : Avoid) (w : World) (hbl : b.length ≤ 140737488350000) (h : Bs w x b) (hX : ∀ j, X j → j < w.heap.size) :
    Calls Tryz.prog 17 #[x] w fun e w' => RetTk X w w' e (ptake b) := by
  obtain ⟨s0, hs0⟩ : ∃ s0 : Rdr, s0 = (b, 0) := ⟨_, rfl⟩
  obtain ⟨⟨a, s1⟩, h1⟩ : ∃ r, pnum 8 s0 = r := ⟨_, rfl⟩
  obtain ⟨⟨c, s2⟩, h2⟩ : ∃ r, pnum 8 s1 = r := ⟨_, rfl⟩
  obtain ⟨⟨n, s3⟩, h3⟩ : ∃ r, pnum 2 s2 = r := ⟨_, rfl⟩
  obtain ⟨⟨L, s4⟩, h4⟩ : ∃ r, ptimes plink n.toNat s3 = r := ⟨_, rfl⟩
  obtain ⟨⟨m, s5⟩, h5⟩ : ∃ r, pnum 2 s4 = r := ⟨_, rfl⟩
  obtain ⟨⟨Y, s6⟩, h6⟩ : ∃ r, ptimes psess m.toNat s5 = r := ⟨_, rfl⟩
  have HP : Hid (pstate b = (⟨a, c, L, Y⟩, s6)) := hide (by unfold pstate; rw [← hs0]; simp only [h1, h2, h3, h4, h5, h6])
  have ha := pnum_u64 s0
  rw [h1] at ha
  have hc := pnum_u64 s1
  rw [h2] at hc
  have hn := pnum_u16 s2
  rw [h3] at hn
  have hm := pnum_u16 s4
  rw [h5] at hm
  simp only at ha hc hn hm
  obtain ⟨nn, hnn⟩ : ∃ k : Nat, n = (k : Int) := ⟨n.toNat, by omega⟩
  subst hnn
  obtain ⟨mm, hmm⟩ : ∃ k : Nat, m = (k : Int) := ⟨m.toNat, by omega⟩
  subst hmm
  have HT4 := hide h4
  have HT6 := hide h6
  rw [Int.toNat_natCast] at HT4 HT6
  have C1 := hide (fun (W : World) v M g (h : SAt W g v s0 M) => snumF_b g v s0 M 8 W h (by decide))
  have C2 := hide (fun (W : World) v M g (h : SAt W g v s1 M) => snumF_b g v s1 M 8 W h (by decide))
  have C3 := hide (fun (W : World) v M g (h : SAt W g v s2 M) => snumF_b g v s2 M 2 W h (by decide))
  have C5 := hide (fun (W : World) v M g (h : SAt W g v s4 M) => snumF_b g v s4 M 2 W h (by decide))
  rw [h1] at C1
  rw [h2] at C2
  rw [h3] at C3
  rw [h5] at C5
  simp only at C1 C2 C3 C5
  clear h1 h2 h3 h4 h5 h6
  have hz1 : Ext w (w.alloc (.cells #[.int .u64 0, .int .u64 0, .slice none 0 0, .slice none 0 0] 28)) := (Ext.rfl' _).alloc' _
  have hR0 := Blk.new w 28 #[.int .u64 0, .int .u64 0, .slice none 0 0, .slice none 0 0]
  obtain ⟨gr, hgr⟩ : ∃ g_, w.heap.size = g_ := ⟨_, rfl⟩
  rw [hgr] at hR0
  obtain ⟨A, cap, hxv, -, -, -⟩ := id h
  subst hxv
  go_enter Tryz.func17, Tryz.ntmps17
  go_upto_region 2 with fail
  try rw [hgr]
  obtain ⟨w1, hw1⟩ : ∃ w1, w1 = w.alloc (.cells #[.int .u64 0, .int .u64 0, .slice none 0 0, .slice none 0 0] 28) := ⟨_, rfl⟩
  rw [← hw1] at hz1 hR0 ⊢
  have hz2 : Ext w1 (w1.alloc (.cells #[.slice A b.length cap, .int .i64 0, .int .u64 0, .int .u64 0, .slice none 0 0, .slice none 0 0] 77)) := (Ext.rfl' _).alloc' _
  have hB0 := Blk.new w1 77 #[.slice A b.length cap, .int .i64 0, .int .u64 0, .int .u64 0, .slice none 0 0, .slice none 0 0]
  have hgz : w1.heap.size = gr + 1 := by rw [hw1, ← hgr]; simp
  obtain ⟨g, hg⟩ : ∃ g_, gr + 1 = g_ := ⟨_, rfl⟩
  rw [hgz] at hB0
  rw [hg] at hB0 hgz ⊢
  clear hw1
  obtain ⟨x, hx⟩ : ∃ x, Value.slice A b.length cap = x := ⟨_, rfl⟩
  have hbs := h.ext (hz1.trans' hz2)
  have hofx : ∀ S, (∀ k, k ∈ S → w1.heap.size ≤ k) → Off x S := fun S hS => by
    rw [← hx]
    exact h.off_new (fun k hk => by have := hS k hk; have := hz1.size; omega)
  obtain ⟨M0, hM0⟩ : ∃ M : List Value, M = [.int .u64 0, .int .u64 0, .slice none 0 0, .slice none 0 0] := ⟨_, rfl⟩
  rw [hx] at hbs hB0 hz2 ⊢
  obtain ⟨W0, hW0⟩ : ∃ W0, W0 = w1.alloc (.cells #[x, .int .i64 0, .int .u64 0, .int .u64 0, .slice none 0 0, .slice none 0 0] 77) := ⟨_, rfl⟩
  rw [← hW0] at hbs hB0 hz2 ⊢
  clear hW0
  have h0 : SAt W0 g x s0 M0 := ⟨by rw [hM0, hs0]; exact hB0, by rw [hs0]; exact hbs, hofx _ (fun k hk => by rw [List.mem_singleton.1 hk]; omega), by rw [hs0]; exact hbl⟩
  have HM0 := hide hM0
  clear hM0 hB0 hbs hx h
  go_cut [] (fun wx => ∃ v1, SAt wx g v1 s2 [.int .u64 a, .int .u64 c, .slice none 0 0, .slice none 0 0] ∧ Chg [g] W0 wx ∧ ∀ S, Off x S → Off v1 S)
  case first =>
    refine Rg.regionV Tryz.checked.mixed 79 13 1 10 _ _ (by rfl) (by rfl) (by kernel_rfl) [
      (false, (fun x_ _ => x_ = .pointer (some ⟨g, 0, none⟩))),
      (false, (fun x_ _ => x_ = .pointer (some ⟨g, 0, none⟩))),
      (false, (fun x_ _ => x_ = .pointer (some ⟨g, 0, none⟩))),
      (false, (fun x_ _ => x_ = .pointer (some ⟨g, 0, none⟩))),
      (false, (fun x_ _ => x_ = .pointer (some ⟨g, 0, none⟩))),
      (true, (fun x_ _ => x_ = .int .u64 a)),
      (false, (fun x_ _ => x_ = .pointer (some ⟨g, 0, none⟩))),
      (false, (fun x_ _ => x_ = .pointer (some ⟨g, 0, none⟩))),
      (false, (fun x_ _ => x_ = .pointer (some ⟨g, 0, none⟩))),
      (true, (fun x_ _ => x_ = .int .u64 c)),
      (false, (fun x_ _ => x_ = .pointer (some ⟨g, 0, none⟩))),
      (false, (fun x_ _ => x_ = .pointer (some ⟨g, 2, none⟩))),
      (false, (fun x_ _ => x_ = .pointer (some ⟨g, 2, none⟩)))] (by kernel_rfl) (by kernel_rfl) (RNx g x M0 W0 s0 s1 s2) (Chg [g]) rfl rfl rfl
      ?st ⟨x, h0.drewS, (Chg.refl _ _).drew, fun _ hS => hS⟩ ?ob ?en ?en2
    case st => exact ⟨fun _ _ _ h _ => h, fun _ _ _ h _ => h, fun _ _ _ h _ => h, fun _ _ _ h _ => h, fun _ _ _ h _ => h, fun _ _ _ h _ => h, fun _ _ _ h _ => h, fun _ _ _ h _ => h, fun _ _ _ h _ => h, fun _ _ _ h _ => h, fun _ _ _ h _ => h, fun _ _ _ h _ => h, fun _ _ _ h _ => h, trivial⟩
    case ob =>
      refine ⟨fun i => Rg.at_runW [4] rfl ?_, ?_⟩
      · intro ρ W hR ⟨q4, _⟩
        replace q4 : ρ 4 = .pointer (some ⟨g, 0, none⟩) := q4
        refine ⟨rfl, ?_⟩
        exact Rg.run_ok (v := .pointer (some ⟨g, 0, none⟩)) (by simp [execOp, Rg.ev, go_sem, q4]) ⟨rfl, hR, Chg.refl _ _⟩
      refine ⟨fun i => Rg.at_runW [4] rfl ?_, ?_⟩
      · intro ρ W hR ⟨q4, _⟩
        replace q4 : ρ 4 = .pointer (some ⟨g, 0, none⟩) := q4
        refine ⟨rfl, ?_⟩
        exact Rg.run_ok (v := .pointer (some ⟨g, 0, none⟩)) (by simp [execOp, Rg.ev, go_sem, q4]) ⟨rfl, hR, Chg.refl _ _⟩
      refine ⟨fun i => Rg.at_runW [4] rfl ?_, ?_⟩
      · intro ρ W hR ⟨q4, _⟩
        replace q4 : ρ 4 = .pointer (some ⟨g, 0, none⟩) := q4
        refine ⟨rfl, ?_⟩
        exact Rg.run_ok (v := .pointer (some ⟨g, 0, none⟩)) (by simp [execOp, Rg.ev, go_sem, q4]) ⟨rfl, hR, Chg.refl _ _⟩
      refine ⟨fun i => Rg.at_runW [11] rfl ?_, ?_⟩
      · intro ρ W hR ⟨q11, _⟩
        replace q11 : ρ 11 = .pointer (some ⟨g, 0, none⟩) := q11
        refine ⟨rfl, ?_⟩
        exact Rg.run_ok (v := .pointer (some ⟨g, 0, none⟩)) (by simp [execOp, Rg.ev, go_sem, q11]) ⟨rfl, hR, Chg.refl _ _⟩
      refine ⟨fun i => Rg.at_runW [12] rfl ?_, ?_⟩
      · intro ρ W hR ⟨q12, _⟩
        replace q12 : ρ 12 = .pointer (some ⟨g, 0, none⟩) := q12
        refine ⟨rfl, ?_⟩
        exact Rg.run_ok (v := .pointer (some ⟨g, 0, none⟩)) (by simp [execOp, Rg.ev, go_sem, q12]) ⟨rfl, hR, Chg.refl _ _⟩
      refine ⟨Rg.at_runW [13] rfl ?_, ?_⟩
      · intro ρ W hR ⟨q13, _⟩
        replace q13 : ρ 13 = .pointer (some ⟨g, 0, none⟩) := q13
        refine ⟨rfl, ?_⟩
        obtain ⟨v5, h5, c5, o5⟩ := hR
        refine Rg.enter_fn (args := #[.pointer (some ⟨g, 0, none⟩), .int .i64 8, .int .u64 18446744073709551615]) rfl (by simp only [List.map_toArray, List.map_cons, List.map_nil, Rg.ev, q13]) (by kernel_rfl) ?_
        refine (C1.out W v5 _ g h5).mono ?_
        rintro e_ w9 ⟨rfl, v6, k1, k2, k3⟩
        exact ⟨_, rfl, rfl, ⟨v6, k1, c5.trans k2, fun S hS => k3 S (o5 S hS)⟩, k2⟩
      refine ⟨fun i => Rg.at_runW [4] rfl ?_, ?_⟩
      · intro ρ W hR ⟨q4, _⟩
        replace q4 : ρ 4 = .pointer (some ⟨g, 0, none⟩) := q4
        refine ⟨rfl, ?_⟩
        exact Rg.run_ok (v := .pointer (some ⟨g, 0, none⟩)) (by simp [execOp, Rg.ev, go_sem, q4]) ⟨rfl, hR, Chg.refl _ _⟩
      refine ⟨fun i => Rg.at_runW [15] rfl ?_, ?_⟩
      · intro ρ W hR ⟨q15, _⟩
        replace q15 : ρ 15 = .pointer (some ⟨g, 0, none⟩) := q15
        refine ⟨rfl, ?_⟩
        exact Rg.run_ok (v := .pointer (some ⟨g, 0, none⟩)) (by simp [execOp, Rg.ev, go_sem, q15]) ⟨rfl, hR, Chg.refl _ _⟩
      refine ⟨fun i => Rg.at_runW [16] rfl ?_, ?_⟩
      · intro ρ W hR ⟨q16, _⟩
        replace q16 : ρ 16 = .pointer (some ⟨g, 0, none⟩) := q16
        refine ⟨rfl, ?_⟩
        exact Rg.run_ok (v := .pointer (some ⟨g, 0, none⟩)) (by simp [execOp, Rg.ev, go_sem, q16]) ⟨rfl, hR, Chg.refl _ _⟩
      refine ⟨Rg.at_runW [17] rfl ?_, ?_⟩
      · intro ρ W hR ⟨q17, _⟩
        replace q17 : ρ 17 = .pointer (some ⟨g, 0, none⟩) := q17
        refine ⟨rfl, ?_⟩
        obtain ⟨v5, h5, c5, o5⟩ := hR
        refine Rg.enter_fn (args := #[.pointer (some ⟨g, 0, none⟩), .int .i64 8, .int .u64 18446744073709551615]) rfl (by simp only [List.map_toArray, List.map_cons, List.map_nil, Rg.ev, q17]) (by kernel_rfl) ?_
        refine (C2.out W v5 _ g h5).mono ?_
        rintro e_ w9 ⟨rfl, v6, k1, k2, k3⟩
        exact ⟨_, rfl, rfl, ⟨v6, k1, c5.trans k2, fun S hS => k3 S (o5 S hS)⟩, k2⟩
      refine ⟨fun i => Rg.at_runW [9] rfl ?_, ?_⟩
      · intro ρ W hR ⟨q9, _⟩
        replace q9 : ρ 9 = .pointer (some ⟨g, 0, none⟩) := q9
        refine ⟨rfl, ?_⟩
        exact Rg.run_ok (v := .pointer (some ⟨g, 0, none⟩)) (by simp [execOp, Rg.ev, go_sem, q9]) ⟨rfl, hR, Chg.refl _ _⟩
      refine ⟨fun i => Rg.at_runW [19] rfl ?_, ?_⟩
      · intro ρ W hR ⟨q19, _⟩
        replace q19 : ρ 19 = .pointer (some ⟨g, 0, none⟩) := q19
        refine ⟨rfl, ?_⟩
        exact Rg.run_ok (v := .pointer (some ⟨g, 2, none⟩)) (by simp [execOp, Rg.ev, go_sem, q19]) ⟨rfl, hR, Chg.refl _ _⟩
      refine ⟨fun i => Rg.at_runW [20] rfl ?_, ?_⟩
      · intro ρ W hR ⟨q20, _⟩
        replace q20 : ρ 20 = .pointer (some ⟨g, 2, none⟩) := q20
        refine ⟨rfl, ?_⟩
        exact Rg.run_ok (v := .pointer (some ⟨g, 2, none⟩)) (by simp [execOp, Rg.ev, go_sem, q20]) ⟨rfl, hR, Chg.refl _ _⟩
      trivial
    case en =>
      intro tm W hR hsz hk
      rw [Rg.fin_eq (ds := [9, 10, 11, 12, 13, 14, 15, 16, 17, 18, 19, 20, 21]) rfl rfl rfl hsz hk]
      have k9 : tm.getD 9 undef = .pointer (some ⟨g, 0, none⟩) := hk 9
      have k10 : tm.getD 10 undef = .pointer (some ⟨g, 0, none⟩) := hk 10
      have k11 : tm.getD 11 undef = .pointer (some ⟨g, 0, none⟩) := hk 11
      have k12 : tm.getD 12 undef = .pointer (some ⟨g, 0, none⟩) := hk 12
      have k13 : tm.getD 13 undef = .pointer (some ⟨g, 0, none⟩) := hk 13
      have k14 : tm.getD 14 undef = .int .u64 a := hk 14
      have k15 : tm.getD 15 undef = .pointer (some ⟨g, 0, none⟩) := hk 15
      have k16 : tm.getD 16 undef = .pointer (some ⟨g, 0, none⟩) := hk 16
      have k17 : tm.getD 17 undef = .pointer (some ⟨g, 0, none⟩) := hk 17
      have k18 : tm.getD 18 undef = .int .u64 c := hk 18
      have k19 : tm.getD 19 undef = .pointer (some ⟨g, 0, none⟩) := hk 19
      have k20 : tm.getD 20 undef = .pointer (some ⟨g, 2, none⟩) := hk 20
      have k21 : tm.getD 21 undef = .pointer (some ⟨g, 2, none⟩) := hk 21
      clear hk hsz
      simp only [Rg.putAll, List.setIfInBounds_toArray, List.set_cons_zero, List.set_cons_succ, k9, k10, k11, k12, k13, k14, k15, k16, k17, k18, k19, k20, k21]
      clear k9
      clear k10
      clear k11
      clear k12
      clear k13
      clear k14
      clear k15
      clear k16
      clear k17
      clear k18
      clear k19
      clear k20
      clear k21
      obtain ⟨v1, q1_, x1, o1⟩ := hR
      have h1 : SAt W g v1 s2 M0 := q1_
      clear q1_
      have hF := h1.blk
      rw [HM0.out] at hF
      have e2 := (hF.cell 2).trans rfl
      have e3 := (hF.cell 3).trans rfl
      have f2 := hF.frozen 2
      have f3 := hF.frozen 3
      simp only [List.drop_succ_cons, List.drop_zero]
      go_wp2_with fail
      go_meet
      case rel =>
        have hcg : Chg [g] W ((W.setCell ⟨g, 2, none⟩ (.int .u64 a)).setCell ⟨g, 3, none⟩ (.int .u64 c)) := ((Chg.refl _ _).set (by simp) _).set (by simp) _
        exact ⟨v1, ⟨(hF.set_ 2 _).set_ 3 _, h1.bs.chg hcg h1.off, h1.off, h1.len⟩, x1.trans hcg, o1⟩
    case en2 =>
      intro tm W hR hsz hk
      rw [Rg.fin_eqX (ds := [9, 10, 11, 12, 13, 14, 15, 16, 17, 18, 19, 20, 21]) rfl (by decide) rfl rfl hsz hk]
      have k9 : tm.getD 9 undef = .pointer (some ⟨g, 0, none⟩) := hk 9
      have k11 : tm.getD 11 undef = .pointer (some ⟨g, 0, none⟩) := hk 11
      have k12 : tm.getD 12 undef = .pointer (some ⟨g, 0, none⟩) := hk 12
      have k13 : tm.getD 13 undef = .pointer (some ⟨g, 0, none⟩) := hk 13
      have k14 : tm.getD 14 undef = .int .u64 a := hk 14
      have k15 : tm.getD 15 undef = .pointer (some ⟨g, 0, none⟩) := hk 15
      have k16 : tm.getD 16 undef = .pointer (some ⟨g, 0, none⟩) := hk 16
      have k17 : tm.getD 17 undef = .pointer (some ⟨g, 0, none⟩) := hk 17
      have k18 : tm.getD 18 undef = .int .u64 c := hk 18
      have k19 : tm.getD 19 undef = .pointer (some ⟨g, 0, none⟩) := hk 19
      have k20 : tm.getD 20 undef = .pointer (some ⟨g, 2, none⟩) := hk 20
      have k21 : tm.getD 21 undef = .pointer (some ⟨g, 2, none⟩) := hk 21
      clear hk hsz
      simp only [Rg.putAll, List.setIfInBounds_toArray, List.set_cons_zero, List.set_cons_succ, k9, k11, k12, k13, k14, k15, k16, k17, k18, k19, k20, k21]
      clear k9
      generalize tm.getD 10 undef = u10 at *
      clear k11
      clear k12
      clear k13
      clear k14
      clear k15
      clear k16
      clear k17
      clear k18
      clear k19
      clear k20
      clear k21
      obtain ⟨v1, q1_, x1, o1⟩ := hR
      have h1 : SAt W g v1 s2 M0 := q1_
      clear q1_
      have hF := h1.blk
      rw [HM0.out] at hF
      have e2 := (hF.cell 2).trans rfl
      have e3 := (hF.cell 3).trans rfl
      have f2 := hF.frozen 2
      have f3 := hF.frozen 3
      simp only [List.drop_succ_cons, List.drop_zero]
      go_wp2_with fail
      go_meet
      case rel =>
        have hcg : Chg [g] W ((W.setCell ⟨g, 2, none⟩ (.int .u64 a)).setCell ⟨g, 3, none⟩ (.int .u64 c)) := ((Chg.refl _ _).set (by simp) _).set (by simp) _
        exact ⟨v1, ⟨(hF.set_ 2 _).set_ 3 _, h1.bs.chg hcg h1.off, h1.off, h1.len⟩, x1.trans hcg, o1⟩
  case rest =>
    obtain ⟨v1, h1, x1, o1⟩ := hcut
    generalize wc = W1 at *
    obtain ⟨M1, hM1⟩ : ∃ M : List Value, M = [.int .u64 a, .int .u64 c, .slice none 0 0, .slice none 0 0] := ⟨_, rfl⟩
    rw [← hM1] at h1
    have HM1 := hide hM1
    clear hM1 h0
    have hgn : ∀ k, k ∈ [g] → w1.heap.size ≤ k := fun k hk => by rw [List.mem_singleton.1 hk]; omega
    have hx1 : Ext w1 W1 := hz2.then_ x1 hgn
    have hof1 : ∀ S, (∀ k, k ∈ S → w1.heap.size ≤ k) → Off v1 S := fun S hS => o1 _ (hofx S hS)
    clear x1 o1 hz2 hofx
    go_upto_region 3 with fail
    refine Rg.regionW Tryz.checked.mixed 79 9 (by kernel_rfl) [
      (false, (fun x_ _ => x_ = .pointer (some ⟨g, 0, none⟩))),
      (false, (fun x_ _ => x_ = .pointer (some ⟨g, 0, none⟩))),
      (false, (fun x_ _ => x_ = .pointer (some ⟨g, 0, none⟩))),
      (false, (fun x_ _ => x_ = .pointer (some ⟨g, 0, none⟩))),
      (false, (fun x_ _ => x_ = .pointer (some ⟨g, 0, none⟩))),
      (false, (fun x_ _ => x_ = .pointer (some ⟨g, 0, none⟩))),
      (true, (fun x_ _ => x_ = .int .u64 nn)),
      (false, (fun x_ _ => x_ = .pointer (some ⟨g, 0, none⟩))),
      (false, (fun x_ _ => x_ = .func (.func 41) #[.pointer (some ⟨g, 0, none⟩)] #[]))] (by kernel_rfl) (RNx g v1 M1 W1 s2 s3 s3) (Chg [g]) rfl rfl rfl
      ?st ⟨v1, h1.drewS, (Chg.refl _ _).drew, fun _ hS => hS⟩ ?ob ?en
    case st => exact ⟨fun _ _ _ h _ => h, fun _ _ _ h _ => h, fun _ _ _ h _ => h, fun _ _ _ h _ => h, fun _ _ _ h _ => h, fun _ _ _ h _ => h, fun _ _ _ h _ => h, fun _ _ _ h _ => h, fun _ _ _ h _ => h, trivial⟩
    case ob =>
      refine ⟨fun i => Rg.at_runW [4] rfl ?_, ?_⟩
      · intro ρ W hR ⟨q4, _⟩
        replace q4 : ρ 4 = .pointer (some ⟨g, 0, none⟩) := q4
        refine ⟨rfl, ?_⟩
        exact Rg.run_ok (v := .pointer (some ⟨g, 0, none⟩)) (by simp [execOp, Rg.ev, go_sem, q4]) ⟨rfl, hR, Chg.refl _ _⟩
      refine ⟨fun i => Rg.at_runW [25] rfl ?_, ?_⟩
      · intro ρ W hR ⟨q25, _⟩
        replace q25 : ρ 25 = .pointer (some ⟨g, 0, none⟩) := q25
        refine ⟨rfl, ?_⟩
        exact Rg.run_ok (v := .pointer (some ⟨g, 0, none⟩)) (by simp [execOp, Rg.ev, go_sem, q25]) ⟨rfl, hR, Chg.refl _ _⟩
      refine ⟨fun i => Rg.at_runW [26] rfl ?_, ?_⟩
      · intro ρ W hR ⟨q26, _⟩
        replace q26 : ρ 26 = .pointer (some ⟨g, 0, none⟩) := q26
        refine ⟨rfl, ?_⟩
        exact Rg.run_ok (v := .pointer (some ⟨g, 0, none⟩)) (by simp [execOp, Rg.ev, go_sem, q26]) ⟨rfl, hR, Chg.refl _ _⟩
      refine ⟨fun i => Rg.at_runW [4] rfl ?_, ?_⟩
      · intro ρ W hR ⟨q4, _⟩
        replace q4 : ρ 4 = .pointer (some ⟨g, 0, none⟩) := q4
        refine ⟨rfl, ?_⟩
        exact Rg.run_ok (v := .pointer (some ⟨g, 0, none⟩)) (by simp [execOp, Rg.ev, go_sem, q4]) ⟨rfl, hR, Chg.refl _ _⟩
      refine ⟨fun i => Rg.at_runW [28] rfl ?_, ?_⟩
      · intro ρ W hR ⟨q28, _⟩
        replace q28 : ρ 28 = .pointer (some ⟨g, 0, none⟩) := q28
        refine ⟨rfl, ?_⟩
        exact Rg.run_ok (v := .pointer (some ⟨g, 0, none⟩)) (by simp [execOp, Rg.ev, go_sem, q28]) ⟨rfl, hR, Chg.refl _ _⟩
      refine ⟨fun i => Rg.at_runW [29] rfl ?_, ?_⟩
      · intro ρ W hR ⟨q29, _⟩
        replace q29 : ρ 29 = .pointer (some ⟨g, 0, none⟩) := q29
        refine ⟨rfl, ?_⟩
        exact Rg.run_ok (v := .pointer (some ⟨g, 0, none⟩)) (by simp [execOp, Rg.ev, go_sem, q29]) ⟨rfl, hR, Chg.refl _ _⟩
      refine ⟨Rg.at_runW [30] rfl ?_, ?_⟩
      · intro ρ W hR ⟨q30, _⟩
        replace q30 : ρ 30 = .pointer (some ⟨g, 0, none⟩) := q30
        refine ⟨rfl, ?_⟩
        obtain ⟨v5, h5, c5, o5⟩ := hR
        refine Rg.enter_fn (args := #[.pointer (some ⟨g, 0, none⟩), .int .i64 2, .int .u64 18446744073709551615]) rfl (by simp only [List.map_toArray, List.map_cons, List.map_nil, Rg.ev, q30]) (by kernel_rfl) ?_
        refine (C3.out W v5 _ g h5).mono ?_
        rintro e_ w9 ⟨rfl, v6, k1, k2, k3⟩
        exact ⟨_, rfl, rfl, ⟨v6, k1, c5.trans k2, fun S hS => k3 S (o5 S hS)⟩, k2⟩
      refine ⟨fun i => Rg.at_runW [4] rfl ?_, ?_⟩
      · intro ρ W hR ⟨q4, _⟩
        replace q4 : ρ 4 = .pointer (some ⟨g, 0, none⟩) := q4
        refine ⟨rfl, ?_⟩
        exact Rg.run_ok (v := .pointer (some ⟨g, 0, none⟩)) (by simp [execOp, Rg.ev, go_sem, q4]) ⟨rfl, hR, Chg.refl _ _⟩
      refine ⟨fun i => Rg.at_runW [32] rfl ?_, ?_⟩
      · intro ρ W hR ⟨q32, _⟩
        replace q32 : ρ 32 = .pointer (some ⟨g, 0, none⟩) := q32
        refine ⟨rfl, ?_⟩
        exact Rg.run_ok (v := .func (.func 41) #[.pointer (some ⟨g, 0, none⟩)] #[]) (by simp [execOp, Rg.ev, go_sem, q32] <;> rfl) ⟨rfl, hR, Chg.refl _ _⟩
      trivial
    case en =>
      intro tm W hR hsz hk
      rw [Rg.fin_eq (ds := [25, 26, 27, 28, 29, 30, 31, 32, 33]) rfl rfl rfl hsz hk]
      have k25 : tm.getD 25 undef = .pointer (some ⟨g, 0, none⟩) := hk 25
      have k26 : tm.getD 26 undef = .pointer (some ⟨g, 0, none⟩) := hk 26
      have k27 : tm.getD 27 undef = .pointer (some ⟨g, 0, none⟩) := hk 27
      have k28 : tm.getD 28 undef = .pointer (some ⟨g, 0, none⟩) := hk 28
      have k29 : tm.getD 29 undef = .pointer (some ⟨g, 0, none⟩) := hk 29
      have k30 : tm.getD 30 undef = .pointer (some ⟨g, 0, none⟩) := hk 30
      have k31 : tm.getD 31 undef = .int .u64 nn := hk 31
      have k32 : tm.getD 32 undef = .pointer (some ⟨g, 0, none⟩) := hk 32
      have k33 : tm.getD 33 undef = .func (.func 41) #[.pointer (some ⟨g, 0, none⟩)] #[] := hk 33
      clear hk hsz
      simp only [Rg.putAll, List.setIfInBounds_toArray, List.set_cons_zero, List.set_cons_succ, k25, k26, k27, k28, k29, k30, k31, k32, k33]
      clear k25
      clear k26
      clear k27
      clear k28
      clear k29
      clear k30
      clear k31
      clear k32
      clear k33
      obtain ⟨v2, q2_, x2, o2⟩ := hR
      have h2 : SAt W g v2 s3 M1 := q2_
      clear q2_
      rw [HM1.out] at h2
      have hx2 : Ext w1 W := hx1.then_ x2 hgn
      have hof2 : ∀ S, (∀ k, k ∈ S → w1.heap.size ≤ k) → Off v2 S := fun S hS => o2 _ (hof1 S hS)
      simp only [List.drop_succ_cons, List.drop_zero]
      go_wp2_with fail
      refine (times1_b g 41 (.pointer (some ⟨g, 0, none⟩)) (fun k y W => RdL w1 W g y.2 a c y.1 ∧ y.1.length + k ≤ 65535) (fun y => y.2.2) (fun y => (y.1 ++ [(plink y.2).1], (plink y.2).2)) nn ([], s3) W ⟨⟨v2, none, 0, h2, OwnO.nil _ _ _ _ _, hof2, hx2⟩, by simp; omega⟩
        (hide (fun k y W hI => by
          obtain ⟨⟨v5, _, _, k1, -⟩, -⟩ := hI
          exact (k1.blk.cell 1).trans rfl)) (fun _ => by kernel_rfl) (hide (fun k y W _ hI => (slink_b w1 g y.2 a c y.1 W (by omega) hI.1 (by have := hI.2; omega)).mono fun e w' h => ⟨h.1, h.2, by have := hI.2; simp only [List.length_append, List.length_singleton]; omega⟩)) (by omega)).mono ?_
      rintro e W3 ⟨rfl, kk, hI, hlL⟩
      rw [titer_list] at hI hlL
      simp only [List.nil_append, HT4.out] at hI hlL
      obtain ⟨v3, Al, cl, h3, hown, hof3, hx3⟩ := hI
      clear h2 x2 o2 hof2 hx2 h1 hof1 hx1
      obtain ⟨M3, hM3⟩ : ∃ M : List Value, M = [.int .u64 a, .int .u64 c, .slice Al L.length cl, .slice none 0 0] := ⟨_, rfl⟩
      rw [← hM3] at h3
      have HM3 := hide hM3
      clear hM3
      go_upto_region 4 with fail
      refine Rg.regionW Tryz.checked.mixed 79 9 (by kernel_rfl) [
        (false, (fun x_ _ => x_ = .pointer (some ⟨g, 0, none⟩))),
        (false, (fun x_ _ => x_ = .pointer (some ⟨g, 0, none⟩))),
        (false, (fun x_ _ => x_ = .pointer (some ⟨g, 0, none⟩))),
        (false, (fun x_ _ => x_ = .pointer (some ⟨g, 0, none⟩))),
        (false, (fun x_ _ => x_ = .pointer (some ⟨g, 0, none⟩))),
        (false, (fun x_ _ => x_ = .pointer (some ⟨g, 0, none⟩))),
        (true, (fun x_ _ => x_ = .int .u64 mm)),
        (false, (fun x_ _ => x_ = .pointer (some ⟨g, 0, none⟩))),
        (false, (fun x_ _ => x_ = .func (.func 42) #[.pointer (some ⟨g, 0, none⟩)] #[]))] (by kernel_rfl) (RNx g v3 M3 W3 s4 s5 s5) (Chg [g]) rfl rfl rfl
        ?st ⟨v3, h3.drewS, (Chg.refl _ _).drew, fun _ hS => hS⟩ ?ob ?en
      case st => exact ⟨fun _ _ _ h _ => h, fun _ _ _ h _ => h, fun _ _ _ h _ => h, fun _ _ _ h _ => h, fun _ _ _ h _ => h, fun _ _ _ h _ => h, fun _ _ _ h _ => h, fun _ _ _ h _ => h, fun _ _ _ h _ => h, trivial⟩
      case ob =>
        refine ⟨fun i => Rg.at_runW [4] rfl ?_, ?_⟩
        · intro ρ W hR ⟨q4, _⟩
          replace q4 : ρ 4 = .pointer (some ⟨g, 0, none⟩) := q4
          refine ⟨rfl, ?_⟩
          exact Rg.run_ok (v := .pointer (some ⟨g, 0, none⟩)) (by simp [execOp, Rg.ev, go_sem, q4]) ⟨rfl, hR, Chg.refl _ _⟩
        refine ⟨fun i => Rg.at_runW [35] rfl ?_, ?_⟩
        · intro ρ W hR ⟨q35, _⟩
          replace q35 : ρ 35 = .pointer (some ⟨g, 0, none⟩) := q35
          refine ⟨rfl, ?_⟩
          exact Rg.run_ok (v := .pointer (some ⟨g, 0, none⟩)) (by simp [execOp, Rg.ev, go_sem, q35]) ⟨rfl, hR, Chg.refl _ _⟩
        refine ⟨fun i => Rg.at_runW [36] rfl ?_, ?_⟩
        · intro ρ W hR ⟨q36, _⟩
          replace q36 : ρ 36 = .pointer (some ⟨g, 0, none⟩) := q36
          refine ⟨rfl, ?_⟩
          exact Rg.run_ok (v := .pointer (some ⟨g, 0, none⟩)) (by simp [execOp, Rg.ev, go_sem, q36]) ⟨rfl, hR, Chg.refl _ _⟩
        refine ⟨fun i => Rg.at_runW [4] rfl ?_, ?_⟩
        · intro ρ W hR ⟨q4, _⟩
          replace q4 : ρ 4 = .pointer (some ⟨g, 0, none⟩) := q4
          refine ⟨rfl, ?_⟩
          exact Rg.run_ok (v := .pointer (some ⟨g, 0, none⟩)) (by simp [execOp, Rg.ev, go_sem, q4]) ⟨rfl, hR, Chg.refl _ _⟩
        refine ⟨fun i => Rg.at_runW [38] rfl ?_, ?_⟩
        · intro ρ W hR ⟨q38, _⟩
          replace q38 : ρ 38 = .pointer (some ⟨g, 0, none⟩) := q38
          refine ⟨rfl, ?_⟩
          exact Rg.run_ok (v := .pointer (some ⟨g, 0, none⟩)) (by simp [execOp, Rg.ev, go_sem, q38]) ⟨rfl, hR, Chg.refl _ _⟩
        refine ⟨fun i => Rg.at_runW [39] rfl ?_, ?_⟩
        · intro ρ W hR ⟨q39, _⟩
          replace q39 : ρ 39 = .pointer (some ⟨g, 0, none⟩) := q39
          refine ⟨rfl, ?_⟩
          exact Rg.run_ok (v := .pointer (some ⟨g, 0, none⟩)) (by simp [execOp, Rg.ev, go_sem, q39]) ⟨rfl, hR, Chg.refl _ _⟩
        refine ⟨Rg.at_runW [40] rfl ?_, ?_⟩
        · intro ρ W hR ⟨q40, _⟩
          replace q40 : ρ 40 = .pointer (some ⟨g, 0, none⟩) := q40
          refine ⟨rfl, ?_⟩
          obtain ⟨v5, h5, c5, o5⟩ := hR
          refine Rg.enter_fn (args := #[.pointer (some ⟨g, 0, none⟩), .int .i64 2, .int .u64 18446744073709551615]) rfl (by simp only [List.map_toArray, List.map_cons, List.map_nil, Rg.ev, q40]) (by kernel_rfl) ?_
          refine (C5.out W v5 _ g h5).mono ?_
          rintro e_ w9 ⟨rfl, v6, k1, k2, k3⟩
          exact ⟨_, rfl, rfl, ⟨v6, k1, c5.trans k2, fun S hS => k3 S (o5 S hS)⟩, k2⟩
        refine ⟨fun i => Rg.at_runW [4] rfl ?_, ?_⟩
        · intro ρ W hR ⟨q4, _⟩
          replace q4 : ρ 4 = .pointer (some ⟨g, 0, none⟩) := q4
          refine ⟨rfl, ?_⟩
          exact Rg.run_ok (v := .pointer (some ⟨g, 0, none⟩)) (by simp [execOp, Rg.ev, go_sem, q4]) ⟨rfl, hR, Chg.refl _ _⟩
        refine ⟨fun i => Rg.at_runW [42] rfl ?_, ?_⟩
        · intro ρ W hR ⟨q42, _⟩
          replace q42 : ρ 42 = .pointer (some ⟨g, 0, none⟩) := q42
          refine ⟨rfl, ?_⟩
          exact Rg.run_ok (v := .func (.func 42) #[.pointer (some ⟨g, 0, none⟩)] #[]) (by simp [execOp, Rg.ev, go_sem, q42] <;> rfl) ⟨rfl, hR, Chg.refl _ _⟩
        trivial
      case en =>
        intro tm W hR hsz hk
        rw [Rg.fin_eq (ds := [35, 36, 37, 38, 39, 40, 41, 42, 43]) rfl rfl rfl hsz hk]
        have k35 : tm.getD 35 undef = .pointer (some ⟨g, 0, none⟩) := hk 35
        have k36 : tm.getD 36 undef = .pointer (some ⟨g, 0, none⟩) := hk 36
        have k37 : tm.getD 37 undef = .pointer (some ⟨g, 0, none⟩) := hk 37
        have k38 : tm.getD 38 undef = .pointer (some ⟨g, 0, none⟩) := hk 38
        have k39 : tm.getD 39 undef = .pointer (some ⟨g, 0, none⟩) := hk 39
        have k40 : tm.getD 40 undef = .pointer (some ⟨g, 0, none⟩) := hk 40
        have k41 : tm.getD 41 undef = .int .u64 mm := hk 41
        have k42 : tm.getD 42 undef = .pointer (some ⟨g, 0, none⟩) := hk 42
        have k43 : tm.getD 43 undef = .func (.func 42) #[.pointer (some ⟨g, 0, none⟩)] #[] := hk 43
        clear hk hsz
        simp only [Rg.putAll, List.setIfInBounds_toArray, List.set_cons_zero, List.set_cons_succ, k35, k36, k37, k38, k39, k40, k41, k42, k43]
        clear k35
        clear k36
        clear k37
        clear k38
        clear k39
        clear k40
        clear k41
        clear k42
        clear k43
        obtain ⟨v4, q4_, x4, o4⟩ := hR
        have h4 : SAt W g v4 s5 M3 := q4_
        clear q4_
        rw [HM3.out] at h4
        have hx4 : Ext w1 W := hx3.then_ x4 hgn
        have hof4 : ∀ S, (∀ k, k ∈ S → w1.heap.size ≤ k) → Off v4 S := fun S hS => o4 _ (hof3 S hS)
        have hown4 := hown.chg x4 (fun q hq _ => List.mem_singleton.1 hq)
        simp only [List.drop_succ_cons, List.drop_zero]
        go_wp2_with fail
        refine (times1_b g 42 (.pointer (some ⟨g, 0, none⟩)) (fun k y W => RdS w1 W g y.2 a c Al cl L k y.1) (fun y => y.2.2) (fun y => (y.1 ++ [(psess y.2).1], (psess y.2).2)) mm ([], s5) W ⟨v4, none, 0, h4, hown4, OwnO.nil _ _ _ _ _, hof4, hx4, by simp; omega⟩
          (hide (fun k y W hI => by
            obtain ⟨v5, _, _, k1, -⟩ := hI
            exact (k1.blk.cell 1).trans rfl)) (fun _ => by kernel_rfl) (hide (fun k y W _ hI => ssess_b w1 g y.2 a c Al cl L k y.1 W (by omega) hI)) (by omega)).mono ?_
        rintro e W5 ⟨rfl, kq, hI⟩
        rw [titer_list] at hI
        simp only [List.nil_append, HT6.out] at hI
        obtain ⟨v5, Am, cm, h5, hlk5, hown5, hof5, hx5, hl5⟩ := hI
        clear h4 x4 o4 hof4 hx4 h3 hof3 hx3 hown4 hown
        obtain ⟨rb, re⟩ := s6
        obtain ⟨Ab, cb, rfl, -, -, -⟩ := id h5.bs
        have hF := h5.blk
        have hR5 := hR0.ext hx5
        have hxw : Ext w W5 := hz1.trans' hx5
        simp only at hF
        have g0 := (hF.cell 0).trans rfl
        have g1 := (hF.cell 1).trans rfl
        have g2 := (hF.cell 2).trans rfl
        have g3 := (hF.cell 3).trans rfl
        have g4 := (hF.cell 4).trans rfl
        have g5 := (hF.cell 5).trans rfl
        have y0 := (hR5.cell 0).trans rfl
        have y1 := (hR5.cell 1).trans rfl
        have y2 := (hR5.cell 2).trans rfl
        have y3 := (hR5.cell 3).trans rfl
        have z0 := hR5.frozen 0
        have z1 := hR5.frozen 1
        have z2 := hR5.frozen 2
        have z3 := hR5.frozen 3
        have hgrw : w.heap.size ≤ gr := by omega
        have hgr1 : ∀ k, k ∈ [gr] → w.heap.size ≤ k := fun k hk => by rw [List.mem_singleton.1 hk]; exact hgrw
        have hcr : Chg [gr] W5 _ := (Chg.refl [gr] W5).four (g := gr) (by simp) (.int .u64 0) (.int .u64 0) (.slice none 0 0) (.slice none 0 0)
        have hR6 := Blk.four hR5 (.int .u64 0) (.int .u64 0) (.slice none 0 0) (.slice none 0 0)
        rcases Bool.eq_false_or_eq_true (re != 0) with he | he
        · have HPT : Hid (ptake b = (St0, re)) := hide (by unfold ptake; rw [HP.out]; simp only; rw [if_pos (by simpa using he)])
          have g1' := ((hF.chg hcr (by simp; omega)).cell 1).trans rfl
          go_upto_region 6 with fail
          go_region
          all_goals
            go_wp2_with fail
            try simp only [Exit.inBlock, Exit.then]
            refine bodyPost_ret (results_cell2 rfl _ _ gr 28 #[.int .u64 0, .int .u64 0, .slice none 0 0, .slice none 0 0] (0, 0) _ rfl hR6.drew Tryz.underlying28 rfl (by kernel_rfl)) rfl ?_
            exact ⟨St0, re, none, 0, none, 0, hide HPT.out.symm, rfl, st0_rep _ _, (hxw.then_ hcr hgr1).drew'⟩
        · have HRE : Hid (re = 0) := hide (by simpa using he)
          rcases Nat.eq_zero_or_pos rb.length with hz | hz
          · have hl0 : ¬ ((0 : Int) < rb.length) := by omega
            have hsl1 := (hlk5.flatO (X' := fun j => X j ∨ j = gr) ln_flatO (fun j hj => by rcases hj with h | h; (have := hX j h; have := hz1.size; omega); omega)).sl
            have hsl2 := (hown5.mono (Y := fun j => X j ∨ j = gr) (fun j _ hj => .inr (.inr (by rcases hj with h | h; (have := hX j h; have := hz1.size; omega); omega)))).sl
            obtain ⟨st, hst⟩ : ∃ r, standsB ⟨a, c, L, Y⟩ = r := ⟨_, rfl⟩
            have HST := hide (fun (W : World) (hx : Ext W5 W) => stands_b ⟨a, c, L, Y⟩ Al Am cl cm W ((hsl1.mono (fun _ _ h => h.elim)).ext hx) ((hsl2.mono (fun _ _ h => h.elim)).ext hx))
            rw [hst] at HST
            simp only at HST
            have HS := hide hst
            clear hst hcr hR6
            go_upto_region 7 with fail
            go_wp2_with fail
            refine (HST.out W5 (Ext.rfl' _)).mono ?_
            rintro e W6 ⟨rfl, hx6⟩
            have hR6 := hR5.ext hx6
            have hF6 := hF.ext hx6
            clear g0 g1 g2 g3 g4 g5 y0 y1 y2 y3 z0 z1 z2 z3
            have y0 := (hR6.cell 0).trans rfl
            have y1 := (hR6.cell 1).trans rfl
            have y2 := (hR6.cell 2).trans rfl
            have y3 := (hR6.cell 3).trans rfl
            have z0 := hR6.frozen 0
            have z1 := hR6.frozen 1
            have z2 := hR6.frozen 2
            have z3 := hR6.frozen 3
            cases st with
            | false =>
              have HPT : Hid (ptake b = (St0, 2)) := hide (by unfold ptake; rw [HP.out]; simp only; rw [if_neg (by simp [HRE.out]), if_pos (.inr HS.out)])
              have hcr : Chg [gr] W6 _ := (Chg.refl [gr] W6).four (g := gr) (by simp) (.int .u64 0) (.int .u64 0) (.slice none 0 0) (.slice none 0 0)
              have hR7 := Blk.four hR6 (.int .u64 0) (.int .u64 0) (.slice none 0 0) (.slice none 0 0)
              go_wp2_with fail
              try simp only [Exit.inBlock, Exit.then]
              refine bodyPost_ret (results_cell2 rfl _ _ gr 28 #[.int .u64 0, .int .u64 0, .slice none 0 0, .slice none 0 0] (0, 0) _ rfl hR7 Tryz.underlying28 rfl (by kernel_rfl)) rfl ?_
              exact ⟨St0, 2, none, 0, none, 0, hide HPT.out.symm, rfl, st0_rep _ _, (hxw.trans' hx6).then_ hcr hgr1⟩
            | true =>
              have HPT : Hid (ptake b = (⟨a, c, L, Y⟩, 0)) := hide (by unfold ptake; rw [HP.out]; simp only; rw [if_neg (by simp [HRE.out]), if_neg (by rw [HS.out]; simp; exact List.eq_nil_of_length_eq_zero hz)])
              have hcr : Chg [gr] W6 _ := (Chg.refl [gr] W6).four (g := gr) (by simp) (.int .u64 a) (.int .u64 c) (.slice Al L.length cl) (.slice Am Y.length cm)
              have hR7 := Blk.four hR6 (.int .u64 a) (.int .u64 c) (.slice Al L.length cl) (.slice Am Y.length cm)
              have g2 := (hF6.cell 2).trans rfl
              have g3 := (hF6.cell 3).trans rfl
              have g4 := (hF6.cell 4).trans rfl
              have g5 := (hF6.cell 5).trans rfl
              have hgX : ∀ k, k ∈ [gr] → k < W6.heap.size → (X k ∨ k = gr) := fun k hk _ => .inr (List.mem_singleton.1 hk)
              have hs1 := ((hsl1.ext hx6).chg hcr hgX).mono (Y := X) (fun _ _ h => .inl h)
              have hs2 := ((hsl2.ext hx6).chg hcr hgX).mono (Y := X) (fun _ _ h => .inl h)
              go_wp2_with fail
              try simp only [Exit.inBlock, Exit.then]
              refine bodyPost_ret (results_cell2 rfl _ _ gr 28 #[.int .u64 a, .int .u64 c, .slice Al L.length cl, .slice Am Y.length cm] (0, 0) _ rfl hR7 Tryz.underlying28 rfl (by kernel_rfl)) rfl ?_
              exact ⟨⟨a, c, L, Y⟩, 0, Al, cl, Am, cm, hide HPT.out.symm, rfl, st_rep.2 ⟨_, _, rfl, ha, hc, hs1, hs2⟩, (hxw.trans' hx6).then_ hcr hgr1⟩
          · have HPT : Hid (ptake b = (St0, 2)) := hide (by unfold ptake; rw [HP.out]; simp only; rw [if_neg (by simp [HRE.out]), if_pos (.inl hz)])
            have hl0 : (0 : Int) < rb.length := by omega
            go_wp2_with fail
            try simp only [Exit.inBlock, Exit.then]
            refine bodyPost_ret (results_cell2 rfl _ _ gr 28 #[.int .u64 0, .int .u64 0, .slice none 0 0, .slice none 0 0] (0, 0) _ rfl hR6 Tryz.underlying28 rfl (by kernel_rfl)) rfl ?_
            exact ⟨St0, 2, none, 0, none, 0, hide HPT.out.symm, rfl, st0_rep _ _, hxw.then_ hcr hgr1⟩
end Go.Proofs.YtamimdlaclglkaaGreat
