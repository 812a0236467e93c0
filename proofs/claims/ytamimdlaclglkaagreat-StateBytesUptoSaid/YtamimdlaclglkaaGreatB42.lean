/- A part of the proof of 'StateBytes'. -/
import Derived.Test.YtamimdlaclglkaaGreatB28
import Derived.Test.YtamimdlaclglkaaGreatB26
namespace Go.Proofs.YtamimdlaclglkaaGreat
set_option linter.unusedVariables false
set_option linter.unusedSimpArgs false
set_option linter.unnecessarySimpa false
set_option maxRecDepth 100000
open Go.RowKit
theorem RdAt.drewR {T : TypeId} {w : World} {g : Nat} {v : Value} {s : Rdr} (h : RdAt T w g v s) : RdAt T w.drew g v s := ⟨h.blk, h.bs, h.off, h.len⟩
/-- the reader after so many of three reads -/
def RK6 (T : TypeId) (g : Nat) (v0 : Value) (W0 : World) (s1 s2 s3 s4 : Rdr) (i : Nat) (W : World) : Prop := ∃ v', RdAt T W g v' (match i with | 0 => s1 | 1 => s2 | 2 => s3 | _ => s4) ∧ Chg [g] W0 W ∧ ∀ S, Off v0 S → Off v' S
theorem titer_stop {σ : Type} {er : σ → Int} {f : σ → σ} {n : Nat} {x : σ} (h : ¬ er x = 0) : titer er f n x = x := by
  cases n with
  | zero => rfl
  | succ n => unfold titer; rw [if_neg h]
theorem titer_step {σ : Type} {er : σ → Int} {f : σ → σ} {n : Nat} {x : σ} (h : er x = 0) : titer er f (n + 1) x = titer er f n (f x) := by
  conv => lhs; unfold titer
  rw [if_pos h]
theorem Own.chgR {S : List Nat} {w0 w w' : World} {v : Value} {l : List Ln} (h : Own 53 lnE w0 w noneAt v l) (hc : Chg S w w') (hn : ∀ k, v.ownBlock = some k → k ∉ S) : Own 53 lnE w0 w' noneAt v l := by
  obtain ⟨css, h1, h2, h3⟩ := h
  exact ⟨css, own_chg h1 hc hn, ⟨h2.1, fun k cs a ha hb => ln_rep.2 (ln_rep.1 (h2.2 k cs a ha hb))⟩, h3⟩
/-- one more of a list that is read -/
def padd {α : Type} (f : Rdr → α × Rdr) (y : List α × Rdr) : List α × Rdr := (y.1 ++ [(f y.2).1], (f y.2).2)
set_option maxHeartbeats 6400000 in
theorem rtlinks_b (g : Nat) (v : Value) (s : Rdr) (w : World) (h : RdAt 82 w g v s) :
    Calls Tryz.prog 45 #[.pointer (some ⟨g, 0, none⟩)] w fun e w' => ∃ (l : List Ln) (A : Option Addr) (c : Nat), Hid (l = (ptimes plink (pnum 2 s).1.toNat (pnum 2 s).2).1) ∧ e = .returned (.slice A l.length c) ∧ Own 53 lnE w w' noneAt (.slice A l.length c) l ∧
      RdTo 82 w w' g v (ptimes plink (pnum 2 s).1.toNat (pnum 2 s).2).2 := by
  obtain ⟨⟨n, s0⟩, hn⟩ : ∃ r, pnum 2 s = r := ⟨_, rfl⟩
  have hnr := pnum_u16 s
  have C0 := hide (fun (W : World) (h : RdAt 82 W g v s) => rnum_b 82 g v s 2 W h (by decide))
  rw [hn] at hnr C0 ⊢
  simp only at hnr C0 ⊢
  clear hn
  obtain ⟨N, rfl⟩ := Int.eq_ofNat_of_zero_le hnr.1
  have hN : N ≤ 65535 := by omega
  have hwn : IntKind.i64.wrap (N : Int) = N := IntWalk.i64_in _ ⟨by omega, by omega⟩
  rw [Int.toNat_natCast]
  obtain ⟨F, hF⟩ : ∃ F, titer (fun y : List Ln × Rdr => y.2.2) (padd plink) N ([], s0) = F := ⟨_, rfl⟩
  have HF : Hid (F = ((ptimes plink N s0).1, (ptimes plink N s0).2)) := hide (by
    rw [← hF]
    have := titer_list plink N [] s0
    rw [List.nil_append] at this
    exact this)
  have HF0 := hide hF
  clear hF
  go_enter Tryz.func45, Tryz.ntmps45
  go_wp2_with fail
  refine (C0.out w h).mono ?_
  rintro e w1 ⟨rfl, v0, h0, x0, o0⟩
  go_wp2_with fail
  go_loopw [3, 5] (fun vo vi wr => ∃ (k : Nat) (l : List Ln) (A : Option Addr) (c : Nat) (s1 : Rdr) (v1 : Value), k ≤ N ∧ l.length ≤ k ∧ vo = .slice A l.length c ∧ vi = .int .i64 k ∧ Hid (titer (fun y : List Ln × Rdr => y.2.2) (padd plink) (N - k) (l, s1) = F) ∧ RdAt 82 wr g v1 s1 ∧ Chg [g] w wr ∧ (∀ S, Off v S → Off v1 S) ∧ Own 53 lnE w wr noneAt (.slice A l.length c) l) (fun _ vi _ => (N - intOf vi).toNat)
  case atStart => exact ⟨0, [], none, 0, s0, v0, by omega, by simp, rfl, rfl, hide (by simpa using HF0.out), h0, x0, o0, Own.nil _ _ _ _ _⟩
  case round =>
    clear h0 x0 o0
    obtain ⟨k, l, A, c, s1, v1, hkN, hlk, rfl, rfl, HT, h1, x1, o1, hown⟩ := hrel
    have e1 := (h1.blk.cell 1).trans rfl
    by_cases hlt : (k : Int) < N
    · rcases Bool.eq_false_or_eq_true (s1.2 == 0) with he | he
      · have HE : Hid (s1.2 = 0) := hide (by simpa using he)
        obtain ⟨⟨N1, s2⟩, hp1⟩ : ∃ r, ptext s1 = r := ⟨_, rfl⟩
        obtain ⟨⟨N2, s3⟩, hp2⟩ : ∃ r, ptext s2 = r := ⟨_, rfl⟩
        obtain ⟨⟨T, s4⟩, hp3⟩ : ∃ r, pnum 8 s3 = r := ⟨_, rfl⟩
        obtain ⟨⟨D, s5⟩, hp4⟩ : ∃ r, pnum 1 s4 = r := ⟨_, rfl⟩
        obtain ⟨s6, hp5⟩ : ∃ r, pform (decide (1 < D)) s5 = r := ⟨_, rfl⟩
        have HP : Hid (plink s1 = (⟨N1, N2, T, decide (D = 1)⟩, s6)) := hide (by unfold plink; simp only [hp1, hp2, hp3, hp4, hp5])
        have HT2 : Hid (titer (fun y : List Ln × Rdr => y.2.2) (padd plink) (N - (k + 1)) (l ++ [⟨N1, N2, T, decide (D = 1)⟩], s6) = F) := hide (by
          have h9 := HT.out
          rw [show N - k = (N - (k + 1)) + 1 by omega, titer_step (by exact HE.out)] at h9
          rw [← h9]
          unfold padd
          rw [HP.out])
        have hTT := pnum_u64 s3
        have hDD := pnum_u8 s4
        have hNN := (ptext_le s1).1
        have hN2 := (ptext_le s2).1
        have hs2l := (ptext_le s1).2
        rw [hp1] at hNN hs2l
        rw [hp2] at hN2
        rw [hp3] at hTT
        rw [hp4] at hDD
        simp only at hTT hDD hNN hN2 hs2l
        have hsl := h1.len
        have C1 := hide (fun (W : World) v (h : RdAt 82 W g v s1) => rbytes_b 82 g v s1 W h)
        have C2 := hide (fun (W : World) v (h : RdAt 82 W g v s2) => rbytes_b 82 g v s2 W h)
        have C3 := hide (fun (W : World) v (h : RdAt 82 W g v s3) => rnum_b 82 g v s3 8 W h (by decide))
        have C4 := hide (fun (W : World) v (h : RdAt 82 W g v s4) => rnum_b 82 g v s4 1 W h (by decide))
        have C5 := hide (fun (W : World) v (h : RdAt 82 W g v s5) => rfail_b 82 g v s5 W h)
        rw [hp1] at C1
        rw [hp2] at C2
        rw [hp3] at C3
        rw [hp4] at C4
        simp only at C1 C2 C3 C4
        have HP5 := hide hp5
        clear hp1 hp2 hp3 hp4 hp5 HP
        have HLT := hide hlt
        obtain ⟨n1, hn1⟩ : ∃ n_, wr.heap.size = n_ := ⟨_, rfl⟩
        have hgn : g < n1 := by rw [← hn1]; exact h1.blk.lt
        go_upto_region 6 with fail
        clear e1
        generalize wr = W0 at *
        refine Rg.regionW Tryz.checked.mixed 46 10 (by kernel_rfl) [
          (false, (fun x_ _ => x_ = .pointer (some ⟨g, 0, none⟩))),
          (true, (fun v W => Bs W v N1 ∧ Off v [g])),
          (false, (fun x_ _ => x_ = str N1)),
          (false, (fun x_ _ => x_ = .pointer (some ⟨g, 0, none⟩))),
          (true, (fun v W => Bs W v N2 ∧ Off v [g])),
          (false, (fun x_ _ => x_ = str N2)),
          (false, (fun x_ _ => x_ = .pointer (some ⟨g, 0, none⟩))),
          (true, (fun x_ _ => x_ = .int .u64 T)),
          (false, (fun x_ _ => x_ = .agg #[str N1, str N2, .int .u64 T, .bool false])),
          (false, (fun v W => ∃ b, v = .pointer (some ⟨b, 0, none⟩) ∧ n1 ≤ b ∧ Blk W b 53 #[str [], str [], .int .u64 0, .bool false]))] (by kernel_rfl) (RK6 82 g v1 W0 s1 s2 s3 s4) (Chg [g]) rfl rfl rfl
          ?st ⟨v1, h1.drewR, (Chg.refl _ _).drew, fun _ hS => hS⟩ ?ob ?en
        case st => exact ⟨fun _ _ _ h _ => h, fun _ _ _ ⟨h, o⟩ hx => ⟨h.chg hx o, o⟩, fun _ _ _ h _ => h, fun _ _ _ h _ => h, fun _ _ _ ⟨h, o⟩ hx => ⟨h.chg hx o, o⟩, fun _ _ _ h _ => h, fun _ _ _ h _ => h, fun _ _ _ h _ => h, fun _ _ _ h _ => h, fun _ _ _ ⟨b, h1, h2, h3⟩ hx => ⟨b, h1, h2, h3.chg hx (by simp; omega)⟩, trivial⟩
        case ob =>
          refine ⟨fun i => Rg.at_runW [0] rfl ?_, ?_⟩
          · intro ρ W hR ⟨q0, _⟩
            replace q0 : ρ 0 = .pointer (some ⟨g, 0, none⟩) := q0
            refine ⟨rfl, ?_⟩
            exact Rg.run_ok (v := .pointer (some ⟨g, 0, none⟩)) (by simp [execOp, Rg.ev, go_sem, q0]) ⟨rfl, hR, Chg.refl _ _⟩
          refine ⟨Rg.at_runW [23] rfl ?_, ?_⟩
          · intro ρ W hR ⟨q23, _⟩
            replace q23 : ρ 23 = .pointer (some ⟨g, 0, none⟩) := q23
            refine ⟨rfl, ?_⟩
            obtain ⟨v5, h5, c5, o5⟩ := hR
            refine Rg.run_enter (by simp [execOp, Rg.ev, go_sem, q23]; exact ⟨⟨rfl, rfl⟩, rfl⟩) ?_
            refine (C1.out W v5 h5).mono ?_
            rintro e W2 ⟨m, Am, cm, hm, rfl, hz, v6, ra, rc, ro⟩
            have hm' := hm.out
            subst hm'
            exact ⟨_, rfl, ⟨hz.bs, hz.off (fun i hi => by rw [List.mem_singleton.1 hi]; exact h5.blk.lt)⟩, ⟨v6, ra, c5.trans rc, fun S hS => ro S (o5 S hS)⟩, rc⟩
          refine ⟨fun i => Rg.at_runW [24] rfl ?_, ?_⟩
          · intro ρ W hR ⟨q24, _⟩
            replace q24 : (fun v W => Bs W v N1 ∧ Off v [g]) (ρ 24) W := q24
            refine ⟨rfl, ?_⟩
            have hs := run_str (P := Tryz.prog) q24.1 Tryz.underlying22 Tryz.underlying5 Tryz.underlying9
            exact Rg.run_ok (v := str N1) (by simp only [execOp, Rg.ev, Sem.run_bind, Sem.run_pure, Result.andThen_ok, hs]) ⟨rfl, hR, Chg.refl _ _⟩
          refine ⟨fun i => Rg.at_runW [0] rfl ?_, ?_⟩
          · intro ρ W hR ⟨q0, _⟩
            replace q0 : ρ 0 = .pointer (some ⟨g, 0, none⟩) := q0
            refine ⟨rfl, ?_⟩
            exact Rg.run_ok (v := .pointer (some ⟨g, 0, none⟩)) (by simp [execOp, Rg.ev, go_sem, q0]) ⟨rfl, hR, Chg.refl _ _⟩
          refine ⟨Rg.at_runW [26] rfl ?_, ?_⟩
          · intro ρ W hR ⟨q26, _⟩
            replace q26 : ρ 26 = .pointer (some ⟨g, 0, none⟩) := q26
            refine ⟨rfl, ?_⟩
            obtain ⟨v5, h5, c5, o5⟩ := hR
            refine Rg.run_enter (by simp [execOp, Rg.ev, go_sem, q26]; exact ⟨⟨rfl, rfl⟩, rfl⟩) ?_
            refine (C2.out W v5 h5).mono ?_
            rintro e W2 ⟨m, Am, cm, hm, rfl, hz, v6, ra, rc, ro⟩
            have hm' := hm.out
            subst hm'
            exact ⟨_, rfl, ⟨hz.bs, hz.off (fun i hi => by rw [List.mem_singleton.1 hi]; exact h5.blk.lt)⟩, ⟨v6, ra, c5.trans rc, fun S hS => ro S (o5 S hS)⟩, rc⟩
          refine ⟨fun i => Rg.at_runW [27] rfl ?_, ?_⟩
          · intro ρ W hR ⟨q27, _⟩
            replace q27 : (fun v W => Bs W v N2 ∧ Off v [g]) (ρ 27) W := q27
            refine ⟨rfl, ?_⟩
            have hs := run_str (P := Tryz.prog) q27.1 Tryz.underlying22 Tryz.underlying5 Tryz.underlying9
            exact Rg.run_ok (v := str N2) (by simp only [execOp, Rg.ev, Sem.run_bind, Sem.run_pure, Result.andThen_ok, hs]) ⟨rfl, hR, Chg.refl _ _⟩
          refine ⟨fun i => Rg.at_runW [0] rfl ?_, ?_⟩
          · intro ρ W hR ⟨q0, _⟩
            replace q0 : ρ 0 = .pointer (some ⟨g, 0, none⟩) := q0
            refine ⟨rfl, ?_⟩
            exact Rg.run_ok (v := .pointer (some ⟨g, 0, none⟩)) (by simp [execOp, Rg.ev, go_sem, q0]) ⟨rfl, hR, Chg.refl _ _⟩
          refine ⟨Rg.at_runW [29] rfl ?_, ?_⟩
          · intro ρ W hR ⟨q29, _⟩
            replace q29 : ρ 29 = .pointer (some ⟨g, 0, none⟩) := q29
            refine ⟨rfl, ?_⟩
            obtain ⟨v5, h5, c5, o5⟩ := hR
            refine Rg.enter_fn (args := #[.pointer (some ⟨g, 0, none⟩), .int .i64 8]) rfl (by simp only [List.map_toArray, List.map_cons, List.map_nil, Rg.ev, q29]) (by kernel_rfl) ?_
            refine (C3.out W v5 h5).mono ?_
            rintro e_ w9 ⟨rfl, v6, ra, rc, ro⟩
            exact ⟨_, rfl, rfl, ⟨v6, ra, c5.trans rc, fun S hS => ro S (o5 S hS)⟩, rc⟩
          refine ⟨fun i => Rg.at_runW [25, 28, 30] rfl ?_, ?_⟩
          · intro ρ W hR ⟨q25, q28, q30, _⟩
            replace q25 : ρ 25 = str N1 := q25
            replace q28 : ρ 28 = str N2 := q28
            replace q30 : ρ 30 = .int .u64 T := q30
            refine ⟨rfl, ?_⟩
            exact Rg.run_ok (v := .agg #[str N1, str N2, .int .u64 T, .bool false]) (by simp [execOp, Rg.ev, go_sem, q25, q28, q30] <;> rfl) ⟨rfl, hR, Chg.refl _ _⟩
          refine ⟨fun i => Rg.at_runW [] rfl ?_, ?_⟩
          · intro ρ W hR _
            refine ⟨rfl, ?_⟩
            obtain ⟨v5, h5, c5, o5⟩ := hR
            exact Rg.run_ok (v := .pointer (some ⟨W.heap.size, 0, none⟩)) (W' := W.alloc (.cells #[str [], str [], .int .u64 0, .bool false] 53)) (by simp [execOp, Rg.ev, go_sem] <;> rfl) ⟨⟨_, rfl, by have := c5.size; omega, Blk.new W _ _⟩, ⟨v5, h5.ext ((Ext.rfl' _).alloc' _), c5.alloc _, o5⟩, (Chg.refl _ _).alloc _⟩
          trivial
        case en =>
          intro tm W hR hsz hk
          rw [Rg.fin_eq (ds := [23, 24, 25, 26, 27, 28, 29, 30, 31, 6]) rfl rfl rfl hsz hk]
          have k6 : (fun v W => ∃ b, v = .pointer (some ⟨b, 0, none⟩) ∧ n1 ≤ b ∧ Blk W b 53 #[str [], str [], .int .u64 0, .bool false]) (tm.getD 6 undef) W := hk 6
          have k23 : tm.getD 23 undef = .pointer (some ⟨g, 0, none⟩) := hk 23
          have k24 : (fun v W => Bs W v N1 ∧ Off v [g]) (tm.getD 24 undef) W := hk 24
          have k25 : tm.getD 25 undef = str N1 := hk 25
          have k26 : tm.getD 26 undef = .pointer (some ⟨g, 0, none⟩) := hk 26
          have k27 : (fun v W => Bs W v N2 ∧ Off v [g]) (tm.getD 27 undef) W := hk 27
          have k28 : tm.getD 28 undef = str N2 := hk 28
          have k29 : tm.getD 29 undef = .pointer (some ⟨g, 0, none⟩) := hk 29
          have k30 : tm.getD 30 undef = .int .u64 T := hk 30
          have k31 : tm.getD 31 undef = .agg #[str N1, str N2, .int .u64 T, .bool false] := hk 31
          clear hk hsz
          simp only [Rg.putAll, List.setIfInBounds_toArray, List.set_cons_zero, List.set_cons_succ, k23, k25, k26, k28, k29, k30, k31]
          generalize tm.getD 6 undef = u6 at *
          clear k23
          generalize tm.getD 24 undef = u24 at *
          clear k25
          clear k26
          generalize tm.getD 27 undef = u27 at *
          clear k28
          clear k29
          clear k30
          clear k31
          obtain ⟨b, rfl, hb1, hB⟩ := k6
          obtain ⟨v2, q2_, x2, o2⟩ := hR
          have hbg : b ≠ g := by omega
          have e0 := (hB.cell 0).trans rfl
          have e1 := (hB.cell 1).trans rfl
          have e2 := (hB.cell 2).trans rfl
          have e3 := (hB.cell 3).trans rfl
          have fe0 := hB.frozen 0
          have fe1 := hB.frozen 1
          have fe2 := hB.frozen 2
          have fe3 := hB.frozen 3
          have hcb : Chg [b] W ((((W.setCell ⟨b, 0, none⟩ (str N1)).setCell ⟨b, 1, none⟩ (str N2)).setCell ⟨b, 2, none⟩ (.int .u64 T)).setCell ⟨b, 3, none⟩ (.bool false)) := (Chg.refl _ _).four (by simp) _ _ _ _
          have hB1 := Blk.four hB (str N1) (str N2) (.int .u64 T) (.bool false)
          have hofb : Off v2 [b] := o2 _ (h1.bs.off_new (fun k hk => by rw [List.mem_singleton.1 hk]; omega))
          have k4_ : RdAt 82 W g v2 s4 := q2_
          replace k4_ := k4_.chg hcb (by simpa using fun h : g = b => hbg h.symm) hofb
          have x3 : Chg [g, b] W0 _ := (x2.mono (T := [g, b]) (by simp)).trans (hcb.mono (by simp))
          clear k24 k27
          go_upto_region 7 with fail
          generalize ((((W.setCell ⟨b, 0, none⟩ (str N1)).setCell ⟨b, 1, none⟩ (str N2)).setCell ⟨b, 2, none⟩ (.int .u64 T)).setCell ⟨b, 3, none⟩ (.bool false)) = W1 at *
          clear e0 e1 e2 e3 fe0 fe1 fe2 fe3 hB hcb q2_ x2
          go_wp2_with fail
          refine (C4.out W1 v2 k4_).mono ?_
          rintro e W2 ⟨rfl, v3, k5_, x4, o3⟩
          have hB2 := hB1.chg x4 (by simpa using hbg)
          have x5 : Chg [g, b] W0 W2 := x3.trans (x4.mono (by simp))
          have hofb3 := o3 _ hofb
          clear k4_ x3 x4 hB1
          go_upto_if 35 with fail
          go_cut [] (fun wx => ∃ v4, RdAt 82 wx g v4 s6 ∧ Blk wx b 53 #[str N1, str N2, .int .u64 T, .bool false] ∧ Chg [g, b] W0 wx ∧ ∀ S, Off v2 S → Off v4 S)
          case first =>
            rcases Bool.eq_false_or_eq_true (decide ((1 : Int) < D)) with hd | hd
            · have hd1 : (1 : Int) < D := of_decide_eq_true hd
              go_wp2_with fail
              refine (C5.out W2 v3 k5_).mono ?_
              rintro e W3 ⟨rfl, v4, k6_, x6, o4⟩
              have HS6 : Hid (pform true s5 = s6) := hide (by rw [← HP5.out, hd])
              rw [HS6.out] at k6_
              go_wp2_with fail
              go_meet
              case rel => exact ⟨v4, k6_, hB2.chg x6 (by simpa using hbg), x5.trans (x6.mono (by simp)), fun S hS => o4 _ (o3 _ hS)⟩
            · have hd1 : ¬ (1 : Int) < D := of_decide_eq_false hd
              have HS6 : Hid (s5 = s6) := hide (by rw [← HP5.out, hd]; simp [pform])
              rw [HS6.out] at k5_
              go_wp2_with fail
              go_meet
              case rel => exact ⟨v3, k5_, hB2, x5, o3⟩
          case rest =>
            obtain ⟨v4, k6_, hB3, x6, o4⟩ := hcut
            generalize wc = W3 at *
            have e3 := (hB3.cell 3).trans rfl
            have fe3 := hB3.frozen 3
            obtain ⟨md, hmd⟩ : ∃ md, (D == 1) = md := ⟨_, rfl⟩
            have HMD : Hid (decide (D = 1) = md) := hide (by rw [← hmd]; cases h : (D == 1) <;> simpa using h)
            have hc7 : Chg [b] W3 (W3.setCell ⟨b, 3, none⟩ (.bool md)) := (Chg.refl _ _).set (by simp) _
            have k8_ := k6_.chg hc7 (by simpa using fun h : g = b => hbg h.symm) (o4 _ hofb)
            have hB4 : Blk (W3.setCell ⟨b, 3, none⟩ (.bool md)) b 53 #[str N1, str N2, .int .u64 T, .bool md] := hB3.set_ 3 _
            have x8 : Chg [g, b] W0 (W3.setCell ⟨b, 3, none⟩ (.bool md)) := x6.trans (hc7.mono (by simp))
            go_upto_region 11 with fail
            generalize (W3.setCell ⟨b, 3, none⟩ (.bool md)) = W5 at *
            clear hmd e3 fe3 hc7 hB3 hB2 k5_ k6_ x5 x6
            have x9 : Chg [g] W0 W5 := x8.lessS (fun k hk => by
              simp at hk
              rcases hk with h | h
              · exact .inl (by simp [h])
              · exact .inr (by omega))
            have hgw : g < w.heap.size := h.blk.lt
            have hown5 := hown.chgR x9 (fun k hk hm => by
              have h9 := (hown.lt k hk).1
              rw [List.mem_singleton.1 hm] at h9
              omega)
            have hw5 : w.heap.size ≤ W5.heap.size := (x1.trans x9).size
            have hcut0 : (cutW W5 w.heap.size).heap.size = w.heap.size := cutW_size hw5
            have hx50 : Ext (cutW W5 w.heap.size) W5 := cutW_ext hw5
            have hown6 : Own 53 lnE (cutW W5 w.heap.size) W5 noneAt (.slice A l.length c) l := hown5.base (by omega)
            obtain ⟨W6, hW6⟩ : ∃ W, cutW W5 w.heap.size = W := ⟨_, rfl⟩
            rw [hW6] at hcut0 hx50 hown6
            clear hW6
            obtain ⟨gl, hgl_⟩ : ∃ g_, W5.heap.size = g_ := ⟨_, rfl⟩
            have hxa : Ext W5 (W5.alloc (.cells #[str N1, str N2, .int .u64 T, .bool md] 53)) := (Ext.rfl' _).alloc' _
            have hlit : Enc.Sl lnE (W5.alloc (.cells #[str N1, str N2, .int .u64 T, .bool md] 53)) (fun j => noneAt j ∨ (Value.slice A l.length c).ownBlock = some j) (.slice (some ⟨gl, 0, none⟩) 1 1) [⟨N1, N2, T, md⟩] :=
              Sl.one (E := lnE) 53 (cs := [str N1, str N2, .int .u64 T, .bool md]) (w := W5) (ln_rep.2 ⟨rfl, by simp only [maxLen]; omega, by simp only [maxLen]; omega, hTT⟩) gl hgl_ (fun h => by
                rcases h with h | h
                · exact h
                · have := (hown5.lt _ h).2; omega)
            have b0 := (hB4.cell 0).trans rfl
            have b1 := (hB4.cell 1).trans rfl
            have b2 := (hB4.cell 2).trans rfl
            have b3 := (hB4.cell 3).trans rfl
            go_wp2_with (at_builtin; go_must (refine wpList_own elt_ln 25 Tryz.underlying25 rfl (.tmp 41) (.tmp 43) rfl (hown6.ext hxa) rfl (hx50.trans' hxa) (m := [⟨N1, N2, T, md⟩]) (y := .slice (some ⟨gl, 0, none⟩) 1 1) rfl hlit (fun h => h) (by simp only [List.length_cons, List.length_nil]; omega) (by simp only [List.length_cons, List.length_nil]; omega) ?_; intro l1 A1 c1 w6 hl1 hown7 hx7 hc7))
            have hSO : ∀ i, i ∈ (Value.slice A l.length c).ownBlock.toList → w.heap.size ≤ i := fun i hi => (hown5.lt i (by simpa using hi)).1
            have hgS : g ∉ (Value.slice A l.length c).ownBlock.toList := fun hi => by have := hSO g hi; omega
            have k9_ := (k8_.ext hxa).chg hc7 hgS (o4 _ (o2 _ (o1 _ (h.bs.off_new hSO))))
            have hE : Hid (l1 = l ++ [⟨N1, N2, T, decide (D = 1)⟩]) := hide (by rw [hl1.out, HMD.out])
            have hll : l1.length ≤ k + 1 := by rw [hl1.out]; simp; omega
            have x11 : Chg [g] w w6 := ((((x1.trans x9).trans (hxa.chg _)).mono (T := g :: (Value.slice A l.length c).ownBlock.toList) (by simp)).trans (hc7.mono (by intro i hi; exact List.mem_cons_of_mem _ hi))).lessS (fun i hi => by
              rcases List.mem_cons.1 hi with h | h
              · exact .inl (by simp [h])
              · exact .inr (hSO i h))
            go_roundw
            case rel => exact ⟨k + 1, l1, A1, c1, s6, v4, by have := HLT.out; omega, hll, rfl, by go_num, hide (by rw [hE.out]; exact HT2.out), k9_, x11, fun S hS => o4 _ (o2 _ (o1 _ hS)), hown7.base (by omega)⟩
            case measure => have := HLT.out; simp [intOf]; omega
      · have hEX : F = (l, s1) := by rw [← HT.out]; exact titer_stop (by simpa using he)
        have HX : Hid (l = (ptimes plink N s0).1 ∧ s1 = (ptimes plink N s0).2) := hide (by rw [hEX] at HF; exact ⟨(Prod.mk.inj HF.out).1, (Prod.mk.inj HF.out).2⟩)
        clear hEX
        go_wp2_with fail
        go_ret
        first | exact ⟨l, A, c, hide HX.out.1, rfl, hown, by rw [← HX.out.2]; exact ⟨v1, h1, x1, o1⟩⟩ | exact ⟨l, hide HX.out.1, A, c, rfl, hown, by rw [← HX.out.2]; exact ⟨v1, h1, x1, o1⟩⟩
    · have hEX : F = (l, s1) := by
        obtain rfl : k = N := by omega
        have h9 := HT.out
        rw [Nat.sub_self] at h9
        exact h9.symm
      have HX : Hid (l = (ptimes plink N s0).1 ∧ s1 = (ptimes plink N s0).2) := hide (by rw [hEX] at HF; exact ⟨(Prod.mk.inj HF.out).1, (Prod.mk.inj HF.out).2⟩)
      clear hEX
      go_wp2_with fail
      go_ret
      first | exact ⟨l, A, c, hide HX.out.1, rfl, hown, by rw [← HX.out.2]; exact ⟨v1, h1, x1, o1⟩⟩ | exact ⟨l, hide HX.out.1, A, c, rfl, hown, by rw [← HX.out.2]; exact ⟨v1, h1, x1, o1⟩⟩
end Go.Proofs.YtamimdlaclglkaaGreat
