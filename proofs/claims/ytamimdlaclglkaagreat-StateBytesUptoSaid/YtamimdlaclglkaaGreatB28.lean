/- A part of the proof of 'StateBytes'. -/
import Derived.Test.YtamimdlaclglkaaGreatB27
import Derived.Test.YtamimdlaclglkaaGreatB5
import Derived.Test.YtamimdlaclglkaaGreatB12
import Derived.Test.YtamimdlaclglkaaGreatB18
import Derived.RegionTactic
import Derived.Deep.RegionLaw
namespace Go.Proofs.YtamimdlaclglkaaGreat
set_option linter.unusedVariables false
set_option linter.unusedSimpArgs false
set_option linter.unnecessarySimpa false
set_option maxRecDepth 100000
open Go.RowKit
theorem SAt.drewS {w : World} {g : Nat} {v : Value} {s : Rdr} {M : List Value} (h : SAt w g v s M) : SAt w.drew g v s M := ⟨h.blk, h.bs, h.off, h.len⟩
theorem Chg.lessS {S T : List Nat} {a b : World} (h : Chg S a b) (hs : ∀ k, k ∈ S → k ∈ T ∨ a.heap.size ≤ k) : Chg T a b :=
  ⟨h.os, h.tape, h.output, h.size, fun k hk hn => h.block k hk fun hm => (hs k hm).elim hn fun h => by omega⟩
theorem SAt.chgS {S : List Nat} {w w' : World} {g : Nat} {v : Value} {s : Rdr} {M : List Value} (h : SAt w g v s M) (hx : Chg S w w') (hg : g ∉ S) (hv : Off v S) : SAt w' g v s M :=
  ⟨h.blk.chg hx hg, h.bs.chg hx hv, h.off, h.len⟩
/-- new blocks are off what was there -/
theorem Bs.off_new {w : World} {v : Value} {l : Bytes} (h : Bs w v l) {S : List Nat} (hS : ∀ k, k ∈ S → w.heap.size ≤ k) : Off v S := by
  obtain ⟨A, c, rfl, h1, h2, h3⟩ := h
  rintro ad n c' he h0 hm
  simp only [Value.slice.injEq] at he
  obtain ⟨rfl, rfl, rfl⟩ := he
  obtain ⟨ad', he', hb, -⟩ := h3.2 h0
  rw [← Option.some.inj he'] at hb
  have := hS _ hm
  omega
set_option maxHeartbeats 3200000 in
theorem sdone_b (g : Nat) (v : Value) (s : Rdr) (M : List Value) (w : World) (h : SAt w g v s M) :
    Calls Tryz.prog 78 #[.pointer (some ⟨g, 0, none⟩)] w fun e w' => e = .returned (.agg (dcells (pdone s).1).toArray) ∧ STo w w' g v (pdone s).2 M := by
  obtain ⟨⟨a, s1⟩, h1⟩ : ∃ r, pnum 8 s = r := ⟨_, rfl⟩
  obtain ⟨⟨b, s2⟩, h2⟩ : ∃ r, pnum 1 s1 = r := ⟨_, rfl⟩
  obtain ⟨s3, h3⟩ : ∃ r, pform (decide (16 < b)) s2 = r := ⟨_, rfl⟩
  obtain ⟨⟨t, s4⟩, h4⟩ : ∃ r, ptext s3 = r := ⟨_, rfl⟩
  have HP : Hid (pdone s = (⟨a, ⟨b, t⟩⟩, s4)) := hide (by unfold pdone; simp only [h1, h2, h3, h4])
  have hbb := pnum_u8 s1
  rw [h2] at hbb
  simp only at hbb
  have hwe : IntKind.i64.wrap b = b := IntWalk.i64_in _ ⟨by omega, by omega⟩
  have C1 := hide (fun (W : World) v (h : SAt W g v s M) => snumF_b g v s M 8 W h (by decide))
  have C2 := hide (fun (W : World) v (h : SAt W g v s1 M) => snum_b g v s1 M 1 16 W h (by decide))
  have C3 := hide (fun (W : World) v (h : SAt W g v s3 M) => stext_b g v s3 M W h)
  rw [h1] at C1
  rw [h2] at C2
  simp only [h3] at C2
  rw [h4] at C3
  simp only at C1 C2 C3
  rw [HP.out]
  clear h1 h2 h3 h4 HP
  have hz : Ext w (w.alloc (.cells #[.int .u64 0, .int .i64 0, str []] 68)) := (Ext.rfl' _).alloc' _
  have hQ := Blk.new w 68 #[.int .u64 0, .int .i64 0, str []]
  obtain ⟨gz, hgz⟩ : ∃ g_, w.heap.size = g_ := ⟨_, rfl⟩
  have hgl : g < gz := by rw [← hgz]; exact h.blk.lt
  rw [hgz] at hQ
  go_enter Tryz.func78, Tryz.ntmps78
  go_upto_region 1 with fail
  try rw [hgz]
  generalize (w.alloc (.cells #[.int .u64 0, .int .i64 0, str []] 68)) = w1 at *
  go_wp2_with fail
  refine (C1.out w1 v (h.ext hz)).mono ?_
  rintro e w2 ⟨rfl, v2, k1, x1, o1⟩
  go_wp2_with fail
  refine (C2.out w2 v2 k1).mono ?_
  rintro e w3 ⟨rfl, v3, k2, x2, o2⟩
  go_wp2_with fail
  refine (C3.out w3 v3 k2).mono ?_
  rintro e w4 ⟨rfl, v4, k3, x3, o3⟩
  have hx := ((hz.chg [g]).trans x1).trans (x2.trans x3)
  have hQ4 := (((hQ.chg x1 (by simp; omega)).chg x2 (by simp; omega)).chg x3 (by simp; omega))
  have r0 := (hQ4.cell 0).trans rfl
  have r1 := (hQ4.cell 1).trans rfl
  have r2 := (hQ4.cell 2).trans rfl
  have f0 := hQ4.frozen 0
  have f1 := hQ4.frozen 1
  have f2 := hQ4.frozen 2
  go_wp2
  try simp only [Exit.inBlock, Exit.then]
  have hcg : Chg [gz] w4 (((w4.setCell ⟨gz, 0, none⟩ (.int .u64 a)).setCell ⟨gz, 1, none⟩ (.int .i64 b)).setCell ⟨gz, 2, none⟩ (str t)) := (((Chg.refl [gz] _).set (by simp) _).set (by simp) _).set (by simp) _
  have hB : Blk (((w4.setCell ⟨gz, 0, none⟩ (.int .u64 a)).setCell ⟨gz, 1, none⟩ (.int .i64 b)).setCell ⟨gz, 2, none⟩ (str t)) gz 68 #[.int .u64 a, .int .i64 b, str t] := ((hQ4.set_ 0 _).set_ 1 _).set_ 2 _
  have hof : Off v4 [gz] := o3 _ (o2 _ (o1 _ (h.bs.off_new (fun k hk => by rw [List.mem_singleton.1 hk]; omega))))
  refine bodyPost_ret (results_cell_row rfl _ _ gz 68 #[.int .u64 a, .int .i64 b, str t] (0, 0) _ rfl hB Tryz.underlying68 rfl (by kernel_rfl)) rfl ?_
  exact ⟨rfl, v4, k3.chgS hcg (by simp; omega) hof, (((hx.mono (T := [g, gz]) (by simp)).trans (hcg.mono (by simp))).lessS (fun k hk => by simp at hk; rcases hk with h | h; exact .inl (by simp [h]); exact .inr (by omega))), fun S hS => o3 _ (o2 _ (o1 _ hS))⟩
/-- the readers behind the first, the second text -/
def RLs (s : Rdr) : Nat → Rdr
  | 0 => s
  | 1 => (ptext s).2
  | _ => (ptext (ptext s).2).2
def RLx (g : Nat) (v0 : Value) (M : List Value) (W0 : World) (s : Rdr) (i : Nat) (W : World) : Prop := ∃ v', SAt W g v' (RLs s i) M ∧ Chg [g] W0 W ∧ ∀ S, Off v0 S → Off v' S
/-- a reader of links: what it has so far lies in new memory -/
def RdL (w0 W : World) (g : Nat) (s : Rdr) (now count : Int) (l : List Ln) : Prop :=
  ∃ v A c, SAt W g v s [.int .u64 now, .int .u64 count, .slice A l.length c, .slice none 0 0] ∧ OwnO 53 lnE w0 W (fun j => j = g) (.slice A l.length c) l ∧ (∀ S, (∀ k, k ∈ S → w0.heap.size ≤ k) → Off v S) ∧ Ext w0 W
set_option maxHeartbeats 6400000 in
theorem slink_b (w0 : World) (g : Nat) (s : Rdr) (now count : Int) (l : List Ln) (w : World) (hg : w0.heap.size ≤ g) (h : RdL w0 w g s now count l) (hl : l.length ≤ 65535) :
    Calls Tryz.prog 41 #[.pointer (some ⟨g, 0, none⟩)] w fun e w' => e = .returned (.tuple #[]) ∧ RdL w0 w' g (plink s).2 now count (l ++ [(plink s).1]) := by
  obtain ⟨v, A, c, h0, hown, hof, hx0⟩ := h
  obtain ⟨⟨N1, s1⟩, h1⟩ : ∃ r, ptext s = r := ⟨_, rfl⟩
  obtain ⟨⟨N2, s2⟩, h2⟩ : ∃ r, ptext s1 = r := ⟨_, rfl⟩
  obtain ⟨⟨T, s3⟩, h3⟩ : ∃ r, pnum 8 s2 = r := ⟨_, rfl⟩
  obtain ⟨⟨D, s4⟩, h4⟩ : ∃ r, pnum 1 s3 = r := ⟨_, rfl⟩
  obtain ⟨s5, h5⟩ : ∃ r, pform (decide (1 < D)) s4 = r := ⟨_, rfl⟩
  have HP : Hid (plink s = (⟨N1, N2, T, decide (D = 1)⟩, s5)) := hide (by unfold plink; simp only [h1, h2, h3, h4, h5])
  have HT1 := hide h1
  have HT2 : Hid (ptext (ptext s).2 = (N2, s2)) := hide (by rw [h1]; exact h2)
  have hTT := pnum_u64 s2
  rw [h3] at hTT
  have hNN := (ptext_le s).1
  rw [h1] at hNN
  have hN2 := (ptext_le s1).1
  rw [h2] at hN2
  have hs1l := (ptext_le s).2
  rw [h1] at hs1l
  have hsl := h0.len
  have C1 := hide (fun (W : World) v M (h : SAt W g v s2 M) => snumF_b g v s2 M 8 W h (by decide))
  have C2 := hide (fun (W : World) v M (h : SAt W g v s3 M) => snum_b g v s3 M 1 1 W h (by decide))
  rw [h3] at C1
  rw [h4] at C2
  simp only [h5] at C2
  simp only at C1 C2 hTT hNN hN2 hs1l
  rw [HP.out]
  have HS2 : Hid (RLs s 2 = s2) := hide (by show (ptext (ptext s).2).2 = s2; rw [h1]; simp only; rw [h2])
  clear h1 h2 h3 h4 h5 HP
  obtain ⟨M, hM⟩ : ∃ M : List Value, M = [.int .u64 now, .int .u64 count, .slice A l.length c, .slice none 0 0] := ⟨_, rfl⟩
  rw [← hM] at h0
  have HM := hide hM
  clear hM
  obtain ⟨n1, hn1⟩ : ∃ n_, w.heap.size = n_ := ⟨_, rfl⟩
  have hgn : g < n1 := by rw [← hn1]; exact h0.blk.lt
  go_enter Tryz.func41, Tryz.ntmps41
  go_upto_region 0 with fail
  generalize w = W0 at *
  refine Rg.regionW Tryz.checked.mixed 35 10 (by kernel_rfl) [
    (false, (fun x_ _ => x_ = .pointer (some ⟨g, 0, none⟩))),
    (false, (fun x_ _ => x_ = .pointer (some ⟨g, 0, none⟩))),
    (false, (fun x_ _ => x_ = .pointer (some ⟨g, 0, none⟩))),
    (true, (fun x_ _ => x_ = str N1)),
    (false, (fun x_ _ => x_ = .pointer (some ⟨g, 0, none⟩))),
    (false, (fun x_ _ => x_ = .pointer (some ⟨g, 0, none⟩))),
    (false, (fun x_ _ => x_ = .pointer (some ⟨g, 0, none⟩))),
    (true, (fun x_ _ => x_ = str N2)),
    (false, (fun x_ _ => x_ = .agg #[str N1, str N2, .int .u64 0, .bool false])),
    (false, (fun v W => ∃ b, v = .pointer (some ⟨b, 0, none⟩) ∧ n1 ≤ b ∧ Blk W b 53 #[str [], str [], .int .u64 0, .bool false]))] (by kernel_rfl) (RLx g v M W0 s) (Chg [g]) rfl rfl rfl
    ?st ⟨v, h0.drewS, (Chg.refl _ _).drew, fun _ hS => hS⟩ ?ob ?en
  case st => exact ⟨fun _ _ _ h _ => h, fun _ _ _ h _ => h, fun _ _ _ h _ => h, fun _ _ _ h _ => h, fun _ _ _ h _ => h, fun _ _ _ h _ => h, fun _ _ _ h _ => h, fun _ _ _ h _ => h, fun _ _ _ h _ => h, fun _ _ _ ⟨b, h1, h2, h3⟩ hx => ⟨b, h1, h2, h3.chg hx (by simp; omega)⟩, trivial⟩
  case ob =>
    refine ⟨fun i => Rg.at_runW [0] rfl ?_, ?_⟩
    · intro ρ W hR ⟨q0, _⟩
      replace q0 : ρ 0 = .pointer (some ⟨g, 0, none⟩) := q0
      refine ⟨rfl, ?_⟩
      exact Rg.run_ok (v := .pointer (some ⟨g, 0, none⟩)) (by simp [execOp, Rg.ev, go_sem, q0]) ⟨rfl, hR, Chg.refl _ _⟩
    refine ⟨fun i => Rg.at_runW [3] rfl ?_, ?_⟩
    · intro ρ W hR ⟨q3, _⟩
      replace q3 : ρ 3 = .pointer (some ⟨g, 0, none⟩) := q3
      refine ⟨rfl, ?_⟩
      exact Rg.run_ok (v := .pointer (some ⟨g, 0, none⟩)) (by simp [execOp, Rg.ev, go_sem, q3]) ⟨rfl, hR, Chg.refl _ _⟩
    refine ⟨fun i => Rg.at_runW [4] rfl ?_, ?_⟩
    · intro ρ W hR ⟨q4, _⟩
      replace q4 : ρ 4 = .pointer (some ⟨g, 0, none⟩) := q4
      refine ⟨rfl, ?_⟩
      exact Rg.run_ok (v := .pointer (some ⟨g, 0, none⟩)) (by simp [execOp, Rg.ev, go_sem, q4]) ⟨rfl, hR, Chg.refl _ _⟩
    refine ⟨Rg.at_runW [5] rfl ?_, ?_⟩
    · intro ρ W hR ⟨q5, _⟩
      replace q5 : ρ 5 = .pointer (some ⟨g, 0, none⟩) := q5
      refine ⟨rfl, ?_⟩
      obtain ⟨v5, h5, c5, o5⟩ := hR
      refine Rg.enter_fn (args := #[.pointer (some ⟨g, 0, none⟩)]) rfl (by simp only [List.map_toArray, List.map_cons, List.map_nil, Rg.ev, q5]) (by kernel_rfl) ?_
      refine (stext_b g v5 _ M W h5).mono ?_
      rintro e_ w9 ⟨rfl, v6, k1, k2, k3⟩
      exact ⟨_, rfl, by simp only [RLs, HT1.out], ⟨v6, k1, c5.trans k2, fun S hS => k3 S (o5 S hS)⟩, k2⟩
    refine ⟨fun i => Rg.at_runW [0] rfl ?_, ?_⟩
    · intro ρ W hR ⟨q0, _⟩
      replace q0 : ρ 0 = .pointer (some ⟨g, 0, none⟩) := q0
      refine ⟨rfl, ?_⟩
      exact Rg.run_ok (v := .pointer (some ⟨g, 0, none⟩)) (by simp [execOp, Rg.ev, go_sem, q0]) ⟨rfl, hR, Chg.refl _ _⟩
    refine ⟨fun i => Rg.at_runW [7] rfl ?_, ?_⟩
    · intro ρ W hR ⟨q7, _⟩
      replace q7 : ρ 7 = .pointer (some ⟨g, 0, none⟩) := q7
      refine ⟨rfl, ?_⟩
      exact Rg.run_ok (v := .pointer (some ⟨g, 0, none⟩)) (by simp [execOp, Rg.ev, go_sem, q7]) ⟨rfl, hR, Chg.refl _ _⟩
    refine ⟨fun i => Rg.at_runW [8] rfl ?_, ?_⟩
    · intro ρ W hR ⟨q8, _⟩
      replace q8 : ρ 8 = .pointer (some ⟨g, 0, none⟩) := q8
      refine ⟨rfl, ?_⟩
      exact Rg.run_ok (v := .pointer (some ⟨g, 0, none⟩)) (by simp [execOp, Rg.ev, go_sem, q8]) ⟨rfl, hR, Chg.refl _ _⟩
    refine ⟨Rg.at_runW [9] rfl ?_, ?_⟩
    · intro ρ W hR ⟨q9, _⟩
      replace q9 : ρ 9 = .pointer (some ⟨g, 0, none⟩) := q9
      refine ⟨rfl, ?_⟩
      obtain ⟨v5, h5, c5, o5⟩ := hR
      refine Rg.enter_fn (args := #[.pointer (some ⟨g, 0, none⟩)]) rfl (by simp only [List.map_toArray, List.map_cons, List.map_nil, Rg.ev, q9]) (by kernel_rfl) ?_
      refine (stext_b g v5 _ M W h5).mono ?_
      rintro e_ w9 ⟨rfl, v6, k1, k2, k3⟩
      exact ⟨_, rfl, by simp only [RLs, HT2.out], ⟨v6, k1, c5.trans k2, fun S hS => k3 S (o5 S hS)⟩, k2⟩
    refine ⟨fun i => Rg.at_runW [6, 10] rfl ?_, ?_⟩
    · intro ρ W hR ⟨q6, q10, _⟩
      replace q6 : ρ 6 = str N1 := q6
      replace q10 : ρ 10 = str N2 := q10
      refine ⟨rfl, ?_⟩
      exact Rg.run_ok (v := .agg #[str N1, str N2, .int .u64 0, .bool false]) (by simp [execOp, Rg.ev, go_sem, q6, q10] <;> rfl) ⟨rfl, hR, Chg.refl _ _⟩
    refine ⟨fun i => Rg.at_runW [] rfl ?_, ?_⟩
    · intro ρ W hR _
      refine ⟨rfl, ?_⟩
      obtain ⟨v5, h5, c5, o5⟩ := hR
      exact Rg.run_ok (v := .pointer (some ⟨W.heap.size, 0, none⟩)) (W' := W.alloc (.cells #[str [], str [], .int .u64 0, .bool false] 53)) (by simp [execOp, Rg.ev, go_sem] <;> rfl) ⟨⟨_, rfl, by have := c5.size; omega, Blk.new W _ _⟩, ⟨v5, h5.ext ((Ext.rfl' W).alloc' _), c5.alloc _, o5⟩, ((Ext.rfl' W).alloc' _).chg _⟩
    trivial
  case en =>
    intro tm W hR hsz hk
    rw [Rg.fin_eq (ds := [3, 4, 5, 6, 7, 8, 9, 10, 11, 2]) rfl rfl rfl hsz hk]
    have k2 : (fun v W => ∃ b, v = .pointer (some ⟨b, 0, none⟩) ∧ n1 ≤ b ∧ Blk W b 53 #[str [], str [], .int .u64 0, .bool false]) (tm.getD 2 undef) W := hk 2
    have k3 : tm.getD 3 undef = .pointer (some ⟨g, 0, none⟩) := hk 3
    have k4 : tm.getD 4 undef = .pointer (some ⟨g, 0, none⟩) := hk 4
    have k5 : tm.getD 5 undef = .pointer (some ⟨g, 0, none⟩) := hk 5
    have k6 : tm.getD 6 undef = str N1 := hk 6
    have k7 : tm.getD 7 undef = .pointer (some ⟨g, 0, none⟩) := hk 7
    have k8 : tm.getD 8 undef = .pointer (some ⟨g, 0, none⟩) := hk 8
    have k9 : tm.getD 9 undef = .pointer (some ⟨g, 0, none⟩) := hk 9
    have k10 : tm.getD 10 undef = str N2 := hk 10
    have k11 : tm.getD 11 undef = .agg #[str N1, str N2, .int .u64 0, .bool false] := hk 11
    clear hk hsz
    simp only [Rg.putAll, List.setIfInBounds_toArray, List.set_cons_zero, List.set_cons_succ, k3, k4, k5, k6, k7, k8, k9, k10, k11]
    generalize tm.getD 2 undef = u2 at *
    clear k3
    clear k4
    clear k5
    clear k6
    clear k7
    clear k8
    clear k9
    clear k10
    clear k11
    obtain ⟨b, rfl, hb1, hB⟩ := k2
    obtain ⟨v2, q2_, x2, o2⟩ := hR
    have k3_ : SAt W g v2 s2 M := by rw [← HS2.out]; exact q2_
    clear q2_
    have hbg : b ≠ g := by omega
    have e0 := (hB.cell 0).trans rfl
    have e1 := (hB.cell 1).trans rfl
    have e2 := (hB.cell 2).trans rfl
    have e3 := (hB.cell 3).trans rfl
    have fe0 := hB.frozen 0
    have fe1 := hB.frozen 1
    have fe2 := hB.frozen 2
    have fe3 := hB.frozen 3
    go_upto_region 1 with fail
    have hcb : Chg [b] W _ := (Chg.refl [b] W).four (g := b) (by simp) (str N1) (str N2) (.int .u64 0) (.bool false)
    have hB1 := Blk.four hB (str N1) (str N2) (.int .u64 0) (.bool false)
    have hbn : ∀ k, k ∈ [b] → w0.heap.size ≤ k := fun k hk => by rw [List.mem_singleton.1 hk]; have := hx0.size; omega
    have hofb : Off v2 [b] := o2 _ (hof _ hbn)
    have k4_ := k3_.chgS hcb (by simpa using fun h : g = b => hbg h.symm) hofb
    have x3 := (x2.mono (T := [g, b]) (by simp)).trans (hcb.mono (by simp))
    generalize ((((W.setCell ⟨b, 0, none⟩ (str N1)).setCell ⟨b, 1, none⟩ (str N2)).setCell ⟨b, 2, none⟩ (.int .u64 0)).setCell ⟨b, 3, none⟩ (.bool false)) = W1 at *
    clear e0 e1 e2 e3 fe0 fe1 fe2 fe3 hB hcb k3_ x2
    go_wp2_with fail
    refine (C1.out W1 v2 M k4_).mono ?_
    rintro e W2 ⟨rfl, v3, k5_, x4, o3⟩
    have hB2 := hB1.chg x4 (by simpa using hbg)
    have e2 := (hB2.cell 2).trans rfl
    have fe2 := hB2.frozen 2
    have hc5 : Chg [b] W2 (W2.setCell ⟨b, 2, none⟩ (.int .u64 T)) := (Chg.refl _ _).set (by simp) _
    have k6_ := k5_.chgS hc5 (by simpa using fun h : g = b => hbg h.symm) (o3 _ hofb)
    go_wp2_with fail
    refine (C2.out _ v3 M k6_).mono ?_
    rintro e W3 ⟨rfl, v4, k7_, x6, o4⟩
    have hB3 := (hB2.set_ 2 (.int .u64 T)).chg x6 (by simpa using hbg)
    have e3 := (hB3.cell 3).trans rfl
    have fe3 := hB3.frozen 3
    clear e2 fe2
    obtain ⟨md, hmd⟩ : ∃ md, (D == 1) = md := ⟨_, rfl⟩
    have HMD : Hid (decide (D = 1) = md) := hide (by rw [← hmd]; cases h : (D == 1) <;> simpa using h)
    have hc7 : Chg [b] W3 (W3.setCell ⟨b, 3, none⟩ (.bool md)) := (Chg.refl _ _).set (by simp) _
    have k8_ := k7_.chgS hc7 (by simpa using fun h : g = b => hbg h.symm) (o4 _ (o3 _ hofb))
    have hB4 : Blk (W3.setCell ⟨b, 3, none⟩ (.bool md)) b 53 #[str N1, str N2, .int .u64 T, .bool md] := hB3.set_ 3 _
    have x8 : Chg [g, b] W0 (W3.setCell ⟨b, 3, none⟩ (.bool md)) := (((x3.trans (x4.mono (by simp))).trans (hc5.mono (by simp))).trans (x6.mono (by simp))).trans (hc7.mono (by simp))
    have o8 : ∀ S, (∀ k, k ∈ S → w0.heap.size ≤ k) → Off v4 S := fun S hS => o4 _ (o3 _ (o2 _ (hof S hS)))
    go_upto_region 3 with fail
    generalize (W3.setCell ⟨b, 3, none⟩ (.bool md)) = W5 at *
    clear hmd e3 fe3 hc7 hc5 hB3 hB2 hB1 k4_ k5_ k6_ k7_ x3 x4 x6
    have hF : Blk W5 g 77 #[v4, .int .i64 s5.2, .int .u64 now, .int .u64 count, .slice A l.length c, .slice none 0 0] := by
      have := k8_.blk
      rw [HM.out] at this
      exact this
    have hS8 : ∀ k, k ∈ [g, b] → w0.heap.size ≤ k := fun k hk => by
      simp at hk
      rcases hk with h | h
      · omega
      · exact hbn k (by simp [h])
    have hx5 := hx0.then_ x8 hS8
    have hown5 := hown.chg x8 (fun k hk hlt => by
      simp at hk
      rcases hk with h | h
      · exact h
      · omega)
    obtain ⟨gl, hgl_⟩ : ∃ g_, W5.heap.size = g_ := ⟨_, rfl⟩
    have hgg : g < gl := by rw [← hgl_]; exact hF.lt
    have hd1 : Ext W5 W5.drew := (Ext.rfl' W5).drew'
    have hgd : W5.drew.heap.size = gl := hgl_
    have hlrep : ∀ (W : World) (X : Avoid), lnE.rep W X [str N1, str N2, .int .u64 T, .bool md] ⟨N1, N2, T, md⟩ := fun W X => ln_rep.2 ⟨rfl, by simp only [maxLen]; omega, by simp only [maxLen]; omega, hTT⟩
    have hlit : Enc.Sl lnE (W5.drew.alloc (.cells #[str N1, str N2, .int .u64 T, .bool md] 53)) (fun j => j = g ∨ (Value.slice A l.length c).ownBlock = some j) (.slice (some ⟨gl, 0, none⟩) 1 1) [⟨N1, N2, T, md⟩] :=
      Sl.one (E := lnE) 53 (cs := [str N1, str N2, .int .u64 T, .bool md]) (w := W5.drew) (hlrep _ _) gl hgd (fun h => by
        rcases h with h | h
        · omega
        · have := (hown5.own _ h).2.1; omega)
    have hge : ∀ j, (Value.slice A l.length c).ownBlock = some j → j ≠ g := fun j h e => (hown5.own j h).2.2 e
    have hxa : Ext W5 (W5.drew.alloc (.cells #[str N1, str N2, .int .u64 T, .bool md] 53)) := hd1.alloc' _
    have d4 := (hF.cell 4).trans rfl
    have f4 := hF.frozen 4
    have b0 := (hB4.cell 0).trans rfl
    have b1 := (hB4.cell 1).trans rfl
    have b2 := (hB4.cell 2).trans rfl
    have b3 := (hB4.cell 3).trans rfl
    have q4 := fun o1 => ((hF.drew.alloc o1).cell 4).trans rfl
    go_region_law (refine step_ownO elt_ln 25 Tryz.underlying25 rfl (.tmp 28) (.tmp 30) rfl (hown5.ext hxa) (by simp [Act.eval, Act.put]) (hx5.trans' hxa) (a := ⟨N1, N2, T, md⟩) (y := .slice (some ⟨gl, 0, none⟩) 1 1) (by simp [Act.eval, Act.put]) hlit (fun j hj => by rw [hj]; exact (hF.ext hxa).lt) (by omega) (by omega) ?_; intro l1 A3 c3 w2 hl1 hown1 hx2 hc2 hob2; have hB2 := Blk.chg (hF.ext hxa) hc2 (fun hm => by simp at hm; exact hge g hm rfl); have e4 : w2.cell? ⟨g, 4, none⟩ = some (.slice A l.length c) := (hB2.cell 4).trans rfl; have ef4 : w2.frozen? ⟨g, 4, none⟩ = false := hB2.frozen 4)
    all_goals
      go_end0
      have hcg : Chg [g] w2 (w2.setCell ⟨g, 4, none⟩ (.slice A3 l1.length c3)) := (Chg.refl _ _).set (by simp) _
      have hE : l1 = l ++ [⟨N1, N2, T, decide (D = 1)⟩] := by rw [hl1.out, HMD.out]
      have hbs : Bs w2 v4 s5.1 := (k8_.bs.ext hxa).chg hc2 (o8 _ (fun k hk => (hown5.own k (by simpa using hk)).1))
      simp only
      rw [← hE]
      exact ⟨trivial, v4, A3, c3, ⟨hB2.set_ 4 _, hbs.chg hcg k8_.off, k8_.off, k8_.len⟩, hown1.chg hcg (fun k hk _ => List.mem_singleton.1 hk), o8, hx2.then_ hcg (by simpa using hg)⟩
end Go.Proofs.YtamimdlaclglkaaGreat
namespace Go.Proofs.YtamimdlaclglkaaGreat
set_option linter.unusedVariables false
set_option linter.unusedSimpArgs false
set_option linter.unnecessarySimpa false
set_option maxRecDepth 100000
open Go.RowKit
/-- the reader along two calls -/
def RNx (g : Nat) (v0 : Value) (M : List Value) (W0 : World) (s s1 s2 : Rdr) : Nat → World → Prop
  | 0, W => ∃ v', SAt W g v' s M ∧ Chg [g] W0 W ∧ ∀ S, Off v0 S → Off v' S
  | 1, W => ∃ v', SAt W g v' s1 M ∧ Chg [g] W0 W ∧ ∀ S, Off v0 S → Off v' S
  | _, W => ∃ v', SAt W g v' s2 M ∧ Chg [g] W0 W ∧ ∀ S, Off v0 S → Off v' S
theorem RNx.at_ {g : Nat} {v0 : Value} {M : List Value} {W0 W : World} {s s1 s2 : Rdr} {i : Nat} (h : RNx g v0 M W0 s s1 s2 i W) : ∃ q v', SAt W g v' q M ∧ Chg [g] W0 W ∧ (∀ S, Off v0 S → Off v' S) ∧ (∀ W' v'', SAt W' g v'' q M → Chg [g] W0 W' → (∀ S, Off v0 S → Off v'' S) → RNx g v0 M W0 s s1 s2 i W') := by
  rcases i with _ | _ | i
  all_goals
    obtain ⟨v', h1, h2, h3⟩ := h
    exact ⟨_, v', h1, h2, h3, fun W' v'' k1 k2 k3 => ⟨v'', k1, k2, k3⟩⟩
def RDx (g : Nat) (v0 : Value) (M : List Value) (W0 : World) (s s1 : Rdr) (i : Nat) (W : World) : Prop := ∃ v', SAt W g v' (match i with | 0 => s | _ => s1) M ∧ Chg [g] W0 W ∧ ∀ S, Off v0 S → Off v' S
theorem Sl.oneB {α : Type} {E : Enc α} {w : World} {X : Avoid} {T : TypeId} {cs : List Value} {a : α} {g : Nat} (hB : Blk w g T cs.toArray) (h : E.rep w X cs a) (hX : ¬ X g) : Enc.Sl E w X (.slice (some ⟨g, 0, none⟩) 1 1) [a] := by
  refine ⟨_, 1, [cs], rfl, Nat.le_refl _, by simp [maxLen], ?_, fun ad he _ => ?_, Enc.Each.single h⟩
  · refine ⟨by simp [E.len h], fun _ => ⟨_, rfl, hB.lt, fun j u hu => ?_⟩⟩
    have hadd : (⟨g, 0, none⟩ : Addr).add j = ⟨g, j, none⟩ := by unfold Addr.add; split <;> simp_all
    rw [hadd, hB.cell]
    simpa using hu
  · rw [← Option.some.inj he]
    exact hX
theorem pdone_rng (s : Rdr) : U64 (pdone s).1.seq ∧ (0 ≤ (pdone s).1.an.err ∧ (pdone s).1.an.err ≤ 255) ∧ (pdone s).1.an.text.length ≤ s.1.length ∧ (pdone s).2.1.length ≤ s.1.length := by
  unfold pdone
  simp only
  have a1 := pnum_u64 s
  have a2 := plen_num 8 s
  have b1 := pnum_u8 (pnum 8 s).2
  have b2 := plen_num 1 (pnum 8 s).2
  have c1 := plen_form (decide (16 < (pnum 1 (pnum 8 s).2).1)) (pnum 1 (pnum 8 s).2).2
  have d := ptext_le (pform (decide (16 < (pnum 1 (pnum 8 s).2).1)) (pnum 1 (pnum 8 s).2).2)
  rw [c1] at d
  exact ⟨a1, b1, by omega, by omega⟩
/-- while the answers of a session are read -/
def RdD (w0 ws : World) (g gx gb : Nat) (M : List Value) (a b : Int) (n : Nat) (y : List Dn × Rdr) (W : World) : Prop :=
  ∃ v A cp, SAt W g v y.2 M ∧ Blk W gx 56 #[.int .i64 a, .int .u64 b, .slice A y.1.length cp] ∧ Blk W gb 73 #[.pointer (some ⟨g, 0, none⟩)] ∧ Own 68 dnE w0 W (fun j => j < ws.heap.size ∨ j = gx ∨ j = gb) (.slice A y.1.length cp) y.1 ∧
    (∀ S, (∀ k, k ∈ S → w0.heap.size ≤ k) → Off v S) ∧ Ext w0 W ∧ Chg [g] ws W ∧ y.1.length + n ≤ 65535
set_option maxHeartbeats 6400000 in
theorem ssess1_b (w0 ws : World) (g gx gb : Nat) (M : List Value) (ca hi : Int) (n : Nat) (dl : List Dn) (s : Rdr) (w : World) (hg : w0.heap.size ≤ g) (hgs : g < ws.heap.size) (hgx : ws.heap.size ≤ gx) (hgb : ws.heap.size ≤ gb) (hxb : gx ≠ gb) (h : RdD w0 ws g gx gb M ca hi (n + 1) (dl, s) w) :
    Calls Tryz.prog 77 #[.pointer (some ⟨gx, 0, none⟩), .pointer (some ⟨gb, 0, none⟩)] w fun e w' => e = .returned (.tuple #[]) ∧ RdD w0 ws g gx gb M ca hi n (dl ++ [(pdone s).1], (pdone s).2) w' := by
  obtain ⟨v, A, cp, h0, hX0, hB0, hown, hof, hx0, hcg0, hl⟩ := h
  have hgx' : gx ≠ g := by omega
  have hgb' : gb ≠ g := by omega
  obtain ⟨hd1, hd2, hd3, -⟩ := pdone_rng s
  have hd4 := h0.len
  simp only at hd4
  simp only at h0 hX0 hown
  obtain ⟨⟨d, s1⟩, hd⟩ : ∃ r, pdone s = r := ⟨_, rfl⟩
  rw [hd] at hd1 hd2 hd3
  have HD := hide hd
  rw [hd]
  clear hd
  simp only at hd1 hd2 hd3 hl
  obtain ⟨n1, hn1⟩ : ∃ n_, w.heap.size = n_ := ⟨_, rfl⟩
  have hgn : g < n1 := by rw [← hn1]; exact h0.blk.lt
  have hgxn : gx < n1 := by rw [← hn1]; exact hX0.lt
  have hgbn : gb < n1 := by rw [← hn1]; exact hB0.lt
  go_enter Tryz.func77, Tryz.ntmps77
  go_upto_region 0 with fail
  generalize w = W0 at *
  refine Rg.regionW Tryz.checked.mixed 9 5 (by kernel_rfl) [
    (false, (fun x_ _ => x_ = .pointer (some ⟨gx, 2, none⟩))),
    (false, (fun x_ _ => x_ = .slice A dl.length cp)),
    (false, (fun x_ _ => x_ = .pointer (some ⟨g, 0, none⟩))),
    (true, (fun x_ _ => x_ = .agg #[.int .u64 d.seq, .int .i64 d.an.err, str d.an.text])),
    (false, (fun v W => ∃ b, v = .slice (some ⟨b, 0, none⟩) 1 1 ∧ n1 ≤ b ∧ Blk W b 68 #[.int .u64 d.seq, .int .i64 d.an.err, str d.an.text]))] (by kernel_rfl) (RDx g v M W0 s s1) (Chg [g]) rfl rfl rfl
    ?st ⟨v, h0.drewS, (Chg.refl _ _).drew, fun _ hS => hS⟩ ?ob ?en
  case st => exact ⟨fun _ _ _ h _ => h, fun _ _ _ h _ => h, fun _ _ _ h _ => h, fun _ _ _ h _ => h, fun _ _ _ ⟨b, h1, h2, h3⟩ hx => ⟨b, h1, h2, h3.chg hx (by simp; omega)⟩, trivial⟩
  case ob =>
    refine ⟨fun i => Rg.at_runW [0] rfl ?_, ?_⟩
    · intro ρ W hR ⟨q0, _⟩
      replace q0 : ρ 0 = .pointer (some ⟨gx, 0, none⟩) := q0
      refine ⟨rfl, ?_⟩
      exact Rg.run_ok (v := .pointer (some ⟨gx, 2, none⟩)) (by simp [execOp, Rg.ev, go_sem, q0]) ⟨rfl, hR, Chg.refl _ _⟩
    refine ⟨fun i => Rg.at_runW [2] rfl ?_, ?_⟩
    · intro ρ W hR ⟨q2, _⟩
      replace q2 : ρ 2 = .pointer (some ⟨gx, 2, none⟩) := q2
      refine ⟨rfl, ?_⟩
      obtain ⟨v5, h5, c5, o5⟩ := hR
      have c_ : W.cell? ⟨gx, 2, none⟩ = some (.slice A dl.length cp) := ((hX0.chg c5 (by simpa using hgx')).cell 2).trans rfl
      exact Rg.run_ok (v := .slice A dl.length cp) (by simp [execOp, Rg.ev, go_sem, q2, c_]) ⟨rfl, ⟨v5, h5, c5, o5⟩, Chg.refl _ _⟩
    refine ⟨fun i => Rg.at_runW [1] rfl ?_, ?_⟩
    · intro ρ W hR ⟨q1, _⟩
      replace q1 : ρ 1 = .pointer (some ⟨gb, 0, none⟩) := q1
      refine ⟨rfl, ?_⟩
      obtain ⟨v5, h5, c5, o5⟩ := hR
      have c_ : W.cell? ⟨gb, 0, none⟩ = some (.pointer (some ⟨g, 0, none⟩)) := ((hB0.chg c5 (by simpa using hgb')).cell 0).trans rfl
      exact Rg.run_ok (v := .pointer (some ⟨g, 0, none⟩)) (by simp [execOp, Rg.ev, go_sem, q1, c_]) ⟨rfl, ⟨v5, h5, c5, o5⟩, Chg.refl _ _⟩
    refine ⟨Rg.at_runW [4] rfl ?_, ?_⟩
    · intro ρ W hR ⟨q4, _⟩
      replace q4 : ρ 4 = .pointer (some ⟨g, 0, none⟩) := q4
      refine ⟨rfl, ?_⟩
      obtain ⟨v5, h5, c5, o5⟩ := hR
      refine Rg.enter_fn (args := #[.pointer (some ⟨g, 0, none⟩)]) rfl (by simp only [List.map_toArray, List.map_cons, List.map_nil, Rg.ev, q4]) (by kernel_rfl) ?_
      refine (sdone_b g v5 s M W h5).mono ?_
      rw [HD.out]
      rintro e_ w9 ⟨rfl, v6, k1, k2, k3⟩
      exact ⟨_, rfl, rfl, ⟨v6, k1, c5.trans k2, fun S hS => k3 S (o5 S hS)⟩, k2⟩
    refine ⟨fun i => Rg.at_runW [5] rfl ?_, ?_⟩
    · intro ρ W hR ⟨q5, _⟩
      replace q5 : ρ 5 = .agg #[.int .u64 d.seq, .int .i64 d.an.err, str d.an.text] := q5
      refine ⟨rfl, ?_⟩
      obtain ⟨v5, h5, c5, o5⟩ := hR
      exact Rg.run_ok (v := .slice (some ⟨W.heap.size, 0, none⟩) 1 1) (W' := W.alloc (.cells #[.int .u64 d.seq, .int .i64 d.an.err, str d.an.text] 68)) (by simp [execOp, Rg.ev, go_sem, q5] <;> rfl) ⟨⟨_, rfl, by have := c5.size; omega, Blk.new W _ _⟩, ⟨v5, h5.ext ((Ext.rfl' W).alloc' _), c5.alloc _, o5⟩, ((Ext.rfl' W).alloc' _).chg _⟩
    trivial
  case en =>
    intro tm W hR hsz hk
    rw [Rg.fin_eq (ds := [2, 3, 4, 5, 6]) rfl rfl rfl hsz hk]
    have k2 : tm.getD 2 undef = .pointer (some ⟨gx, 2, none⟩) := hk 2
    have k3 : tm.getD 3 undef = .slice A dl.length cp := hk 3
    have k4 : tm.getD 4 undef = .pointer (some ⟨g, 0, none⟩) := hk 4
    have k5 : tm.getD 5 undef = .agg #[.int .u64 d.seq, .int .i64 d.an.err, str d.an.text] := hk 5
    have k6 : (fun v W => ∃ b, v = .slice (some ⟨b, 0, none⟩) 1 1 ∧ n1 ≤ b ∧ Blk W b 68 #[.int .u64 d.seq, .int .i64 d.an.err, str d.an.text]) (tm.getD 6 undef) W := hk 6
    clear hk hsz
    simp only [Rg.putAll, List.setIfInBounds_toArray, List.set_cons_zero, List.set_cons_succ, k2, k3, k4, k5]
    clear k2
    clear k3
    clear k4
    clear k5
    generalize tm.getD 6 undef = u6 at *
    obtain ⟨b, rfl, hb1, hB⟩ := k6
    obtain ⟨v2, k2_, x2, o2⟩ := hR
    have k3_ : SAt W g v2 s1 M := k2_
    clear k2_
    have hX2 := hX0.chg x2 (by simpa using hgx')
    have hB2 := hB0.chg x2 (by simpa using hgb')
    have hxW : Ext w0 W := hx0.then_ x2 (fun k hk => by rw [List.mem_singleton.1 hk]; exact hg)
    have hown2 := hown.chg x2 (fun k hk _ => .inl (by rw [List.mem_singleton.1 hk]; exact hgs))
    have hlit : Enc.Sl dnE W (fun k => (k < ws.heap.size ∨ k = gx ∨ k = gb) ∨ (Value.slice A dl.length cp).ownBlock = some k) (.slice (some ⟨b, 0, none⟩) 1 1) [d] := Sl.oneB (cs := dcells d) hB (dn_rep.2 ⟨rfl, hd1, ⟨by omega, by omega⟩, by simp only [maxLen]; omega⟩) (fun h => by
      have := hcg0.size
      rcases h with (h | h | h) | h
      · omega
      · omega
      · omega
      · have := (hown.lt _ h).2; omega)
    simp only [List.drop_succ_cons, List.drop_zero]
    go_wp2_with (at_builtin; go_loud (refine wpList_own elt_dn 54 Tryz.underlying54 rfl _ _ rfl hown2 rfl hxW (m := [d]) (y := .slice (some ⟨b, 0, none⟩) 1 1) rfl hlit (fun h => by have := x2.size; have := hcg0.size; rcases h with h | h | h <;> omega) (by simp only [List.length_singleton]; omega) (by simp only [List.length_singleton]; omega) ?_); intro l2 A2 c2 w5 hl2 hown3 hx5 hc5; have hX5 := hX2.chg hc5 (fun hm => (OwnO.own (.of_own hown2) _ (by simpa using hm)).2.2 (.inr (.inl rfl))); have z2 := (hX5.cell 2).trans rfl; have zf2 := hX5.frozen 2)
    go_end0
    have hc6 : Chg [gx] w5 (w5.setCell ⟨gx, 2, none⟩ (.slice A2 l2.length c2)) := (Chg.refl _ _).set (by simp) _
    have hof2 : ∀ S, (∀ k, k ∈ S → w0.heap.size ≤ k) → Off v2 S := fun S hS => o2 _ (hof S hS)
    have hn5 : ∀ k, k ∈ (Value.slice A dl.length cp).ownBlock.toList → ws.heap.size ≤ k ∧ k ≠ gx ∧ k ≠ gb := fun k hk => by
      have := (OwnO.own (.of_own hown2) k (by simpa using hk)).2.2
      refine ⟨by omega, fun e => this (.inr (.inl e)), fun e => this (.inr (.inr e))⟩
    have hxs : w0.heap.size ≤ ws.heap.size := by omega
    have k4_ := (k3_.chgS hc5 (fun hm => by have := (hn5 _ hm).1; omega) (hof2 _ (fun k hk => by have := (hn5 _ hk).1; omega))).chgS hc6 (by simp; omega) (hof2 _ (fun k hk => by rw [List.mem_singleton.1 hk]; omega))
    refine ⟨rfl, v2, A2, c2, k4_, ?_, (hB2.chg hc5 (fun hm => (hn5 _ hm).2.2 rfl)).chg hc6 (by simp; omega), ?_, hof2, hx5.then_ hc6 (fun k hk => by rw [List.mem_singleton.1 hk]; omega), ?_, ?_⟩
    · have := hX5.set_ 2 (.slice A2 l2.length c2)
      rw [hl2.out] at this ⊢
      exact this
    · have := hown3.chg hc6 (fun k hk _ => by rw [List.mem_singleton.1 hk]; exact .inr (.inl rfl))
      rw [hl2.out] at this ⊢
      exact this
    · refine (((hcg0.trans x2).mono (T := g :: gx :: (Value.slice A dl.length cp).ownBlock.toList) (by simp)).trans ((hc5.mono (fun k hk => by simp [hk])).trans (hc6.mono (by simp)))).lessS (fun k hk => ?_)
      rcases List.mem_cons.1 hk with h | h
      · exact .inl (by simp [h])
      · rcases List.mem_cons.1 h with h | h
        · exact .inr (by omega)
        · exact .inr (hn5 _ h).1
    · simp only [List.length_append, List.length_singleton]; omega
end Go.Proofs.YtamimdlaclglkaaGreat
