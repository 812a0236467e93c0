/- shortcutlaw21: do, what it comes to. -/
import Derived.Test.YtlhokicnedkieaaDiskDo
import Derived.Test.YtlhokicnedkieaaRgW
namespace Go.Proofs.Ytlhokicnedkieaa
set_option linter.unusedVariables false
set_option linter.unusedSimpArgs false
set_option linter.unnecessarySimpa false
set_option maxRecDepth 100000
open Go.RowKit
/-- what is known of the two while both are turned, one behind the other -/
def RW (g g2 gt : Nat) (v2 : Value) (D' r R' : Dk) (W1 : World) (i : Nat) (W : World) : Prop :=
  match i with
  | 0 => Ext W1 W
  | 1 => ∃ v', DiskAt W g v' D' ∧ RefAt W g2 v2 r ∧ (∀ k, v'.ownBlock = some k → k < W.heap.size ∧ k ≠ g2) ∧ (∀ k, v2.ownBlock = some k → k < W.heap.size ∧ k ≠ g) ∧ Chg [g] W1 W ∧ v'.ownBlock ≠ some gt
  | _ + 2 => ∃ v' v2', Two W g g2 v' v2' D' R' ∧ Chg [g, g2] W1 W ∧ v'.ownBlock ≠ some gt ∧ v2'.ownBlock ≠ some gt
theorem RW.chg {g g2 gt : Nat} {v2 : Value} {D' r R' : Dk} {W1 : World} : ∀ {i : Nat} {W : World}, RW g g2 gt v2 D' r R' W1 i W → Chg [g, g2] W1 W
  | 0, W, h => Ext.chg h _
  | 1, W, h => by obtain ⟨_, _, _, _, _, h, _⟩ := h; exact h.mono (by simp)
  | _ + 2, W, h => by obtain ⟨_, _, _, h, _⟩ := h; exact h
theorem RW.step1 {g g2 gt : Nat} {v v2 : Value} {d D' r R' : Dk} {W1 W W2 : World} (h : Two W1 g g2 v v2 d r) (hgt : gt < W1.heap.size) (hv : v.ownBlock ≠ some gt) (hR : RW g g2 gt v2 D' r R' W1 0 W) (hd : DiskTo W W2 g v D') : RW g g2 gt v2 D' r R' W1 1 W2 := by
  obtain ⟨v', h1, hc, hn⟩ := hd
  obtain ⟨a1, a2, a3, a4⟩ := (h.ext hR).one h1 hc hn
  have hs : W1.heap.size ≤ W.heap.size := Ext.size' hR
  refine ⟨v', a1, a2, a3, a4, (Ext.chg hR [g]).trans hc, fun e => ?_⟩
  rcases hn gt e with h3 | h3
  · exact hv h3
  · omega
theorem RW.step2 {g g2 gt : Nat} {v2 : Value} {D' r R' : Dk} {W1 W W2 : World} (hne : g ≠ g2) (hgt : gt < W1.heap.size) (hv2 : v2.ownBlock ≠ some gt) (he : Eqv D' R') (hR : RW g g2 gt v2 D' r R' W1 1 W) (hd : RefTo W W2 g2 v2 R') : RW g g2 gt v2 D' r R' W1 2 W2 := by
  obtain ⟨v', a1, a2, a3, a4, a5, a6⟩ := hR
  obtain ⟨v2', h1, hc, hn⟩ := hd
  have hs := a5.size
  refine ⟨v', v2', Two.two a1 a2 a3 a4 hne h1 hc hn he, (a5.mono (by simp)).trans (hc.mono (by simp)), a6, fun e => ?_⟩
  rcases hn gt e with h3 | h3
  · exact hv2 h3
  · omega
set_option maxHeartbeats 6400000 in
theorem do_b (g g2 : Nat) (v v2 z : Value) (d r : Dk) (o : Opr) (w : World) (h : Two w g g2 v v2 d r) (hz : Bs w z o.b) (hzo : ∀ S, (∀ k, k ∈ S → k = g ∨ k = g2 ∨ w.heap.size ≤ k) → Off z S) (h100 : (o.b.length : Int) ≤ 100)
    (hk1 : -9223372036854775808 ≤ o.kind ∧ o.kind ≤ 9223372036854775807) (hk2 : -9223372036854775808 ≤ o.n ∧ o.n ≤ 9223372036854775807) (hk3 : -9223372036854775808 ≤ o.part ∧ o.part ≤ 9223372036854775807) :
    Calls Try.prog 25 #[.pointer (some ⟨g, 0, none⟩), .pointer (some ⟨g2, 0, none⟩), .agg #[.int .i64 o.kind, .int .i64 o.n, .int .i64 o.part, z]] w fun e w' => e = .returned (.bool true) ∧ TwoTo w w' g g2 := by
  obtain ⟨A2, c2, rfl, -, m2, -⟩ := id hz
  unfold maxLen at m2
  obtain ⟨R, hR0, hR1, hR2⟩ : ∃ R : Int, o.kind.tmod 11 = R ∧ -10 ≤ R ∧ R ≤ 10 := ⟨_, rfl, by have := Int.lt_tmod_of_pos o.kind (show (0 : Int) < 11 by decide); omega, by have := Int.tmod_lt_of_pos o.kind (show (0 : Int) < 11 by decide); omega⟩
  obtain ⟨K, hK0, hK1, hK2⟩ : ∃ K : Int, (R + 11) % 11 = K ∧ 0 ≤ K ∧ K ≤ 10 := ⟨_, rfl, by omega, by omega⟩
  have hL0 := Blk.new w 37 #[.int .i64 o.kind, .int .i64 o.n, .int .i64 o.part, .slice A2 o.b.length c2]
  have hxl : Ext w (w.alloc (.cells #[.int .i64 o.kind, .int .i64 o.n, .int .i64 o.part, .slice A2 o.b.length c2] 37)) := (Ext.rfl' _).alloc' _
  have hzl := hz.ext hxl
  have h0 := h.ext hxl
  have hgl := h.at_.blk.lt
  have hgl2 := h.ref.blk.lt
  have hne := h.ne
  go_enter Try.func25, Try.ntmps25
  go_wp2_with fail
  refine (twin_b _ o.b _ (by omega) hzl).mono ?_
  rintro e W1 ⟨gt, rfl, hgt, htw, hx1⟩
  have hgt' : w.heap.size < gt := by simp at hgt; omega
  have hL := hL0.ext hx1
  have hzw := hzl.ext hx1
  have hw1 := h0.ext hx1
  have hxw1 := hxl.trans' hx1
  have hzo1 : Off (.slice A2 o.b.length c2) [g] := hzo _ (by simp)
  have hzo2 : Off (.slice A2 o.b.length c2) [g2] := hzo _ (by simp)
  have hto : Off (.slice (some ⟨gt, 0, none⟩) o.b.length (o.b.length + 3)) [g] := .of_own fun k hk => by simp [Value.ownBlock] at hk; subst hk; simp; omega
  have hgtl := Blk.lt htw
  have hvgt : ∀ k, v.ownBlock = some k → k < w.heap.size := fun k hk => (h.own k hk).1
  have hvgt2 : ∀ k, v2.ownBlock = some k → k < w.heap.size := fun k hk => (h.own2 k hk).1
  clear h0 hzl
  generalize hgln : w.heap.size = gl at *
  have HGL := hide hgln
  clear hgln
  have q0 := (hL.cell 0).trans rfl
  have q1 := (hL.cell 1).trans rfl
  have q2 := (hL.cell 2).trans rfl
  have q3 := (hL.cell 3).trans rfl
  have hvn : v.ownBlock ≠ some gt := fun e => by have := hvgt gt e; omega
  have hvn2 : v2.ownBlock ≠ some gt := fun e => by have := hvgt2 gt e; omega
  have hzo12 : Off (.slice A2 o.b.length c2) [g, g2] := hzo _ (by simp)
  have hK := hide hK0
  have hR := hide hR0
  clear hR0 hvgt hvgt2
  have e2 := h.eqv
  go_wp2_with fail
  · -- Append
    obtain ⟨E1, E2⟩ := e2.opApp o.b (d.b.length + o.b.length)
    have hb2 : (d.b.length : Int) = r.b.length := by rw [e2.b]
    have X1 := disk_append g v (.slice (some ⟨gt, 0, none⟩) o.b.length (o.b.length + 3)) d o.b
    have X2 := ref_append g2 v2 (.slice A2 o.b.length c2) r o.b
    rw [← hb2] at X2
    obtain ⟨D', c, hD⟩ : ∃ D' c, d.op (d.b.length + o.b.length) (Dk.app o.b) (Dk.app o.b) = (D', c) := ⟨_, _, rfl⟩
    obtain ⟨R', c', hR'⟩ : ∃ R' c', r.rop (d.b.length + o.b.length) (Dk.app o.b) (Dk.app o.b) = (R', c') := ⟨_, _, rfl⟩
    rw [hD] at E1 E2 X1
    rw [hR'] at E1 E2 X2
    simp only at E1 E2
    subst E1
    have E2' := hide E2
    have X1' := hide X1
    have X2' := hide X2
    clear hD hR' E2 X1 X2
    have hto' := hto
    have hRL : ∀ i W, RW g g2 gt v2 D' r R' W1 i W → Blk W gl 37 #[.int .i64 o.kind, .int .i64 o.n, .int .i64 o.part, .slice A2 o.b.length c2] := fun i W h => hL.chg h.chg (by simp; omega)
    have hC1 := fun W (h : RW g g2 gt v2 D' r R' W1 0 W) => X1'.out W (hw1.at_.ext h) ((htw.bs (by omega)).ext h) hto (by omega)
    have hC2 := fun W (h : RW g g2 gt v2 D' r R' W1 1 W) => X2'.out W h.choose_spec.2.1 (hzw.chg h.chg hzo12) hzo2 (by omega)
    have step1 := fun W W2 (hR : RW g g2 gt v2 D' r R' W1 0 W) hd => RW.step1 (W2 := W2) hw1 hgtl hvn hR hd
    have step2 := fun W W2 (hR : RW g g2 gt v2 D' r R' W1 1 W) hd => RW.step2 (W2 := W2) hne hgtl hvn2 E2'.out hR hd
    have chg1 := fun W W2 (hd : DiskTo W W2 g v D') => (hd.choose_spec.2.1.mono (by simp) : Chg [g, g2] W W2)
    have chg2 := fun W W2 (hd : RefTo W W2 g2 v2 R') => (hd.choose_spec.2.1.mono (by simp) : Chg [g, g2] W W2)
    have hR0 : RW g g2 gt v2 D' r R' W1 0 W1.drew := (Ext.rfl' W1).drew'
    have hzw0 := hzw
    refine Rg.regionW Try.checked.mixed 92 9 (by kernel_rfl) [
      (false, (fun x_ _ => x_ = .pointer (some ⟨g, 0, none⟩))),
      (false, (fun x_ _ => x_ = .slice (some ⟨gt, 0, none⟩) o.b.length (o.b.length + 3))),
      (true, (fun x_ _ => x_ = .int .i64 c)),
      (false, (fun x_ _ => x_ = .pointer (some ⟨g2, 0, none⟩))),
      (false, (fun x_ _ => x_ = .pointer (some ⟨gl, 3, none⟩))),
      (false, (fun x_ _ => x_ = .slice A2 o.b.length c2)),
      (true, (fun x_ _ => x_ = .int .i64 c)),
      (false, (fun x_ _ => x_ = .int .i64 c)),
      (false, (fun x_ _ => x_ = .int .i64 c))] (by kernel_rfl) (RW g g2 gt v2 D' r R' W1) (Chg [g, g2]) rfl rfl rfl
      ?st hR0 ?ob ?en
    case st => exact ⟨fun _ _ _ h _ => h, fun _ _ _ h _ => h, fun _ _ _ h _ => h, fun _ _ _ h _ => h, fun _ _ _ h _ => h, fun _ _ _ h _ => h, fun _ _ _ h _ => h, fun _ _ _ h _ => h, fun _ _ _ h _ => h, trivial⟩
    case ob =>
      refine ⟨fun i => Rg.at_runW [0] rfl ?_, ?_⟩
      · intro ρ W hR ⟨q0, _⟩
        replace q0 : ρ 0 = .pointer (some ⟨g, 0, none⟩) := q0
        refine ⟨rfl, ?_⟩
        exact Rg.run_ok (v := .pointer (some ⟨g, 0, none⟩)) (by simp [execOp, Rg.ev, go_sem, q0]) ⟨rfl, hR, Chg.refl _ _⟩
      refine ⟨fun i => Rg.at_runW [7] rfl ?_, ?_⟩
      · intro ρ W hR ⟨q7, _⟩
        replace q7 : ρ 7 = .slice (some ⟨gt, 0, none⟩) o.b.length (o.b.length + 3) := q7
        refine ⟨rfl, ?_⟩
        exact Rg.run_ok (v := .slice (some ⟨gt, 0, none⟩) o.b.length (o.b.length + 3)) (by simp [execOp, Rg.ev, go_sem, q7]) ⟨rfl, hR, Chg.refl _ _⟩
      refine ⟨Rg.at_runW [23, 24] rfl ?_, ?_⟩
      · intro ρ W hR ⟨q23, q24, _⟩
        replace q23 : ρ 23 = .pointer (some ⟨g, 0, none⟩) := q23
        replace q24 : ρ 24 = .slice (some ⟨gt, 0, none⟩) o.b.length (o.b.length + 3) := q24
        refine ⟨rfl, ?_⟩
        refine Rg.run_enter (by simp [execOp, Rg.ev, go_sem, q23, q24]; exact ⟨⟨rfl, rfl⟩, rfl⟩) ?_
        refine (hC1 W hR).mono ?_
        rintro e W2 ⟨rfl, hd2⟩
        exact ⟨_, rfl, rfl, step1 W W2 hR hd2, chg1 W W2 hd2⟩
      refine ⟨fun i => Rg.at_runW [1] rfl ?_, ?_⟩
      · intro ρ W hR ⟨q1, _⟩
        replace q1 : ρ 1 = .pointer (some ⟨g2, 0, none⟩) := q1
        refine ⟨rfl, ?_⟩
        exact Rg.run_ok (v := .pointer (some ⟨g2, 0, none⟩)) (by simp [execOp, Rg.ev, go_sem, q1]) ⟨rfl, hR, Chg.refl _ _⟩
      refine ⟨fun i => Rg.at_runW [5] rfl ?_, ?_⟩
      · intro ρ W hR ⟨q5, _⟩
        replace q5 : ρ 5 = .pointer (some ⟨gl, 0, none⟩) := q5
        refine ⟨rfl, ?_⟩
        exact Rg.run_ok (v := .pointer (some ⟨gl, 3, none⟩)) (by simp [execOp, Rg.ev, go_sem, q5]) ⟨rfl, hR, Chg.refl _ _⟩
      refine ⟨fun i => Rg.at_runW [27] rfl ?_, ?_⟩
      · intro ρ W hR ⟨q27, _⟩
        replace q27 : ρ 27 = .pointer (some ⟨gl, 3, none⟩) := q27
        refine ⟨rfl, ?_⟩
        have hc : W.cell? ⟨gl, 3, none⟩ = some (.slice A2 o.b.length c2) := ((hRL i W hR).cell 3).trans rfl
        exact Rg.run_ok (v := .slice A2 o.b.length c2) (by simp [execOp, Rg.ev, go_sem, q27, hc]) ⟨rfl, hR, Chg.refl _ _⟩
      refine ⟨Rg.at_runW [26, 28] rfl ?_, ?_⟩
      · intro ρ W hR ⟨q26, q28, _⟩
        replace q26 : ρ 26 = .pointer (some ⟨g2, 0, none⟩) := q26
        replace q28 : ρ 28 = .slice A2 o.b.length c2 := q28
        refine ⟨rfl, ?_⟩
        refine Rg.run_enter (by simp [execOp, Rg.ev, go_sem, q26, q28]; exact ⟨⟨rfl, rfl⟩, rfl⟩) ?_
        refine (hC2 W hR).mono ?_
        rintro e W2 ⟨rfl, hd2⟩
        exact ⟨_, rfl, rfl, step2 W W2 hR hd2, chg2 W W2 hd2⟩
      refine ⟨fun i => Rg.at_runW [25] rfl ?_, ?_⟩
      · intro ρ W hR ⟨q25, _⟩
        replace q25 : ρ 25 = .int .i64 c := q25
        refine ⟨rfl, ?_⟩
        exact Rg.run_ok (v := .int .i64 c) (by simp [execOp, Rg.ev, go_sem, q25]) ⟨rfl, hR, Chg.refl _ _⟩
      refine ⟨fun i => Rg.at_runW [29] rfl ?_, ?_⟩
      · intro ρ W hR ⟨q29, _⟩
        replace q29 : ρ 29 = .int .i64 c := q29
        refine ⟨rfl, ?_⟩
        exact Rg.run_ok (v := .int .i64 c) (by simp [execOp, Rg.ev, go_sem, q29]) ⟨rfl, hR, Chg.refl _ _⟩
      trivial
    case en =>
      intro tm W hR hsz hk
      rw [Rg.fin_eq (ds := [23, 24, 25, 26, 27, 28, 29, 8, 9]) rfl rfl rfl hsz hk]
      have k8 : tm.getD 8 undef = .int .i64 c := hk 8
      have k9 : tm.getD 9 undef = .int .i64 c := hk 9
      have k23 : tm.getD 23 undef = .pointer (some ⟨g, 0, none⟩) := hk 23
      have k24 : tm.getD 24 undef = .slice (some ⟨gt, 0, none⟩) o.b.length (o.b.length + 3) := hk 24
      have k25 : tm.getD 25 undef = .int .i64 c := hk 25
      have k26 : tm.getD 26 undef = .pointer (some ⟨g2, 0, none⟩) := hk 26
      have k27 : tm.getD 27 undef = .pointer (some ⟨gl, 3, none⟩) := hk 27
      have k28 : tm.getD 28 undef = .slice A2 o.b.length c2 := hk 28
      have k29 : tm.getD 29 undef = .int .i64 c := hk 29
      clear hk hsz
      simp only [Rg.putAll, List.setIfInBounds_toArray, List.set_cons_zero, List.set_cons_succ, k8, k9, k23, k24, k25, k26, k27, k28, k29]
      clear k8
      clear k9
      clear k23
      clear k24
      clear k25
      clear k26
      clear k27
      clear k28
      clear k29
      refine Rg.nil_list ?_

      replace hR : RW g g2 gt v2 D' r R' W1 2 W := hR
      obtain ⟨v3, v4, hT3, hc3, hn3, hn4⟩ := hR
      have htw3 := Blk.chg htw hc3 (by simp; omega)
      have hL3 := hL.chg hc3 (by simp; omega)
      have hz3 := hzw.chg hc3 hzo12
      have qb := (hL3.cell 3).trans rfl
      go_wp2_with fail
      refine (kept_b _ o.b gt _ (by omega) hz3 htw3).mono ?_
      rintro e W4 ⟨rfl, rfl⟩
      go_wp2_with fail
      refine (spoil_twin gt o.b _ (by omega) htw3).mono ?_
      rintro e W4 ⟨rfl, hc4⟩
      have hT4 := hT3.chg hc4 (by simp; exact ⟨by omega, by omega, hn3, hn4⟩)
      go_wp2
      go_ret
      exact ⟨rfl, _, _, _, _, hT4, ((hxw1.chg [g, g2]).trans hc3).then_new hc4 (by have := HGL.out; simp; omega)⟩
  · -- Sync
    obtain ⟨E1, E2⟩ := e2.opId 0 Dk.last fun d r h => h.last
    obtain ⟨D', c, hD⟩ : ∃ D' c, d.op 0 Dk.last id = (D', c) := ⟨_, _, rfl⟩
    obtain ⟨R', c', hR'⟩ : ∃ R' c', r.rop 0 Dk.last id = (R', c') := ⟨_, _, rfl⟩
    have X1 := disk_sync g v d
    have X2 := ref_sync g2 v2 r
    rw [hD] at E1 E2 X1
    rw [hR'] at E1 E2 X2
    simp only at E1 E2
    subst E1
    have E2' := hide E2
    have X1' := hide X1
    have X2' := hide X2
    clear hD hR' E2 X1 X2
    refine (X1'.out W1 hw1.at_).mono ?_
    rintro e W2 ⟨rfl, hd2⟩
    have m1 := RW.step1 (R' := R') hw1 hgtl hvn (Ext.rfl' W1) hd2
    go_wp2_with fail
    refine (X2'.out W2 m1.choose_spec.2.1).mono ?_
    rintro e W3 ⟨rfl, hd3⟩
    have hRR := RW.step2 hne hgtl hvn2 E2'.out m1 hd3
    obtain ⟨v3, v4, hT3, hc3, hn3, hn4⟩ := hRR
    have htw3 := Blk.chg htw hc3 (by simp; omega)
    have hL3 := hL.chg hc3 (by simp; omega)
    have hz3 := hzw.chg hc3 hzo12
    have qb := (hL3.cell 3).trans rfl
    go_wp2_with fail
    refine (kept_b _ o.b gt _ (by omega) hz3 htw3).mono ?_
    rintro e W4 ⟨rfl, rfl⟩
    go_wp2_with fail
    refine (spoil_twin gt o.b _ (by omega) htw3).mono ?_
    rintro e W4 ⟨rfl, hc4⟩
    have hT4 := hT3.chg hc4 (by simp; exact ⟨by omega, by omega, hn3, hn4⟩)
    go_wp2
    go_ret
    exact ⟨rfl, _, _, _, _, hT4, ((hxw1.chg [g, g2]).trans hc3).then_new hc4 (by have := HGL.out; simp; omega)⟩
  · -- Replace
    obtain ⟨E1, E2⟩ := e2.opId o.b.length (Dk.repl o.b) fun d r h => h.repl o.b
    have X1 := disk_replace g v (.slice (some ⟨gt, 0, none⟩) o.b.length (o.b.length + 3)) d o.b
    have X2 := ref_replace g2 v2 (.slice A2 o.b.length c2) r o.b
    obtain ⟨D', c, hD⟩ : ∃ D' c, d.op o.b.length (Dk.repl o.b) id = (D', c) := ⟨_, _, rfl⟩
    obtain ⟨R', c', hR'⟩ : ∃ R' c', r.rop o.b.length (Dk.repl o.b) id = (R', c') := ⟨_, _, rfl⟩
    rw [hD] at E1 E2 X1
    rw [hR'] at E1 E2 X2
    simp only at E1 E2
    subst E1
    have E2' := hide E2
    have X1' := hide X1
    have X2' := hide X2
    clear hD hR' E2 X1 X2
    have hto' := hto
    have hRL : ∀ i W, RW g g2 gt v2 D' r R' W1 i W → Blk W gl 37 #[.int .i64 o.kind, .int .i64 o.n, .int .i64 o.part, .slice A2 o.b.length c2] := fun i W h => hL.chg h.chg (by simp; omega)
    have hC1 := fun W (h : RW g g2 gt v2 D' r R' W1 0 W) => X1'.out W (hw1.at_.ext h) ((htw.bs (by omega)).ext h) hto (by omega)
    have hC2 := fun W (h : RW g g2 gt v2 D' r R' W1 1 W) => X2'.out W h.choose_spec.2.1 (hzw.chg h.chg hzo12) hzo2 (by omega)
    have step1 := fun W W2 (hR : RW g g2 gt v2 D' r R' W1 0 W) hd => RW.step1 (W2 := W2) hw1 hgtl hvn hR hd
    have step2 := fun W W2 (hR : RW g g2 gt v2 D' r R' W1 1 W) hd => RW.step2 (W2 := W2) hne hgtl hvn2 E2'.out hR hd
    have chg1 := fun W W2 (hd : DiskTo W W2 g v D') => (hd.choose_spec.2.1.mono (by simp) : Chg [g, g2] W W2)
    have chg2 := fun W W2 (hd : RefTo W W2 g2 v2 R') => (hd.choose_spec.2.1.mono (by simp) : Chg [g, g2] W W2)
    have hR0 : RW g g2 gt v2 D' r R' W1 0 W1.drew := (Ext.rfl' W1).drew'
    refine Rg.regionW Try.checked.mixed 92 9 (by kernel_rfl) [
      (false, (fun x_ _ => x_ = .pointer (some ⟨g, 0, none⟩))),
      (false, (fun x_ _ => x_ = .slice (some ⟨gt, 0, none⟩) o.b.length (o.b.length + 3))),
      (true, (fun x_ _ => x_ = .int .i64 c)),
      (false, (fun x_ _ => x_ = .pointer (some ⟨g2, 0, none⟩))),
      (false, (fun x_ _ => x_ = .pointer (some ⟨gl, 3, none⟩))),
      (false, (fun x_ _ => x_ = .slice A2 o.b.length c2)),
      (true, (fun x_ _ => x_ = .int .i64 c)),
      (false, (fun x_ _ => x_ = .int .i64 c)),
      (false, (fun x_ _ => x_ = .int .i64 c))] (by kernel_rfl) (RW g g2 gt v2 D' r R' W1) (Chg [g, g2]) rfl rfl rfl
      ?st hR0 ?ob ?en
    case st => exact ⟨fun _ _ _ h _ => h, fun _ _ _ h _ => h, fun _ _ _ h _ => h, fun _ _ _ h _ => h, fun _ _ _ h _ => h, fun _ _ _ h _ => h, fun _ _ _ h _ => h, fun _ _ _ h _ => h, fun _ _ _ h _ => h, trivial⟩
    case ob =>
      refine ⟨fun i => Rg.at_runW [0] rfl ?_, ?_⟩
      · intro ρ W hR ⟨q0, _⟩
        replace q0 : ρ 0 = .pointer (some ⟨g, 0, none⟩) := q0
        refine ⟨rfl, ?_⟩
        exact Rg.run_ok (v := .pointer (some ⟨g, 0, none⟩)) (by simp [execOp, Rg.ev, go_sem, q0]) ⟨rfl, hR, Chg.refl _ _⟩
      refine ⟨fun i => Rg.at_runW [7] rfl ?_, ?_⟩
      · intro ρ W hR ⟨q7, _⟩
        replace q7 : ρ 7 = .slice (some ⟨gt, 0, none⟩) o.b.length (o.b.length + 3) := q7
        refine ⟨rfl, ?_⟩
        exact Rg.run_ok (v := .slice (some ⟨gt, 0, none⟩) o.b.length (o.b.length + 3)) (by simp [execOp, Rg.ev, go_sem, q7]) ⟨rfl, hR, Chg.refl _ _⟩
      refine ⟨Rg.at_runW [40, 41] rfl ?_, ?_⟩
      · intro ρ W hR ⟨q40, q41, _⟩
        replace q40 : ρ 40 = .pointer (some ⟨g, 0, none⟩) := q40
        replace q41 : ρ 41 = .slice (some ⟨gt, 0, none⟩) o.b.length (o.b.length + 3) := q41
        refine ⟨rfl, ?_⟩
        refine Rg.run_enter (by simp [execOp, Rg.ev, go_sem, q40, q41]; exact ⟨⟨rfl, rfl⟩, rfl⟩) ?_
        refine (hC1 W hR).mono ?_
        rintro e W2 ⟨rfl, hd2⟩
        exact ⟨_, rfl, rfl, step1 W W2 hR hd2, chg1 W W2 hd2⟩
      refine ⟨fun i => Rg.at_runW [1] rfl ?_, ?_⟩
      · intro ρ W hR ⟨q1, _⟩
        replace q1 : ρ 1 = .pointer (some ⟨g2, 0, none⟩) := q1
        refine ⟨rfl, ?_⟩
        exact Rg.run_ok (v := .pointer (some ⟨g2, 0, none⟩)) (by simp [execOp, Rg.ev, go_sem, q1]) ⟨rfl, hR, Chg.refl _ _⟩
      refine ⟨fun i => Rg.at_runW [5] rfl ?_, ?_⟩
      · intro ρ W hR ⟨q5, _⟩
        replace q5 : ρ 5 = .pointer (some ⟨gl, 0, none⟩) := q5
        refine ⟨rfl, ?_⟩
        exact Rg.run_ok (v := .pointer (some ⟨gl, 3, none⟩)) (by simp [execOp, Rg.ev, go_sem, q5]) ⟨rfl, hR, Chg.refl _ _⟩
      refine ⟨fun i => Rg.at_runW [44] rfl ?_, ?_⟩
      · intro ρ W hR ⟨q44, _⟩
        replace q44 : ρ 44 = .pointer (some ⟨gl, 3, none⟩) := q44
        refine ⟨rfl, ?_⟩
        have hc : W.cell? ⟨gl, 3, none⟩ = some (.slice A2 o.b.length c2) := ((hRL i W hR).cell 3).trans rfl
        exact Rg.run_ok (v := .slice A2 o.b.length c2) (by simp [execOp, Rg.ev, go_sem, q44, hc]) ⟨rfl, hR, Chg.refl _ _⟩
      refine ⟨Rg.at_runW [43, 45] rfl ?_, ?_⟩
      · intro ρ W hR ⟨q43, q45, _⟩
        replace q43 : ρ 43 = .pointer (some ⟨g2, 0, none⟩) := q43
        replace q45 : ρ 45 = .slice A2 o.b.length c2 := q45
        refine ⟨rfl, ?_⟩
        refine Rg.run_enter (by simp [execOp, Rg.ev, go_sem, q43, q45]; exact ⟨⟨rfl, rfl⟩, rfl⟩) ?_
        refine (hC2 W hR).mono ?_
        rintro e W2 ⟨rfl, hd2⟩
        exact ⟨_, rfl, rfl, step2 W W2 hR hd2, chg2 W W2 hd2⟩
      refine ⟨fun i => Rg.at_runW [42] rfl ?_, ?_⟩
      · intro ρ W hR ⟨q42, _⟩
        replace q42 : ρ 42 = .int .i64 c := q42
        refine ⟨rfl, ?_⟩
        exact Rg.run_ok (v := .int .i64 c) (by simp [execOp, Rg.ev, go_sem, q42]) ⟨rfl, hR, Chg.refl _ _⟩
      refine ⟨fun i => Rg.at_runW [46] rfl ?_, ?_⟩
      · intro ρ W hR ⟨q46, _⟩
        replace q46 : ρ 46 = .int .i64 c := q46
        refine ⟨rfl, ?_⟩
        exact Rg.run_ok (v := .int .i64 c) (by simp [execOp, Rg.ev, go_sem, q46]) ⟨rfl, hR, Chg.refl _ _⟩
      trivial
    case en =>
      intro tm W hR hsz hk
      rw [Rg.fin_eq (ds := [40, 41, 42, 43, 44, 45, 46, 8, 9]) rfl rfl rfl hsz hk]
      have k8 : tm.getD 8 undef = .int .i64 c := hk 8
      have k9 : tm.getD 9 undef = .int .i64 c := hk 9
      have k40 : tm.getD 40 undef = .pointer (some ⟨g, 0, none⟩) := hk 40
      have k41 : tm.getD 41 undef = .slice (some ⟨gt, 0, none⟩) o.b.length (o.b.length + 3) := hk 41
      have k42 : tm.getD 42 undef = .int .i64 c := hk 42
      have k43 : tm.getD 43 undef = .pointer (some ⟨g2, 0, none⟩) := hk 43
      have k44 : tm.getD 44 undef = .pointer (some ⟨gl, 3, none⟩) := hk 44
      have k45 : tm.getD 45 undef = .slice A2 o.b.length c2 := hk 45
      have k46 : tm.getD 46 undef = .int .i64 c := hk 46
      clear hk hsz
      simp only [Rg.putAll, List.setIfInBounds_toArray, List.set_cons_zero, List.set_cons_succ, k8, k9, k40, k41, k42, k43, k44, k45, k46]
      clear k8
      clear k9
      clear k40
      clear k41
      clear k42
      clear k43
      clear k44
      clear k45
      clear k46
      refine Rg.nil_list ?_

      replace hR : RW g g2 gt v2 D' r R' W1 2 W := hR
      obtain ⟨v3, v4, hT3, hc3, hn3, hn4⟩ := hR
      have htw3 := Blk.chg htw hc3 (by simp; omega)
      have hL3 := hL.chg hc3 (by simp; omega)
      have hz3 := hzw.chg hc3 hzo12
      have qb := (hL3.cell 3).trans rfl
      go_wp2_with fail
      refine (kept_b _ o.b gt _ (by omega) hz3 htw3).mono ?_
      rintro e W4 ⟨rfl, rfl⟩
      go_wp2_with fail
      refine (spoil_twin gt o.b _ (by omega) htw3).mono ?_
      rintro e W4 ⟨rfl, hc4⟩
      have hT4 := hT3.chg hc4 (by simp; exact ⟨by omega, by omega, hn3, hn4⟩)
      go_wp2
      go_ret
      exact ⟨rfl, _, _, _, _, hT4, ((hxw1.chg [g, g2]).trans hc3).then_new hc4 (by have := HGL.out; simp; omega)⟩
  · -- Crash
    refine (disk_crash g v d o.n W1 hw1.at_ hk2).mono ?_
    rintro e W2 ⟨rfl, hd2⟩
    have m1 := RW.step1 (R' := r.crash o.n) hw1 hgtl hvn (Ext.rfl' W1) hd2
    have hL2 := hL.chg m1.chg (by simp; omega)
    have qn := (hL2.cell 1).trans rfl
    go_wp2_with fail
    refine (ref_crash g2 v2 r o.n W2 m1.choose_spec.2.1.raw hk2).mono ?_
    rintro e W3 ⟨rfl, hd3⟩
    have hRR := RW.step2 hne hgtl hvn2 (e2.crash o.n) m1 hd3
    obtain ⟨v3, v4, hT3, hc3, hn3, hn4⟩ := hRR
    have htw3 := Blk.chg htw hc3 (by simp; omega)
    have hL3 := hL.chg hc3 (by simp; omega)
    have hz3 := hzw.chg hc3 hzo12
    have qb := (hL3.cell 3).trans rfl
    go_wp2_with fail
    refine (kept_b _ o.b gt _ (by omega) hz3 htw3).mono ?_
    rintro e W4 ⟨rfl, rfl⟩
    go_wp2_with fail
    refine (spoil_twin gt o.b _ (by omega) htw3).mono ?_
    rintro e W4 ⟨rfl, hc4⟩
    have hT4 := hT3.chg hc4 (by simp; exact ⟨by omega, by omega, hn3, hn4⟩)
    go_wp2
    go_ret
    exact ⟨rfl, _, _, _, _, hT4, ((hxw1.chg [g, g2]).trans hc3).then_new hc4 (by have := HGL.out; simp; omega)⟩
  · -- Power
    refine (disk_power g v d W1 hw1.at_).mono ?_
    rintro e W2 ⟨rfl, hd2⟩
    have m1 := RW.step1 (R' := r.power) hw1 hgtl hvn (Ext.rfl' W1) hd2
    go_wp2_with fail
    refine (ref_power g2 v2 r W2 m1.choose_spec.2.1).mono ?_
    rintro e W3 ⟨rfl, hd3⟩
    have hRR := RW.step2 hne hgtl hvn2 e2.power m1 hd3
    obtain ⟨v3, v4, hT3, hc3, hn3, hn4⟩ := hRR
    have htw3 := Blk.chg htw hc3 (by simp; omega)
    have hL3 := hL.chg hc3 (by simp; omega)
    have hz3 := hzw.chg hc3 hzo12
    have qb := (hL3.cell 3).trans rfl
    go_wp2_with fail
    refine (kept_b _ o.b gt _ (by omega) hz3 htw3).mono ?_
    rintro e W4 ⟨rfl, rfl⟩
    go_wp2_with fail
    refine (spoil_twin gt o.b _ (by omega) htw3).mono ?_
    rintro e W4 ⟨rfl, hc4⟩
    have hT4 := hT3.chg hc4 (by simp; exact ⟨by omega, by omega, hn3, hn4⟩)
    go_wp2
    go_ret
    exact ⟨rfl, _, _, _, _, hT4, ((hxw1.chg [g, g2]).trans hc3).then_new hc4 (by have := HGL.out; simp; omega)⟩
  · -- Arm
    refine (disk_arm g v d o.n o.part W1 hw1.at_ hk2 hk3).mono ?_
    rintro e W2 ⟨rfl, hd2⟩
    have m1 := RW.step1 (R' := r.arm o.n o.part) hw1 hgtl hvn (Ext.rfl' W1) hd2
    have hL2 := hL.chg m1.chg (by simp; omega)
    have qn := (hL2.cell 1).trans rfl
    have qp := (hL2.cell 2).trans rfl
    go_wp2_with fail
    refine (ref_arm g2 v2 r o.n o.part W2 m1.choose_spec.2.1 hk2 hk3).mono ?_
    rintro e W3 ⟨rfl, hd3⟩
    have hRR := RW.step2 hne hgtl hvn2 (e2.arm o.n o.part) m1 hd3
    obtain ⟨v3, v4, hT3, hc3, hn3, hn4⟩ := hRR
    have htw3 := Blk.chg htw hc3 (by simp; omega)
    have hL3 := hL.chg hc3 (by simp; omega)
    have hz3 := hzw.chg hc3 hzo12
    have qb := (hL3.cell 3).trans rfl
    go_wp2_with fail
    refine (kept_b _ o.b gt _ (by omega) hz3 htw3).mono ?_
    rintro e W4 ⟨rfl, rfl⟩
    go_wp2_with fail
    refine (spoil_twin gt o.b _ (by omega) htw3).mono ?_
    rintro e W4 ⟨rfl, hc4⟩
    have hT4 := hT3.chg hc4 (by simp; exact ⟨by omega, by omega, hn3, hn4⟩)
    go_wp2
    go_ret
    exact ⟨rfl, _, _, _, _, hT4, ((hxw1.chg [g, g2]).trans hc3).then_new hc4 (by have := HGL.out; simp; omega)⟩
  · -- none of these
    refine (kept_b _ o.b gt _ (by omega) hzw htw).mono ?_
    rintro e W4 ⟨rfl, rfl⟩
    go_wp2_with fail
    refine (spoil_twin gt o.b _ (by omega) htw).mono ?_
    rintro e W4 ⟨rfl, hc4⟩
    have hT4 := hw1.chg hc4 (by simp; exact ⟨by omega, by omega, hvn, hvn2⟩)
    go_wp2
    go_ret
    exact ⟨rfl, _, _, _, _, hT4, (hxw1.chg [g, g2]).then_new hc4 (by have := HGL.out; simp; omega)⟩
end Go.Proofs.Ytlhokicnedkieaa
