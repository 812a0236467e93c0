/- msg's reader: a command. -/
import Derived.Test.YtccpbchcfgggmaaMsg4
namespace Go.Proofs.Ytccpbchcfgggmaa
set_option linter.unusedVariables false
set_option linter.unusedSimpArgs false
set_option linter.unnecessarySimpa false
set_option maxRecDepth 100000
open Go.RowKit
theorem ptext_len' (s : Rdr) : (ptext s).1.length ≤ s.1.length := by
  unfold ptext
  split
  · unfold otakeBytes
    split
    · simp
    · simp [List.length_take, List.length_drop]; omega
  · simp
set_option maxHeartbeats 1600000 in
theorem mcommand_b (g : Nat) (v : Value) (s : Rdr) (m : Mg) (ve vs : Value) (w : World) (h : MAt w g v s (mgcells m ve vs)) (hz : m.cmd = Cm.zero) :
    Calls Try.prog 55 #[.pointer (some ⟨g, 0, none⟩)] w fun e w' => e = .returned (.tuple #[]) ∧ MTo w w' g v (Cod.cmd.P s).2 (mgcells { m with cmd := (Cod.cmd.P s).1 } ve vs) := by
  obtain ⟨T, s1, hT⟩ : ∃ T s1, ptext s = (T, s1) := ⟨_, _, rfl⟩
  obtain ⟨C, E, hC⟩ : ∃ C E, ctake T = (C, E) := ⟨_, _, rfl⟩
  have HB := hide (mbytes_b g v s _ w h)
  have hTl := ptext_len' s
  rw [hT] at HB hTl
  simp only at HB hTl
  have hsl := h.len
  have HP : Hid (Cod.cmd.P s = if s1.2 = 0 then (C, pform (decide (E ≠ 0)) s1) else (Cm.zero, s1)) := hide (by
    show (if (ptext s).2.2 = 0 then ((ctake (ptext s).1).1, pform (decide ((ctake (ptext s).1).2 ≠ 0)) (ptext s).2) else (Cm.zero, (ptext s).2)) = _
    rw [hT]
    simp only
    rw [hC])
  have hct := fun (x : Value) (W : World) (hx : Bs W x T) => ctake_b x T W (by omega) hx
  rw [hC] at hct
  have HC := hide hct
  clear hct hT
  obtain ⟨CC, s9, hCC⟩ : ∃ CC s9, Cod.cmd.P s = (CC, s9) := ⟨_, _, rfl⟩
  rw [hCC] at HP ⊢
  clear hCC
  simp only
  go_enter Try.func55, Try.ntmps55
  go_wp2_with fail
  refine HB.out.mono ?_
  rintro e W1 ⟨T', A, c, hT', rfl, hz1, v1, r1, ch1, of1⟩
  have hT'' := hT'.out
  subst hT''
  obtain ⟨b1, e1⟩ := s1
  have q1 : W1.cell? ⟨g, 1, none⟩ = some (.int .i64 e1) := r1.c1
  by_cases he : e1 = 0
  · subst he
    have hxb := hz1.bs
    go_upto_region 2 with fail
    go_wp2_with fail
    refine (HC.out _ _ hxb).mono ?_
    rintro e W2 ⟨rfl, hx2⟩
    have r2 := r1.ext hx2
    have hxa := (Ext.rfl' W2).alloc' (.cells (ccells C) 24)
    obtain ⟨g2, hg2⟩ : ∃ g2, W2.heap.size = g2 := ⟨_, rfl⟩
    have hB := Blk.new W2 24 (ccells C)
    rw [hg2] at hB
    have r3 := r2.ext hxa
    go_upto_region 3 with fail
    change Code.wp _ _ _ _ (W2.alloc (.cells (ccells C) 24))
    generalize W2.alloc _ = W3 at *
    have ch3 : Chg [g] w W3 := (ch1.trans (hx2.chg [g])).trans (hxa.chg [g])
    clear hg2 hxa r2 hx2 ch1 r1 q1 hxb
    have b0 : W3.cell? ⟨g2, 0, none⟩ = some (.int .i64 C.kind) := (hB.cell 0).trans rfl
    have b1' : W3.cell? ⟨g2, 1, none⟩ = some (.int .i64 C.client) := (hB.cell 1).trans rfl
    have b2 : W3.cell? ⟨g2, 2, none⟩ = some (.int .u64 C.seq) := (hB.cell 2).trans rfl
    have b3 : W3.cell? ⟨g2, 3, none⟩ = some (str C.name) := (hB.cell 3).trans rfl
    have b4 : W3.cell? ⟨g2, 4, none⟩ = some (str C.url) := (hB.cell 4).trans rfl
    have b5 : W3.cell? ⟨g2, 5, none⟩ = some (.int .u64 C.till) := (hB.cell 5).trans rfl
    have hgg : g2 ≠ g := by
      rintro rfl
      have h1 := hB
      have h2 := r3.blk
      unfold Blk at h1 h2
      rw [h1] at h2
      have h3 := Option.some.inj h2
      simp only [Obj.cells.injEq] at h3
      exact absurd h3.2.1 (by decide)
    by_cases hE : E = 0
    · subst hE
      have hP2 : CC = C ∧ s9 = (b1, 0) := by
        have := HP.out
        simp only [if_true, reduceIte] at this
        rw [decide_eq_false (by simp), pform_no] at this
        exact ⟨(Prod.mk.inj this).1, (Prod.mk.inj this).2⟩
      obtain ⟨rfl, rfl⟩ := hP2
      have x0 : (W3).cell? ⟨g, 15, none⟩ = some (.int .i64 0) := by rw [r3.cell 13]; show some _ = _; rw [hz]; rfl
      have z0 := r3.blk.frozen 15
      have x1 : (W3).cell? ⟨g, 16, none⟩ = some (.int .i64 0) := by rw [r3.cell 14]; show some _ = _; rw [hz]; rfl
      have z1 := r3.blk.frozen 16
      have x2 : (W3).cell? ⟨g, 17, none⟩ = some (.int .u64 0) := by rw [r3.cell 15]; show some _ = _; rw [hz]; rfl
      have z2 := r3.blk.frozen 17
      have x3 : (W3).cell? ⟨g, 18, none⟩ = some (str []) := by rw [r3.cell 16]; show some _ = _; rw [hz]; rfl
      have z3 := r3.blk.frozen 18
      have x4 : (W3).cell? ⟨g, 19, none⟩ = some (str []) := by rw [r3.cell 17]; show some _ = _; rw [hz]; rfl
      have z4 := r3.blk.frozen 19
      have x5 : (W3).cell? ⟨g, 20, none⟩ = some (.int .u64 0) := by rw [r3.cell 18]; show some _ = _; rw [hz]; rfl
      have z5 := r3.blk.frozen 20
      go_wp2_with fail
      go_end0
      exact ⟨rfl, v1, ((((((r3.set 13 (.int .i64 CC.kind)).set 14 (.int .i64 CC.client)).set 15 (.int .u64 CC.seq)).set 16 (str CC.name)).set 17 (str CC.url)).set 18 (.int .u64 CC.till)), (((((((ch3.set (p := ⟨g, 15, none⟩) (by simp) _).set (p := ⟨g, 16, none⟩) (by simp) _).set (p := ⟨g, 17, none⟩) (by simp) _).set (p := ⟨g, 18, none⟩) (by simp) _).set (p := ⟨g, 19, none⟩) (by simp) _).set (p := ⟨g, 20, none⟩) (by simp) _)), of1⟩
    · have r4 := r3.err 2
      have f1 := r3.blk.frozen 1
      have q1 : W3.cell? ⟨g, 1, none⟩ = some (.int .i64 0) := r3.c1
      have chE : Chg [g] W3 (W3.setCell ⟨g, 1, none⟩ (.int .i64 2)) := (Chg.refl [g] W3).set (by simp) _
      have hBE := hB.chg chE (by simpa using hgg)
      have bb0 : (W3.setCell ⟨g, 1, none⟩ (.int .i64 2)).cell? ⟨g2, 0, none⟩ = some (.int .i64 C.kind) := (hBE.cell 0).trans rfl
      have bb1 : (W3.setCell ⟨g, 1, none⟩ (.int .i64 2)).cell? ⟨g2, 1, none⟩ = some (.int .i64 C.client) := (hBE.cell 1).trans rfl
      have bb2 : (W3.setCell ⟨g, 1, none⟩ (.int .i64 2)).cell? ⟨g2, 2, none⟩ = some (.int .u64 C.seq) := (hBE.cell 2).trans rfl
      have bb3 : (W3.setCell ⟨g, 1, none⟩ (.int .i64 2)).cell? ⟨g2, 3, none⟩ = some (str C.name) := (hBE.cell 3).trans rfl
      have bb4 : (W3.setCell ⟨g, 1, none⟩ (.int .i64 2)).cell? ⟨g2, 4, none⟩ = some (str C.url) := (hBE.cell 4).trans rfl
      have bb5 : (W3.setCell ⟨g, 1, none⟩ (.int .i64 2)).cell? ⟨g2, 5, none⟩ = some (.int .u64 C.till) := (hBE.cell 5).trans rfl
      have hP2 : CC = C ∧ s9 = (b1, 2) := by
        have := HP.out
        simp only [if_true, reduceIte] at this
        rw [decide_eq_true hE, pform_yes] at this
        exact ⟨(Prod.mk.inj this).1, (Prod.mk.inj this).2⟩
      obtain ⟨rfl, rfl⟩ := hP2
      have x0 : (W3.setCell ⟨g, 1, none⟩ (.int .i64 2)).cell? ⟨g, 15, none⟩ = some (.int .i64 0) := by rw [r4.cell 13]; show some _ = _; rw [hz]; rfl
      have z0 := r4.blk.frozen 15
      have x1 : (W3.setCell ⟨g, 1, none⟩ (.int .i64 2)).cell? ⟨g, 16, none⟩ = some (.int .i64 0) := by rw [r4.cell 14]; show some _ = _; rw [hz]; rfl
      have z1 := r4.blk.frozen 16
      have x2 : (W3.setCell ⟨g, 1, none⟩ (.int .i64 2)).cell? ⟨g, 17, none⟩ = some (.int .u64 0) := by rw [r4.cell 15]; show some _ = _; rw [hz]; rfl
      have z2 := r4.blk.frozen 17
      have x3 : (W3.setCell ⟨g, 1, none⟩ (.int .i64 2)).cell? ⟨g, 18, none⟩ = some (str []) := by rw [r4.cell 16]; show some _ = _; rw [hz]; rfl
      have z3 := r4.blk.frozen 18
      have x4 : (W3.setCell ⟨g, 1, none⟩ (.int .i64 2)).cell? ⟨g, 19, none⟩ = some (str []) := by rw [r4.cell 17]; show some _ = _; rw [hz]; rfl
      have z4 := r4.blk.frozen 19
      have x5 : (W3.setCell ⟨g, 1, none⟩ (.int .i64 2)).cell? ⟨g, 20, none⟩ = some (.int .u64 0) := by rw [r4.cell 18]; show some _ = _; rw [hz]; rfl
      have z5 := r4.blk.frozen 20
      go_wp2_with fail
      go_end0
      exact ⟨rfl, v1, ((((((r4.set 13 (.int .i64 CC.kind)).set 14 (.int .i64 CC.client)).set 15 (.int .u64 CC.seq)).set 16 (str CC.name)).set 17 (str CC.url)).set 18 (.int .u64 CC.till)), ((((((((ch3.set (p := ⟨g, 1, none⟩) (by simp) (.int .i64 2)).set (p := ⟨g, 15, none⟩) (by simp) _).set (p := ⟨g, 16, none⟩) (by simp) _).set (p := ⟨g, 17, none⟩) (by simp) _).set (p := ⟨g, 18, none⟩) (by simp) _).set (p := ⟨g, 19, none⟩) (by simp) _).set (p := ⟨g, 20, none⟩) (by simp) _)), of1⟩
  · have hP2 : CC = Cm.zero ∧ s9 = (b1, e1) := by
      have := HP.out
      rw [if_neg he] at this
      exact ⟨(Prod.mk.inj this).1, (Prod.mk.inj this).2⟩
    obtain ⟨rfl, rfl⟩ := hP2
    go_wp2_with fail
    try simp only [Exit.inBlock, Exit.then]
    refine bodyPost_ret (results_none rfl _ _ _) rfl ?_
    refine ⟨rfl, v1, ?_, ch1, of1⟩
    rw [← hz]
    exact r1
end Go.Proofs.Ytccpbchcfgggmaa
