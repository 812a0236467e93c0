/- shortcutref17's reader. -/
import Derived.Test.YtccpbchcfgggmaaCmd1
namespace Go.Proofs.Ytccpbchcfgggmaa
set_option linter.unusedVariables false
set_option linter.unusedSimpArgs false
set_option linter.unnecessarySimpa false
set_option maxRecDepth 100000
open Go.RowKit
set_option maxHeartbeats 1600000 in
theorem rnum_b (T : TypeId) (g : Nat) (v : Value) (s : Rdr) (n : Nat) (w : World) (h : RdAt T w g v s) (hn : n ≤ 8) :
    Calls Try.prog 29 #[.pointer (some ⟨g, 0, none⟩), .int .i64 n] w fun e w' => e = .returned (.int .u64 (pnum n s).1) ∧ RdTo T w w' g v (pnum n s).2 := by
  obtain ⟨b, e⟩ := s
  have c0 : w.cell? ⟨g, 0, none⟩ = some v := (h.blk.cell 0).trans rfl
  have c1 : w.cell? ⟨g, 1, none⟩ = some (.int .i64 e) := (h.blk.cell 1).trans rfl
  have f0 := h.blk.frozen 0
  have f1 := h.blk.frozen 1
  have hlb := h.len
  simp only at hlb
  by_cases he : e = 0
  · subst he
    obtain ⟨A, c, rfl, k1, k2, -⟩ := id h.bs
    rcases otake_cases b n hn with ⟨hs, e1⟩ | ⟨hs, e1⟩
    · have ht := rtake_b _ b n w (by omega) (by omega) h.bs
      rw [e1] at ht
      have HT := hide ht
      clear ht e1
      rw [pnum_short n b hs]
      go_enter Try.func29, Try.ntmps29
      go_wp2_with (go_at_call 47; refine HT.out.mono ?_; rintro e w1 ⟨rfl, rfl⟩)
      go_ret
      exact ⟨rfl, _, ⟨h.blk.set_ 1 _, h.bs.chg ((Chg.refl [g] _).set (by simp) _) h.off, h.off, h.len⟩, (Chg.refl [g] _).set (by simp) _, fun S hS => hS⟩
    · have ht := rtake_b _ b n w (by omega) (by omega) h.bs
      rw [e1] at ht
      rw [pnum_ok n b hs]
      clear e1
      generalize val (b.take n) = V at *
      have HT := hide ht
      clear ht
      obtain ⟨i0, hi0, hz0, hz1, hz2⟩ := info_parts ti5
      have hsl := fun W => run_sl_l (P := Try.prog) (A := A) (n := b.length) (c := c) (kl := .i64) Try.underlying25 hi0 hz1 n rfl hs W
      go_enter Try.func29, Try.ntmps29
      go_wp2_with (go_at_call 47; refine HT.out.mono ?_; rintro e w1 ⟨rfl, rfl⟩)
      go_ret
      have hof : Off (.slice (cutA 1 A c n) (b.length - n) (c - n)) [g] := off_cut h.off (by omega)
      exact ⟨rfl, _, ⟨(h.blk.set_ 1 _).set_ 0 _, (h.bs.rest hs).chg (((Chg.refl [g] _).set (by simp) _).set (by simp) _) hof, hof, by simp; omega⟩, ((Chg.refl [g] _).set (by simp) _).set (by simp) _, fun S hS => off_cut hS (by omega)⟩
  · rw [pnum_bad n _ he]
    go_enter Try.func29, Try.ntmps29
    go_wp2
    go_ret
    exact ⟨rfl, RdTo.same h⟩
set_option maxHeartbeats 1600000 in
theorem rbytes_b (T : TypeId) (g : Nat) (v : Value) (s : Rdr) (w : World) (h : RdAt T w g v s) :
    Calls Try.prog 31 #[.pointer (some ⟨g, 0, none⟩)] w fun e w' => ∃ m A c, Hid (m = (ptext s).1) ∧ e = .returned (.slice A m.length c) ∧ Nw w w' (.slice A m.length c) m ∧ RdTo T w w' g v (ptext s).2 := by
  obtain ⟨b, e⟩ := s
  have c0 : w.cell? ⟨g, 0, none⟩ = some v := (h.blk.cell 0).trans rfl
  have c1 : w.cell? ⟨g, 1, none⟩ = some (.int .i64 e) := (h.blk.cell 1).trans rfl
  have hlb := h.len
  simp only at hlb
  by_cases he : e = 0
  · subst he
    obtain ⟨A, c, rfl, k1, k2, -⟩ := id h.bs
    obtain ⟨q, hq, hqb⟩ := otakeBytes_n b
    have HT := hide (rtakeBytes_b _ b w hlb h.bs)
    have HP : Hid (ptext (b, 0) = ((otakeBytes b).1, (b.drop (otakeBytes b).2.1.toNat, (otakeBytes b).2.2))) := by unfold Hid; exact if_pos rfl
    obtain ⟨i0, hi0, hz0, hz1, hz2⟩ := info_parts ti5
    have hsl := fun W => run_sl_l (P := Try.prog) (A := A) (n := b.length) (c := c) (kl := .i64) Try.underlying25 hi0 hz1 q rfl hqb W
    have HQ := hide hq
    clear hq
    go_enter Try.func31, Try.ntmps31
    go_wp2_with fail
    refine HT.out.mono ?_
    rintro e w1 ⟨m, Am, cm, n, k, hm, rfl, hz, hx1⟩
    have hnq : n = q := by rw [← HQ.out, ← hm.out]
    subst hnq
    have hB := h.blk.ext hx1
    have d0 : w1.cell? ⟨g, 0, none⟩ = some (.slice A b.length c) := (hB.cell 0).trans rfl
    have d1 : w1.cell? ⟨g, 1, none⟩ = some (.int .i64 0) := (hB.cell 1).trans rfl
    have f0 := hB.frozen 0
    have f1 := hB.frozen 1
    have hgl := h.blk.lt
    have hzo : Off (.slice Am m.length cm) [g] := hz.off (by simp; exact hgl)
    go_wp2
    go_ret
    have hof : Off (.slice (cutA 1 A c q) (b.length - q) (c - q)) [g] := off_cut h.off (by omega)
    rw [HP.out, ← hm.out]
    refine ⟨m, Am, cm, hide rfl, rfl, hz.chg (((Chg.refl [g] _).set (by simp) _).set (by simp) _) (fun k hk hk2 => ?_), _, ⟨(hB.set_ 0 _).set_ 1 _, ((h.bs.ext hx1).rest hqb).chg (((Chg.refl [g] _).set (by simp) _).set (by simp) _) hof, hof, by simp; omega⟩, ((hx1.chg [g]).set (by simp) _).set (by simp) _, fun S hS => off_cut hS (by omega)⟩
    have h1 := hz.lt k hk
    simp at hk2
    omega
  · rw [ptext_bad _ he]
    go_enter Try.func31, Try.ntmps31
    go_wp2
    go_ret
    exact ⟨[], none, 0, hide rfl, rfl, World.ownsRow_nil _ _ _ _, RdTo.same h⟩
theorem rfail_b (T : TypeId) (g : Nat) (v : Value) (s : Rdr) (w : World) (h : RdAt T w g v s) :
    Calls Try.prog 30 #[.pointer (some ⟨g, 0, none⟩), .int .i64 2] w fun e w' => e = .returned (.tuple #[]) ∧ RdTo T w w' g v (pform true s) := by
  obtain ⟨b, e⟩ := s
  have c1 : w.cell? ⟨g, 1, none⟩ = some (.int .i64 e) := (h.blk.cell 1).trans rfl
  have f1 := h.blk.frozen 1
  by_cases he : e = 0
  · subst he
    rw [pform_yes]
    go_enter Try.func30, Try.ntmps30
    go_wp2
    go_end0
    exact ⟨rfl, _, ⟨h.blk.set_ 1 _, h.bs.chg ((Chg.refl [g] _).set (by simp) _) h.off, h.off, h.len⟩, (Chg.refl [g] _).set (by simp) _, fun S hS => hS⟩
  · rw [pform_bad _ _ he]
    go_enter Try.func30, Try.ntmps30
    go_wp2
    go_end0
    exact ⟨rfl, RdTo.same h⟩
theorem rover_b (T : TypeId) (g : Nat) (v : Value) (s : Rdr) (w : World) (h : RdAt T w g v s) :
    Calls Try.prog 32 #[.pointer (some ⟨g, 0, none⟩)] w fun e w' => e = .returned (.int .i64 (pform (decide (0 < s.1.length)) s).2) ∧ RdTo T w w' g v (pform (decide (0 < s.1.length)) s) := by
  obtain ⟨b, e⟩ := s
  obtain ⟨A, c, rfl, -, -, -⟩ := id h.bs
  have c0 : w.cell? ⟨g, 0, none⟩ = some (.slice A b.length c) := (h.blk.cell 0).trans rfl
  have c1 : w.cell? ⟨g, 1, none⟩ = some (.int .i64 e) := (h.blk.cell 1).trans rfl
  have f1 := h.blk.frozen 1
  by_cases he : e = 0
  · subst he
    by_cases hb : 0 < b.length
    · rw [decide_eq_true hb, pform_yes]
      have hb2 : (0 : Int) < b.length := by omega
      go_enter Try.func32, Try.ntmps32
      go_wp2
      go_ret
      exact ⟨rfl, _, ⟨h.blk.set_ 1 _, h.bs.chg ((Chg.refl [g] _).set (by simp) _) h.off, h.off, h.len⟩, (Chg.refl [g] _).set (by simp) _, fun S hS => hS⟩
    · rw [decide_eq_false hb, pform_no]
      have hb2 : ¬ (0 : Int) < b.length := by omega
      go_enter Try.func32, Try.ntmps32
      go_wp2
      go_ret
      exact ⟨rfl, RdTo.same h⟩
  · rw [pform_bad _ _ he]
    go_enter Try.func32, Try.ntmps32
    go_wp2
    go_ret
    exact ⟨rfl, RdTo.same h⟩
end Go.Proofs.Ytccpbchcfgggmaa
