/- msg's cursor: numbers, bytes. -/
import Derived.Test.YtccpbchcfgggmaaMsg2
import Derived.Test.YtccpbchcfgggmaaCmd2
namespace Go.Proofs.Ytccpbchcfgggmaa
set_option linter.unusedVariables false
set_option linter.unusedSimpArgs false
set_option linter.unnecessarySimpa false
set_option maxRecDepth 100000
open Go.RowKit
/-- a letter's reader lies in block g: what is left to be read is the value v, the letter so far has the cells M -/
structure MAt (w : World) (g : Nat) (v : Value) (s : Rdr) (M : List Value) : Prop where
  blk : Blk w g 74 (v :: .int .i64 s.2 :: M).toArray
  bs : Bs w v s.1
  off : Off v [g]
  len : s.1.length ≤ 140737488350000
def MTo (w w' : World) (g : Nat) (v : Value) (s : Rdr) (M : List Value) : Prop := ∃ v', MAt w' g v' s M ∧ Chg [g] w w' ∧ ∀ S, Off v S → Off v' S
theorem MAt.ext {w w' : World} {g : Nat} {v : Value} {s : Rdr} {M : List Value} (h : MAt w g v s M) (hx : Ext w w') : MAt w' g v s M := ⟨h.blk.ext hx, h.bs.ext hx, h.off, h.len⟩
theorem MTo.same {w : World} {g : Nat} {v : Value} {s : Rdr} {M : List Value} (h : MAt w g v s M) : MTo w w g v s M := ⟨v, h, Chg.refl _ _, fun _ hS => hS⟩
theorem MAt.err {w : World} {g : Nat} {v : Value} {b : Bytes} {e : Int} {M : List Value} (h : MAt w g v (b, e) M) (k : Int) : MAt (w.setCell ⟨g, 1, none⟩ (.int .i64 k)) g v (b, k) M :=
  ⟨h.blk.set_ 1 _, h.bs.chg ((Chg.refl [g] _).set (by simp) _) h.off, h.off, h.len⟩
theorem MAt.set {w : World} {g : Nat} {v : Value} {s : Rdr} {M : List Value} (h : MAt w g v s M) (j : Nat) (u : Value) : MAt (w.setCell ⟨g, j + 2, none⟩ u) g v s (M.set j u) :=
  ⟨by have := h.blk.set_ (j + 2) u; simpa using this, h.bs.chg ((Chg.refl [g] _).set (by simp) _) h.off, h.off, h.len⟩
theorem MAt.cell {w : World} {g : Nat} {v : Value} {s : Rdr} {M : List Value} (h : MAt w g v s M) (j : Nat) : w.cell? ⟨g, j + 2, none⟩ = M[j]? := by
  rw [h.blk.cell]; simp
theorem MAt.c0 {w : World} {g : Nat} {v : Value} {s : Rdr} {M : List Value} (h : MAt w g v s M) : w.cell? ⟨g, 0, none⟩ = some v := by
  rw [h.blk.cell]; simp
theorem MAt.c1 {w : World} {g : Nat} {v : Value} {s : Rdr} {M : List Value} (h : MAt w g v s M) : w.cell? ⟨g, 1, none⟩ = some (.int .i64 s.2) := by
  rw [h.blk.cell]; simp
set_option maxHeartbeats 1600000 in
theorem mnum_b (g : Nat) (v : Value) (s : Rdr) (M : List Value) (n : Nat) (lo hi : Int) (w : World) (h : MAt w g v s M) (hn : n ≤ 8) :
    Calls Try.prog 51 #[.pointer (some ⟨g, 0, none⟩), .int .i64 n, .int .u64 lo, .int .u64 hi] w fun e w' =>
      e = .returned (.int .u64 (pnum n s).1) ∧ MTo w w' g v (pform (decide ((pnum n s).1 < lo ∨ hi < (pnum n s).1)) (pnum n s).2) M := by
  obtain ⟨b, e⟩ := s
  have c0 : w.cell? ⟨g, 0, none⟩ = some v := h.c0
  have c1 : w.cell? ⟨g, 1, none⟩ = some (.int .i64 e) := h.c1
  have f0 := h.blk.frozen 0
  have f1 := h.blk.frozen 1
  have hlb := h.len
  simp only at hlb
  by_cases he : e = 0
  · subst he
    obtain ⟨A, c, rfl, k1, k2, -⟩ := id h.bs
    rcases otake_cases b n hn with ⟨hs, e1⟩ | ⟨hs, e1⟩
    · have ht := take_b _ b n w (by omega) (by omega) h.bs
      rw [e1] at ht
      have HT := hide ht
      clear ht e1
      rw [pnum_short n b hs]
      rw [pform_bad _ _ (by show (3 : Int) ≠ 0; decide)]
      go_enter Try.func51, Try.ntmps51
      go_wp2_with (go_at_call 56; refine HT.out.mono ?_; rintro e w1 ⟨rfl, rfl⟩)
      go_ret
      exact ⟨rfl, _, h.err 3, (Chg.refl [g] _).set (by simp) _, fun S hS => hS⟩
    · have ht := take_b _ b n w (by omega) (by omega) h.bs
      rw [e1] at ht
      rw [pnum_ok n b hs]
      clear e1
      generalize val (b.take n) = V at *
      have HT := hide ht
      clear ht
      obtain ⟨i0, hi0, hz0, hz1, hz2⟩ := info_parts ti5
      have hsl := fun W => run_sl_l (P := Try.prog) (A := A) (n := b.length) (c := c) (kl := .i64) Try.underlying25 hi0 hz1 n rfl hs W
      have HOF : ∀ S, Off (.slice A b.length c) S → Off (.slice (cutA 1 A c n) (b.length - n) (c - n)) S := fun S hS => off_cut hS (by omega)
      have hof : Off (.slice (cutA 1 A c n) (b.length - n) (c - n)) [g] := HOF _ h.off
      have hM : MAt ((w.setCell ⟨g, 1, none⟩ (.int .i64 0)).setCell ⟨g, 0, none⟩ (.slice (cutA 1 A c n) (b.length - n) (c - n))) g (.slice (cutA 1 A c n) (b.length - n) (c - n)) (b.drop n, 0) M :=
        ⟨(h.blk.set_ 1 _).set_ 0 _, (h.bs.rest hs).chg (((Chg.refl [g] _).set (by simp) _).set (by simp) _) hof, hof, by simp; omega⟩
      have hch : Chg [g] w ((w.setCell ⟨g, 1, none⟩ (.int .i64 0)).setCell ⟨g, 0, none⟩ (.slice (cutA 1 A c n) (b.length - n) (c - n))) := ((Chg.refl [g] _).set (by simp) _).set (by simp) _
      by_cases hb : (V : Int) < lo
      · have e2 : decide ((V : Int) < lo ∨ hi < V) = true := decide_eq_true (.inl hb)
        simp only
        rw [e2, pform_yes]
        clear e2
        go_enter Try.func51, Try.ntmps51
        go_wp2_with (go_at_call 56; refine HT.out.mono ?_; rintro e w1 ⟨rfl, rfl⟩)
        go_ret
        exact ⟨rfl, _, hM.err 2, hch.set (by simp) _, HOF⟩
      · by_cases hc : hi < V
        · have e2 : decide ((V : Int) < lo ∨ hi < V) = true := decide_eq_true (.inr hc)
          simp only
          rw [e2, pform_yes]
          clear e2
          go_enter Try.func51, Try.ntmps51
          go_wp2_with (go_at_call 56; refine HT.out.mono ?_; rintro e w1 ⟨rfl, rfl⟩)
          go_ret
          exact ⟨rfl, _, hM.err 2, hch.set (by simp) _, HOF⟩
        · have e2 : decide ((V : Int) < lo ∨ hi < V) = false := decide_eq_false (by rintro (h1 | h1) <;> contradiction)
          simp only
          rw [e2, pform_no]
          clear e2
          go_enter Try.func51, Try.ntmps51
          go_wp2_with (go_at_call 56; refine HT.out.mono ?_; rintro e w1 ⟨rfl, rfl⟩)
          go_ret
          exact ⟨rfl, _, hM, hch, HOF⟩
  · rw [pnum_bad n _ he, pform_bad _ _ he]
    go_enter Try.func51, Try.ntmps51
    go_wp2
    go_ret
    exact ⟨rfl, MTo.same h⟩
set_option maxHeartbeats 1600000 in
theorem mbytes_b (g : Nat) (v : Value) (s : Rdr) (M : List Value) (w : World) (h : MAt w g v s M) :
    Calls Try.prog 54 #[.pointer (some ⟨g, 0, none⟩)] w fun e w' => ∃ m A c, Hid (m = (ptext s).1) ∧ e = .returned (.slice A m.length c) ∧ Nw w w' (.slice A m.length c) m ∧ MTo w w' g v (ptext s).2 M := by
  obtain ⟨b, e⟩ := s
  have c0 : w.cell? ⟨g, 0, none⟩ = some v := h.c0
  have c1 : w.cell? ⟨g, 1, none⟩ = some (.int .i64 e) := h.c1
  have hlb := h.len
  simp only at hlb
  by_cases he : e = 0
  · subst he
    obtain ⟨A, c, rfl, k1, k2, -⟩ := id h.bs
    obtain ⟨q, hq, hqb⟩ := otakeBytes_n b
    have HT := hide (takeBytes_b _ b w hlb h.bs)
    have HP : Hid (ptext (b, 0) = ((otakeBytes b).1, (b.drop (otakeBytes b).2.1.toNat, (otakeBytes b).2.2))) := by unfold Hid; exact if_pos rfl
    obtain ⟨i0, hi0, hz0, hz1, hz2⟩ := info_parts ti5
    have hsl := fun W => run_sl_l (P := Try.prog) (A := A) (n := b.length) (c := c) (kl := .i64) Try.underlying25 hi0 hz1 q rfl hqb W
    have HQ := hide hq
    clear hq
    go_enter Try.func54, Try.ntmps54
    go_wp2_with fail
    refine HT.out.mono ?_
    rintro e w1 ⟨m, Am, cm, n, k, hm, rfl, hz, hx1⟩
    have hnq : n = q := by rw [← HQ.out, ← hm.out]
    subst hnq
    have hB := h.ext hx1
    have d0 : w1.cell? ⟨g, 0, none⟩ = some (.slice A b.length c) := hB.c0
    have d1 : w1.cell? ⟨g, 1, none⟩ = some (.int .i64 0) := hB.c1
    have f0 := hB.blk.frozen 0
    have f1 := hB.blk.frozen 1
    have hgl := h.blk.lt
    have hzo : Off (.slice Am m.length cm) [g] := hz.off (by simp; exact hgl)
    go_wp2
    go_ret
    have hof : Off (.slice (cutA 1 A c q) (b.length - q) (c - q)) [g] := off_cut h.off (by omega)
    rw [HP.out, ← hm.out]
    refine ⟨m, Am, cm, hide rfl, rfl, hz.chg (((Chg.refl [g] _).set (by simp) _).set (by simp) _) (fun k hk hk2 => ?_), _, ⟨(hB.blk.set_ 0 _).set_ 1 _, ((h.bs.ext hx1).rest hqb).chg (((Chg.refl [g] _).set (by simp) _).set (by simp) _) hof, hof, by simp; omega⟩, ((hx1.chg [g]).set (by simp) _).set (by simp) _, fun S hS => off_cut hS (by omega)⟩
    have h1 := hz.lt k hk
    simp at hk2
    omega
  · rw [ptext_bad _ he]
    go_enter Try.func54, Try.ntmps54
    go_wp2
    go_ret
    exact ⟨[], none, 0, hide rfl, rfl, World.ownsRow_nil _ _ _ _, MTo.same h⟩
end Go.Proofs.Ytccpbchcfgggmaa
