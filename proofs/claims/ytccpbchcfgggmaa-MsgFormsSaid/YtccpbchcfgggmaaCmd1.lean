/- Readers of bytes, as cmd and shortcutref17 have them. -/
import Derived.Test.YtccpbchcfgggmaaCmd0
import Derived.Test.YtccpbchcfgggmaaRef1
import Derived.StillTailTactics
namespace Go.Proofs.Ytccpbchcfgggmaa
set_option linter.unusedVariables false
set_option linter.unusedSimpArgs false
set_option linter.unnecessarySimpa false
set_option maxRecDepth 100000
open Go.RowKit
/-- a reader that lies in block g; what is left to be read is the value v -/
structure RdAt (T : TypeId) (w : World) (g : Nat) (v : Value) (s : Rdr) : Prop where
  blk : Blk w g T #[v, .int .i64 s.2]
  bs : Bs w v s.1
  off : Off v [g]
  len : s.1.length ≤ 140737488350000
def RdTo (T : TypeId) (w w' : World) (g : Nat) (v : Value) (s : Rdr) : Prop := ∃ v', RdAt T w' g v' s ∧ Chg [g] w w' ∧ ∀ S, Off v S → Off v' S
theorem RdAt.ext {T : TypeId} {w w' : World} {g : Nat} {v : Value} {s : Rdr} (h : RdAt T w g v s) (hx : Ext w w') : RdAt T w' g v s := ⟨h.blk.ext hx, h.bs.ext hx, h.off, h.len⟩
theorem RdAt.chg {S : List Nat} {T : TypeId} {w w' : World} {g : Nat} {v : Value} {s : Rdr} (h : RdAt T w g v s) (hx : Chg S w w') (hg : g ∉ S) (hv : Off v S) : RdAt T w' g v s :=
  ⟨h.blk.chg hx hg, h.bs.chg hx hv, h.off, h.len⟩
theorem RdTo.same {T : TypeId} {w : World} {g : Nat} {v : Value} {s : Rdr} (h : RdAt T w g v s) : RdTo T w w g v s := ⟨v, h, Chg.refl _ _, fun _ hS => hS⟩
theorem own_cut {A : Option Addr} {c l n k c' m : Nat} (h : (Value.slice (cutA 1 A c l) n c').ownBlock = some k) : (Value.slice A m c).ownBlock = some k := by
  unfold cutA at h
  rcases A with _ | a
  · split at h <;> simp [Value.ownBlock] at h
  · split at h
    · exact h
    · simp only [Option.map_some, Value.ownBlock] at h ⊢
      rw [← h]
      simp [block_of_add]
theorem off_cut {A : Option Addr} {c l n c' m : Nat} {S : List Nat} (h : Off (.slice A m c) S) (hn : 0 < n → 0 < m) : Off (.slice (cutA 1 A c l) n c') S := by
  rintro ad k c2 he h0
  simp only [Value.slice.injEq] at he
  obtain ⟨e1, rfl, rfl⟩ := he
  unfold cutA at e1
  rcases A with _ | a
  · split at e1 <;> simp at e1
  · have hb : ad.block = a.block := by
      split at e1
      · rw [Option.some.inj e1]
      · simp only [Option.map_some, Option.some.injEq] at e1
        rw [← e1, block_of_add]
    rw [hb]
    exact h a m c rfl (hn h0)
theorem pnum_ok (n : Nat) (b : Bytes) (h : n ≤ b.length) : pnum n (b, 0) = (((val (b.take n) : Nat) : Int), (b.drop n, 0)) := by
  unfold pnum; rw [if_pos rfl, if_neg (by simp only; omega)]
theorem otakeBytes_n (b : Bytes) : ∃ q : Nat, (otakeBytes b).2.1 = q ∧ q ≤ b.length := by
  unfold otakeBytes
  split
  · exact ⟨0, rfl, Nat.zero_le _⟩
  · exact ⟨_, rfl, by omega⟩
set_option maxHeartbeats 1600000 in
theorem num_b (T : TypeId) (g : Nat) (v : Value) (s : Rdr) (n : Nat) (w : World) (h : RdAt T w g v s) (hn : n ≤ 8) :
    Calls Try.prog 45 #[.pointer (some ⟨g, 0, none⟩), .int .i64 n] w fun e w' => e = .returned (.int .u64 (pnum n s).1) ∧ RdTo T w w' g v (pnum n s).2 := by
  obtain ⟨b, e⟩ := s
  have c0 : w.cell? ⟨g, 0, none⟩ = some v := (h.blk.cell 0).trans rfl
  have c1 : w.cell? ⟨g, 1, none⟩ = some (.int .i64 e) := (h.blk.cell 1).trans rfl
  have f0 := h.blk.frozen 0
  have f1 := h.blk.frozen 1
  have hlb := h.len
  simp only at hlb
  by_cases he : e = 0
  · subst he
    obtain ⟨A, c, rfl, k1, k2, -⟩ := id h.bs
    rcases otake_cases b n hn with ⟨hs, e1⟩ | ⟨hs, e1⟩
    · have ht := take_b _ b n w (by omega) (by omega) h.bs
      rw [e1] at ht
      have HT := hide ht
      clear ht e1
      rw [pnum_short n b hs]
      go_enter Try.func45, Try.ntmps45
      go_wp2_with (go_at_call 56; refine HT.out.mono ?_; rintro e w1 ⟨rfl, rfl⟩)
      go_ret
      exact ⟨rfl, _, ⟨h.blk.set_ 1 _, h.bs.chg ((Chg.refl [g] _).set (by simp) _) h.off, h.off, h.len⟩, (Chg.refl [g] _).set (by simp) _, fun S hS => hS⟩
    · have ht := take_b _ b n w (by omega) (by omega) h.bs
      rw [e1] at ht
      rw [pnum_ok n b hs]
      clear e1
      generalize val (b.take n) = V at *
      have HT := hide ht
      clear ht
      obtain ⟨i0, hi0, hz0, hz1, hz2⟩ := info_parts ti5
      have hsl := fun W => run_sl_l (P := Try.prog) (A := A) (n := b.length) (c := c) (kl := .i64) Try.underlying25 hi0 hz1 n rfl hs W
      go_enter Try.func45, Try.ntmps45
      go_wp2_with (go_at_call 56; refine HT.out.mono ?_; rintro e w1 ⟨rfl, rfl⟩)
      go_ret
      have hof : Off (.slice (cutA 1 A c n) (b.length - n) (c - n)) [g] := off_cut h.off (by omega)
      exact ⟨rfl, _, ⟨(h.blk.set_ 1 _).set_ 0 _, (h.bs.rest hs).chg (((Chg.refl [g] _).set (by simp) _).set (by simp) _) hof, hof, by simp; omega⟩, ((Chg.refl [g] _).set (by simp) _).set (by simp) _, fun S hS => off_cut hS (by omega)⟩
  · rw [pnum_bad n _ he]
    go_enter Try.func45, Try.ntmps45
    go_wp2
    go_ret
    exact ⟨rfl, RdTo.same h⟩
set_option maxHeartbeats 1600000 in
theorem text_b (T : TypeId) (g : Nat) (v : Value) (s : Rdr) (w : World) (h : RdAt T w g v s) :
    Calls Try.prog 46 #[.pointer (some ⟨g, 0, none⟩)] w fun e w' => e = .returned (str (ptext s).1) ∧ RdTo T w w' g v (ptext s).2 := by
  obtain ⟨b, e⟩ := s
  have c0 : w.cell? ⟨g, 0, none⟩ = some v := (h.blk.cell 0).trans rfl
  have c1 : w.cell? ⟨g, 1, none⟩ = some (.int .i64 e) := (h.blk.cell 1).trans rfl
  have hlb := h.len
  simp only at hlb
  by_cases he : e = 0
  · subst he
    obtain ⟨A, c, rfl, k1, k2, -⟩ := id h.bs
    obtain ⟨q, hq, hqb⟩ := otakeBytes_n b
    have HT := hide (takeBytes_b _ b w hlb h.bs)
    have HP : Hid (ptext (b, 0) = ((otakeBytes b).1, (b.drop (otakeBytes b).2.1.toNat, (otakeBytes b).2.2))) := by unfold Hid; exact if_pos rfl
    obtain ⟨i0, hi0, hz0, hz1, hz2⟩ := info_parts ti5
    have hsl := fun W => run_sl_l (P := Try.prog) (A := A) (n := b.length) (c := c) (kl := .i64) Try.underlying25 hi0 hz1 q rfl hqb W
    have HQ := hide hq
    clear hq
    go_enter Try.func46, Try.ntmps46
    go_wp2_with fail
    refine HT.out.mono ?_
    rintro e w1 ⟨m, Am, cm, n, k, hm, rfl, hz, hx1⟩
    have hnq : n = q := by rw [← HQ.out, ← hm.out]
    subst hnq
    have hB := h.blk.ext hx1
    have d0 : w1.cell? ⟨g, 0, none⟩ = some (.slice A b.length c) := (hB.cell 0).trans rfl
    have d1 : w1.cell? ⟨g, 1, none⟩ = some (.int .i64 0) := (hB.cell 1).trans rfl
    have f0 := hB.frozen 0
    have f1 := hB.frozen 1
    have hgl := h.blk.lt
    have hzo : Off (.slice Am m.length cm) [g] := hz.off (by simp; exact hgl)
    have hs3 := run_str (P := Try.prog) (hz.bs.chg (((Chg.refl [g] w1).set (p := ⟨g, 0, none⟩) (by simp) (.slice (cutA 1 A c q) (b.length - q) (c - q))).set (p := ⟨g, 1, none⟩) (by simp) (.int .i64 k)) hzo) Try.underlying25 Try.underlying5 Try.underlying9
    go_wp2
    go_ret
    have hof : Off (.slice (cutA 1 A c q) (b.length - q) (c - q)) [g] := off_cut h.off (by omega)
    rw [HP.out, ← hm.out]
    exact ⟨rfl, _, ⟨(hB.set_ 0 _).set_ 1 _, ((h.bs.ext hx1).rest hqb).chg (((Chg.refl [g] _).set (by simp) _).set (by simp) _) hof, hof, by simp; omega⟩, ((hx1.chg [g]).set (by simp) _).set (by simp) _, fun S hS => off_cut hS (by omega)⟩
  · rw [ptext_bad _ he]
    go_enter Try.func46, Try.ntmps46
    go_wp2
    go_ret
    exact ⟨rfl, RdTo.same h⟩
end Go.Proofs.Ytccpbchcfgggmaa
