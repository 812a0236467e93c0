import Derived.Test.YtboncnlcomeahaaPk21
import Derived.StillTailTactics
/- log's cursor. -/
namespace Go.Proofs.Ytboncnlcomeahaa
set_option linter.unusedVariables false
set_option linter.unusedSimpArgs false
set_option linter.unnecessarySimpa false
set_option maxRecDepth 100000
open Go.RowKit
abbrev Cur := Bytes × Bool
def lnum (n : Nat) (s : Cur) : Int × Cur := if s.1.length < n then (0, (s.1, false)) else (((val (s.1.take n) : Nat) : Int), (s.1.drop n, s.2))
/-- what a reader makes of bytes -/
def lrec (b : Bytes) : Rec × Cur :=
  if (lnum 1 (b, true)).1 = 1 then (⟨1, ⟨(lnum 8 (lnum 1 (b, true)).2).1, (lnum 1 (lnum 8 (lnum 1 (b, true)).2).2).1⟩, En0, 0, Sn0⟩, (lnum 1 (lnum 8 (lnum 1 (b, true)).2).2).2)
  else if (lnum 1 (b, true)).1 = 2 then (⟨2, Hd0, ⟨(lnum 8 (lnum 1 (b, true)).2).1, (lnum 8 (lnum 1 (b, true)).2).2.1⟩, 0, Sn0⟩, ([], (lnum 8 (lnum 1 (b, true)).2).2.2))
  else if (lnum 1 (b, true)).1 = 3 then (⟨3, Hd0, En0, (lnum 8 (lnum 1 (b, true)).2).1, Sn0⟩, (lnum 8 (lnum 1 (b, true)).2).2)
  else if (lnum 1 (b, true)).1 = 4 then (⟨4, Hd0, En0, 0, ⟨(lnum 8 (lnum 1 (b, true)).2).1, (lnum 8 (lnum 8 (lnum 1 (b, true)).2).2).1, (lnum 8 (lnum 8 (lnum 1 (b, true)).2).2).2.1⟩⟩, ([], (lnum 8 (lnum 8 (lnum 1 (b, true)).2).2).2.2))
  else (⟨(lnum 1 (b, true)).1, Hd0, En0, 0, Sn0⟩, (lnum 1 (b, true)).2)
theorem lnum_rng (n : Nat) (s : Cur) (hn : n ≤ 8) : 0 ≤ (lnum n s).1 ∧ (lnum n s).1 ≤ 18446744073709551615 := by
  unfold lnum
  split
  · exact ⟨Int.le_refl _, by show (0 : Int) ≤ _; decide⟩
  · rename_i h
    have hlt := val_lt (s.1.take n)
    have hln : (s.1.take n).length = n := by simp; omega
    rw [hln] at hlt
    have h8 : 256 ^ n ≤ 256 ^ 8 := Nat.pow_le_pow_right (by decide) hn
    simp only
    omega
theorem lnum_one (s : Cur) : (lnum 1 s).1 ≤ 255 := by
  unfold lnum
  split
  · show (0 : Int) ≤ 255
    decide
  · rename_i h
    have hlt := val_lt (s.1.take 1)
    have hln : (s.1.take 1).length = 1 := by simp; omega
    rw [hln] at hlt
    simp only
    omega
theorem lnum_bad (n : Nat) (b : Bytes) : (lnum n (b, false)).2.2 = false := by unfold lnum; split <;> rfl
theorem lnum_short {n : Nat} {b : Bytes} {o : Bool} (h : b.length < n) : lnum n (b, o) = (0, (b, false)) := if_pos h
theorem lnum_ok {n : Nat} {b : Bytes} {o : Bool} (h : n ≤ b.length) : lnum n (b, o) = (((val (b.take n) : Nat) : Int), (b.drop n, o)) := if_neg (by simp only; omega)
theorem lrec_orec (b : Bytes) : orec b = if (lrec b).2.2 = true ∧ (lrec b).2.1 = [] ∧ may (lrec b).1 = true then some (lrec b).1 else none := by
  by_cases h0 : b.length < 1
  · have e : lrec b = (⟨0, Hd0, En0, 0, Sn0⟩, (b, false)) := by
      unfold lrec
      simp only [lnum_short h0]
      rfl
    rw [e, if_neg (by simp), orec, if_pos (by omega)]
  · have e1 := lnum_ok (n := 1) (b := b) (o := true) (by omega)
    by_cases h9 : b.length < 9
    · have e8 := lnum_short (n := 8) (b := b.drop 1) (o := true) (by rw [List.length_drop]; omega)
      rw [orec, if_pos h9, if_neg]
      rintro ⟨h1, h2, h3⟩
      unfold lrec at h1 h2 h3
      simp only [e1, e8] at h1 h2 h3
      split at h1
      · rw [lnum_bad] at h1; cases h1
      · split at h1
        · cases h1
        · split at h1
          · cases h1
          · split at h1
            · rw [lnum_bad] at h1; cases h1
            · rename_i n1 n2 n3 n4
              rw [if_neg n1, if_neg n2, if_neg n3, if_neg n4] at h3
              unfold may at h3
              simp only at h3
              rw [if_neg n1] at h3
              simp at h3
              omega
    · have e8 := lnum_ok (n := 8) (b := b.drop 1) (o := true) (by rw [List.length_drop]; omega)
      have hd : (b.drop 1).drop 8 = b.drop 9 := by rw [List.drop_drop]
      rw [hd] at e8
      by_cases k1 : val (b.take 1) = 1
      · have E : lrec b = (⟨1, ⟨val ((b.drop 1).take 8), (lnum 1 (b.drop 9, true)).1⟩, En0, 0, Sn0⟩, (lnum 1 (b.drop 9, true)).2) := by
          unfold lrec; simp only [e1, e8]; rw [if_pos (by omega)]
        have O : orec b = if (b.drop 9).length = 1 ∧ val (b.drop 9) ≤ 7 then some ⟨1, ⟨val ((b.drop 1).take 8), val (b.drop 9)⟩, En0, 0, Sn0⟩ else none := by rw [orec, if_neg h9, if_pos k1]
        rw [O]
        by_cases hl : (b.drop 9).length < 1
        · rw [lnum_short hl] at E
          rw [E, if_neg (by omega), if_neg (by simp)]
        · rw [lnum_ok (by omega)] at E
          rw [E]
          by_cases hl2 : (b.drop 9).length = 1
          · have ht : (b.drop 9).take 1 = b.drop 9 := List.take_of_length_le (by omega)
            have hd2 : (b.drop 9).drop 1 = [] := List.drop_eq_nil_of_le (by omega)
            rw [ht, hd2]
            by_cases hv : val (b.drop 9) ≤ 7
            · rw [if_pos ⟨hl2, hv⟩, if_pos ⟨rfl, rfl, by unfold may; simp; omega⟩]
            · rw [if_neg (by omega), if_neg]
              rintro ⟨-, -, h3⟩
              unfold may at h3
              simp at h3
              omega
          · rw [if_neg (by omega), if_neg]
            rintro ⟨-, h2, -⟩
            have := congrArg List.length h2
            rw [List.length_drop, List.length_nil] at this
            omega
      · by_cases k2 : val (b.take 1) = 2
        · have E : lrec b = (⟨2, Hd0, ⟨val ((b.drop 1).take 8), b.drop 9⟩, 0, Sn0⟩, ([], true)) := by
            unfold lrec; simp only [e1, e8]; rw [if_neg (by omega), if_pos (by omega)]
          rw [E, if_pos ⟨rfl, rfl, rfl⟩, orec, if_neg h9, if_neg k1, if_pos k2]
        · by_cases k3 : val (b.take 1) = 3
          · have E : lrec b = (⟨3, Hd0, En0, val ((b.drop 1).take 8), Sn0⟩, (b.drop 9, true)) := by
              unfold lrec; simp only [e1, e8]; rw [if_neg (by omega), if_neg (by omega), if_pos (by omega)]
            have O : orec b = if (b.drop 9).length = 0 then some ⟨3, Hd0, En0, val ((b.drop 1).take 8), Sn0⟩ else none := by rw [orec, if_neg h9, if_neg k1, if_neg k2, if_pos k3]
            rw [E, O]
            by_cases hl : (b.drop 9).length = 0
            · rw [if_pos hl, if_pos ⟨rfl, List.eq_nil_of_length_eq_zero hl, rfl⟩]
            · rw [if_neg hl, if_neg]
              rintro ⟨-, h2, -⟩
              exact hl (by rw [show b.drop 9 = [] from h2]; rfl)
          · by_cases k4 : val (b.take 1) = 4
            · have E : lrec b = (⟨4, Hd0, En0, 0, ⟨val ((b.drop 1).take 8), (lnum 8 (b.drop 9, true)).1, (lnum 8 (b.drop 9, true)).2.1⟩⟩, ([], (lnum 8 (b.drop 9, true)).2.2)) := by
                unfold lrec; simp only [e1, e8]; rw [if_neg (by omega), if_neg (by omega), if_neg (by omega), if_pos (by omega)]
              have O : orec b = if 8 ≤ (b.drop 9).length then some ⟨4, Hd0, En0, 0, ⟨val ((b.drop 1).take 8), val ((b.drop 9).take 8), (b.drop 9).drop 8⟩⟩ else none := by rw [orec, if_neg h9, if_neg k1, if_neg k2, if_neg k3, if_pos k4]
              rw [O]
              by_cases hl : 8 ≤ (b.drop 9).length
              · rw [lnum_ok hl] at E
                rw [E, if_pos hl, if_pos ⟨rfl, rfl, rfl⟩]
              · rw [lnum_short (by omega)] at E
                rw [E, if_neg hl, if_neg (by simp)]
            · have E : lrec b = (⟨val (b.take 1), Hd0, En0, 0, Sn0⟩, (b.drop 1, true)) := by
                unfold lrec; simp only [e1, e8]; rw [if_neg (by omega), if_neg (by omega), if_neg (by omega), if_neg (by omega)]
              have O : orec b = none := by rw [orec, if_neg h9, if_neg k1, if_neg k2, if_neg k3, if_neg k4]
              rw [E, O, if_neg]
              rintro ⟨-, -, h3⟩
              unfold may at h3
              simp only at h3
              rw [if_neg (by omega)] at h3
              simp at h3
              omega
/-- a cursor that lies in block g -/
structure CurAt (T : TypeId) (w : World) (g : Nat) (v : Value) (s : Cur) : Prop where
  blk : Blk w g T #[v, .bool s.2]
  bs : Bs w v s.1
  off : Off v [g]
  len : s.1.length ≤ 140737488350000
def CurTo (T : TypeId) (w w' : World) (g : Nat) (v : Value) (s : Cur) : Prop := ∃ v', CurAt T w' g v' s ∧ Chg [g] w w' ∧ ∀ S, Off v S → Off v' S
theorem CurAt.ext {T : TypeId} {w w' : World} {g : Nat} {v : Value} {s : Cur} (h : CurAt T w g v s) (hx : Ext w w') : CurAt T w' g v s := ⟨h.blk.ext hx, h.bs.ext hx, h.off, h.len⟩
theorem CurAt.chg {S : List Nat} {T : TypeId} {w w' : World} {g : Nat} {v : Value} {s : Cur} (h : CurAt T w g v s) (hx : Chg S w w') (hg : g ∉ S) (hv : Off v S) : CurAt T w' g v s :=
  ⟨h.blk.chg hx hg, h.bs.chg hx hv, h.off, h.len⟩
theorem off_cut {A : Option Addr} {c l n c' m : Nat} {S : List Nat} (h : Off (.slice A m c) S) (hn : 0 < n → 0 < m) : Off (.slice (cutA 1 A c l) n c') S := by
  rintro ad k c2 he h0
  simp only [Value.slice.injEq] at he
  obtain ⟨e1, rfl, rfl⟩ := he
  unfold cutA at e1
  rcases A with _ | a
  · split at e1 <;> simp at e1
  · have hb : ad.block = a.block := by
      split at e1
      · rw [Option.some.inj e1]
      · simp only [Option.map_some, Option.some.injEq] at e1
        rw [← e1]
        unfold Addr.add
        split <;> rfl
    rw [hb]
    exact h a m c rfl (hn h0)
set_option maxHeartbeats 1600000 in
theorem cnum_b (T : TypeId) (g : Nat) (v : Value) (s : Cur) (n : Nat) (w : World) (h : CurAt T w g v s) (hn : n ≤ 8) :
    Calls Try.prog 79 #[.pointer (some ⟨g, 0, none⟩), .int .i64 n] w fun e w' => e = .returned (.int .u64 (lnum n s).1) ∧ CurTo T w w' g v (lnum n s).2 := by
  obtain ⟨b, e⟩ := s
  have c0 : w.cell? ⟨g, 0, none⟩ = some v := (h.blk.cell 0).trans rfl
  have c1 : w.cell? ⟨g, 1, none⟩ = some (.bool e) := (h.blk.cell 1).trans rfl
  have f0 := h.blk.frozen 0
  have f1 := h.blk.frozen 1
  have hlb := h.len
  simp only at hlb
  obtain ⟨A, c, rfl, k1, k2, -⟩ := id h.bs
  rcases otake_cases b n hn with ⟨hs, e1⟩ | ⟨hs, e1⟩
  · have ht := take_b _ b n w (by omega) (by omega) h.bs
    rw [e1] at ht
    have HT := hide ht
    clear ht e1
    rw [lnum_short hs]
    go_enter Try.func79, Try.ntmps79
    go_wp2_with (go_at_call 77; refine HT.out.mono ?_; rintro e w1 ⟨rfl, rfl⟩)
    go_ret
    exact ⟨rfl, _, ⟨h.blk.set_ 1 _, h.bs.chg ((Chg.refl [g] _).set (by simp) _) h.off, h.off, h.len⟩, (Chg.refl [g] _).set (by simp) _, fun S hS => hS⟩
  · have ht := take_b _ b n w (by omega) (by omega) h.bs
    rw [e1] at ht
    rw [lnum_ok hs]
    clear e1
    generalize val (b.take n) = V at *
    have HT := hide ht
    clear ht
    obtain ⟨i0, hi0, hz0, hz1, hz2⟩ := info_parts ti5
    have hsl := fun W => run_sl_l (P := Try.prog) (A := A) (n := b.length) (c := c) (kl := .i64) Try.underlying28 hi0 hz1 n rfl hs W
    go_enter Try.func79, Try.ntmps79
    go_wp2_with (go_at_call 77; refine HT.out.mono ?_; rintro e w1 ⟨rfl, rfl⟩)
    go_ret
    have hof : Off (.slice (cutA 1 A c n) (b.length - n) (c - n)) [g] := off_cut h.off (by omega)
    exact ⟨rfl, _, ⟨h.blk.set_ 0 _, (h.bs.rest hs).chg ((Chg.refl [g] _).set (by simp) _) hof, hof, by simp; omega⟩, (Chg.refl [g] _).set (by simp) _, fun S hS => off_cut hS (by omega)⟩
set_option maxHeartbeats 800000 in
theorem crest_b (T : TypeId) (g : Nat) (v : Value) (s : Cur) (w : World) (h : CurAt T w g v s) :
    Calls Try.prog 80 #[.pointer (some ⟨g, 0, none⟩)] w fun e w' => (∃ (m : Bytes) (A : Option Addr) (c : Nat), Hid (m = s.1) ∧ e = .returned (.slice A m.length c) ∧ Nw w w' (.slice A m.length c) m) ∧ CurTo T w w' g v ([], s.2) := by
  obtain ⟨b, e⟩ := s
  have c0 : w.cell? ⟨g, 0, none⟩ = some v := (h.blk.cell 0).trans rfl
  have hlb := h.len
  simp only at hlb
  have hgl := h.blk.lt
  go_enter Try.func80, Try.ntmps80
  go_wp2_with fail
  refine (clone_b v b w (by omega) h.bs).mono ?_
  rintro e1 w1 ⟨m, A, c, hm, rfl, hz, hx⟩
  have hB := h.blk.ext hx
  have d0 := (hB.cell 0).trans rfl
  have f0 := hB.frozen 0
  go_wp2
  go_ret
  have hc : Chg [g] w1 (w1.setCell ⟨g, 0, none⟩ (.slice none 0 0)) := (Chg.refl [g] _).set (by simp) _
  refine ⟨⟨m, A, c, hm, rfl, hz.chg hc fun k hk => ?_⟩, _, ⟨hB.set_ 0 _, Bs.nil _, Off.nil _ _, by simp⟩, (hx.chg _).trans hc, fun S hS => Off.nil _ _⟩
  have := (hz.lt k hk).1
  simp
  omega
end Go.Proofs.Ytboncnlcomeahaa

