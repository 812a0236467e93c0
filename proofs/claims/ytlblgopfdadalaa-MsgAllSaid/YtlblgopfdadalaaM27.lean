/- A part of the proof of 'MsgAll'. -/
import Derived.Test.YtlblgopfdadalaaM5
import Derived.ArgAppend
import Derived.Test.YtlblgopfdadalaaM18
import Derived.Test.YtlblgopfdadalaaM9
import Derived.Test.YtlblgopfdadalaaM8
import Derived.Deep.DeepCutAuto
namespace Go.Proofs.Ytlblgopfdadalaa
set_option linter.unusedVariables false
set_option linter.unusedSimpArgs false
set_option linter.unnecessarySimpa false
set_option maxRecDepth 100000
open Go.RowKit
section
variable {α : Type} {T : TypeId} {E : Enc α} {w0 w : World} {X : Avoid} {l m : List α} {A : Option Addr} {c : Nat}
theorem run_ownA {z : Value} {bytes : Nat} (ei : Elt T E z bytes) (t ty : TypeId) (ht : Try.prog.underlying t = some (.slice T)) (h : Own T E w0 w X (.slice A l.length c) l) (hroom : l.length + m.length ≤ c) (hm : 0 < m.length) (hx0 : Ext w0 w)
    {y : Value} (hy : Enc.Sl E w (fun k => X k ∨ (Value.slice A l.length c).ownBlock = some k) y m) (hX : ¬ X w.heap.size) (hlen : (l.length + m.length) * bytes ≤ 140737488355328) (hl2 : l.length + m.length ≤ 140737488355328) :
    ∃ w', (Builtin.append_ #[t, t] ty #[.slice A l.length c, y]).run Try.prog w = .ok (.slice A (l.length + m.length) c) w' ∧ Own T E w0 w' X (.slice A (l.length + m.length) c) (l ++ m) ∧ Chg (Value.slice A l.length c).ownBlock.toList w w' := by
  obtain ⟨v', w', hrun, hown, hx, hc, hb⟩ := run_own ei t ty ht h hx0 hy hX hlen hl2
  obtain ⟨css, h1, h2, h3⟩ := id h
  obtain ⟨A', c', cs2, rfl, k1, k2, k3, k4, k5⟩ := id hy
  obtain ⟨i0, hi, hz0, hz1, hz2⟩ := info_parts ei.info
  obtain ⟨ad, rfl, hb2, hcell⟩ := k3.2 hm
  rcases h1.2 with ⟨hv, h4⟩ | ⟨g, cap, cur, hv, hgw, hh, e3, e4, e5, e6⟩
  · simp only [Value.slice.injEq] at hv
    omega
  · simp only [Value.slice.injEq, true_and] at hv
    obtain ⟨rfl, rfl⟩ := hv
    have hB : Blk w g T cur := hh
    have hsz : (l.length + m.length) * i0.size ≤ c * i0.size := Nat.mul_le_mul_right _ hroom
    have hroomc := run_append_room_cells (P := Try.prog) w t ty T i0 ht hi g 0 l.length c ad m.length c' cs2.flatten (by rw [hz1]; exact k3.1) hcell k5.one hroom (fun j hj => by
      rw [hB.cell]
      have : 0 + l.length * i0.size + j < cur.size := by
        rw [Nat.add_mul] at hsz
        rw [k3.1, ← hz1] at hj
        rw [e5, ← hz1]
        omega
      rw [Array.getElem?_eq_getElem this]
      rfl) (fun j hj => hB.frozen _)
    rw [hroomc] at hrun
    injection hrun with e1 e2
    subst e1 e2
    exact ⟨_, hroomc, hown, hc⟩
theorem run_ownB {z : Value} {bytes : Nat} (ei : Elt T E z bytes) (t ty : TypeId) (ht : Try.prog.underlying t = some (.slice T)) (h : Own T E w0 w X (.slice A l.length c) l) (hroom : ¬ l.length + m.length ≤ c) (hm : 0 < m.length) (hx0 : Ext w0 w)
    {y : Value} (hy : Enc.Sl E w (fun k => X k ∨ (Value.slice A l.length c).ownBlock = some k) y m) (hX : ¬ X w.heap.size) (hlen : (l.length + m.length) * bytes ≤ 140737488355328) (hl2 : l.length + m.length ≤ 140737488355328) :
    ∃ v' w', (Builtin.append_ #[t, t] ty #[.slice A l.length c, y]).run Try.prog w = .ok v' w' ∧ Own T E w0 w' X v' (l ++ m) ∧ Ext w w' := by
  obtain ⟨v', w', hrun, hown, hx, hc, hb⟩ := run_own ei t ty ht h hx0 hy hX hlen hl2
  refine ⟨v', w', hrun, hown, ?_⟩
  obtain ⟨css, h1, h2, h3⟩ := id h
  obtain ⟨A', c', cs2, rfl, k1, k2, k3, k4, k5⟩ := id hy
  obtain ⟨i0, hi, hz0, hz1, hz2⟩ := info_parts ei.info
  obtain ⟨ad, rfl, hb2, hcell⟩ := k3.2 hm
  cases A with
  | none => exact ⟨hc.os, hc.tape, hc.output, hc.size, fun k hk => hc.block k hk (by simp [Value.ownBlock])⟩
  | some a0 =>
    have hr := Reads.of_own h1
    obtain ⟨v2, w2, hrun2, hown2, hg⟩ := run_append_arg_grows (P := Try.prog) w t ty T i0 z E.size bytes ht hi hz0 hz1 hz2 ei.zs ei.pos a0 l.length c css.flatten hr.1 (by
      intro j u hj
      rcases Nat.eq_zero_or_pos l.length with h0 | h0
      · have := hr.1
        rw [h0, Nat.zero_mul, List.length_eq_zero_iff] at this
        rw [this] at hj
        simp at hj
      · obtain ⟨a1, e1, -, h9⟩ := hr.2 h0
        obtain rfl := Option.some.inj e1
        exact h9 j u hj) ad m.length c' cs2.flatten k3.1 hcell (by omega) (by simp [maxLen]; omega) hlen
    rw [hrun] at hrun2
    injection hrun2 with e1 e2
    subst e1 e2
    exact ⟨hg.os, hg.tape, hg.output, hg.size, fun k hk => hg.block k hk (by simp)⟩
end
end Go.Proofs.Ytlblgopfdadalaa
namespace Go.Proofs.Ytlblgopfdadalaa
set_option linter.unusedVariables false
set_option linter.unusedSimpArgs false
set_option linter.unnecessarySimpa false
set_option maxRecDepth 100000
open Go.RowKit
theorem signed_b (v : Int) (w : World) (h : 0 ≤ v ∧ v ≤ 65535) : Calls Try.prog 34 #[.int .u64 v] w fun e w' => e = .returned (.int .i64 (sign2 v)) ∧ w = w' := by
  have hw1 : IntKind.i64.wrap v = v := IntWalk.i64_in _ ⟨by omega, by omega⟩
  have hw2 : IntKind.i64.wrap (v - 65536) = v - 65536 := IntWalk.i64_in _ ⟨by omega, by omega⟩
  by_cases hv : (32768 : Int) ≤ v
  · have HS : Hid (sign2 v = v - 65536) := hide (if_pos hv)
    go_enter Try.func34, Try.ntmps34
    go_wp2
    go_ret
    rw [HS.out]
    exact ⟨rfl, rfl⟩
  · have HS : Hid (sign2 v = v) := hide (if_neg hv)
    go_enter Try.func34, Try.ntmps34
    go_wp2
    go_ret
    rw [HS.out]
    exact ⟨rfl, rfl⟩
section
variable {w0 : World} {g gm : Nat} {v0 : Value} {s s' : Rdr} {m m' : Mg} {ve vs ve' vs' : Value} {W W' : World}
/-- while a letter is read: the reader in g, the letter in gm -/
structure TZ (w0 : World) (g gm : Nat) (v0 : Value) (s : Rdr) (m : Mg) (ve vs : Value) (W : World) : Prop where
  rd : ∃ v', RdAt 82 W g v' s ∧ ∀ S, Off v0 S → Off v' S
  bm : Blk W gm 33 (mgcells m ve vs).toArray
  en : Enc.Sl enE W (fun k => k < w0.heap.size) ve m.ents
  st : Enc.BsX W (fun k => k < w0.heap.size) vs m.snap.state
  ch : Chg [g, gm] w0 W
  lt : g < w0.heap.size ∧ gm < w0.heap.size ∧ g ≠ gm
  off : ∀ S, (∀ k ∈ S, gm ≤ k) → Off v0 S
theorem TZ.mv {v : Value} (h : TZ w0 g gm v0 s m ve vs W) (ho : ∀ S, Off v0 S → Off v S) (hr : RdTo 82 W W' g v s') : TZ w0 g gm v0 s' m ve vs W' := by
  obtain ⟨v2, r2, c2, o2⟩ := hr
  have hl := h.lt
  exact ⟨⟨v2, r2, fun S hS => o2 _ (ho _ hS)⟩, h.bm.chg c2 (by simp; omega), h.en.chg c2 (fun k hk _ => by rw [List.mem_singleton.1 hk]; exact hl.1), h.st.chg c2 (fun k hk _ => by rw [List.mem_singleton.1 hk]; exact hl.1), h.ch.trans (c2.mono (by simp)), hl, h.off⟩
theorem TZ.ext (h : TZ w0 g gm v0 s m ve vs W) (hx : Ext W W') : TZ w0 g gm v0 s m ve vs W' := by
  obtain ⟨v, hv, ho⟩ := h.rd
  exact ⟨⟨v, hv.ext hx, ho⟩, h.bm.ext hx, h.en.ext hx, h.st.ext hx, h.ch.trans (hx.chg _), h.lt, h.off⟩
theorem TZ.num (h : TZ w0 g gm v0 s m ve vs W) (n : Nat) (hn : n ≤ 8) {k : Int} (hP : pnum n s = (k, s')) :
    Calls Try.prog 32 #[.pointer (some ⟨g, 0, none⟩), .int .i64 n] W fun e W' => e = .returned (.int .u64 k) ∧ TZ w0 g gm v0 s' m ve vs W' := by
  obtain ⟨v, hv, ho⟩ := h.rd
  have h1 := rnum_b 82 g v s n W hv hn
  rw [hP] at h1
  exact h1.mono fun e W' h2 => ⟨h2.1, h.mv ho h2.2⟩
theorem TZ.bytes (h : TZ w0 g gm v0 s m ve vs W) {d : Bytes} (hP : ptext s = (d, s')) :
    Calls Try.prog 35 #[.pointer (some ⟨g, 0, none⟩)] W fun e W' => ∃ A c, e = .returned (.slice A d.length c) ∧ Enc.BsX W' (fun k => k < w0.heap.size) (.slice A d.length c) d ∧ TZ w0 g gm v0 s' m ve vs W' ∧ Nw W W' (.slice A d.length c) d := by
  obtain ⟨v, hv, ho⟩ := h.rd
  have h1 := rbytes_b 82 g v s W hv
  rw [hP] at h1
  refine h1.mono ?_
  rintro e W' ⟨q, A, c, hq, rfl, hz, hr⟩
  have hq' := hq.out
  subst hq'
  exact ⟨A, c, rfl, Enc.BsX.nw hz (fun k hk => Nat.lt_of_lt_of_le hk h.ch.size), h.mv ho hr, hz⟩
theorem TZ.fail (h : TZ w0 g gm v0 s m ve vs W) : Calls Try.prog 33 #[.pointer (some ⟨g, 0, none⟩), .int .i64 2] W fun e W' => e = .returned (.tuple #[]) ∧ TZ w0 g gm v0 (pform true s) m ve vs W' := by
  obtain ⟨v, hv, ho⟩ := h.rd
  exact (rfail_b 82 g v s W hv).mono fun e W' h2 => ⟨h2.1, h.mv ho h2.2⟩
theorem TZ.over (h : TZ w0 g gm v0 s m ve vs W) : Calls Try.prog 37 #[.pointer (some ⟨g, 0, none⟩)] W fun e W' => e = .returned (.int .i64 (pform (decide (0 < s.1.length)) s).2) ∧ TZ w0 g gm v0 (pform (decide (0 < s.1.length)) s) m ve vs W' := by
  obtain ⟨v, hv, ho⟩ := h.rd
  exact (rover_b 82 g v s W hv).mono fun e W' h2 => ⟨h2.1, h.mv ho h2.2⟩
theorem TZ.re (h : TZ w0 g gm v0 s m ve vs W) (hc : Chg [gm] W W') (hb : Blk W' gm 33 (mgcells m' ve' vs').toArray) (he : Enc.Sl enE W' (fun k => k < w0.heap.size) ve' m'.ents) (hs : Enc.BsX W' (fun k => k < w0.heap.size) vs' m'.snap.state) : TZ w0 g gm v0 s m' ve' vs' W' := by
  obtain ⟨v, hv, ho⟩ := h.rd
  have hl := h.lt
  exact ⟨⟨v, hv.chg hc (by simp; omega) (ho _ (h.off _ (by simp))), ho⟩, hb, he, hs, h.ch.trans (hc.mono (by simp)), hl, h.off⟩
theorem TZ.keep (h : TZ w0 g gm v0 s m ve vs W) (hc : Chg [gm] W W') (hb : Blk W' gm 33 (mgcells m' ve vs).toArray) (he : m'.ents = m.ents) (hs : m'.snap.state = m.snap.state) : TZ w0 g gm v0 s m' ve vs W' :=
  h.re hc hb (by rw [he]; exact h.en.chg hc fun k hk _ => by rw [List.mem_singleton.1 hk]; exact h.lt.2.1) (by rw [hs]; exact h.st.chg hc fun k hk _ => by rw [List.mem_singleton.1 hk]; exact h.lt.2.1)
theorem TZ.c1 (h : TZ w0 g gm v0 s m ve vs W) : W.cell? ⟨g, 1, none⟩ = some (.int .i64 s.2) := by
  obtain ⟨v, hv, ho⟩ := h.rd
  exact (hv.blk.cell 1).trans rfl
end
end Go.Proofs.Ytlblgopfdadalaa
