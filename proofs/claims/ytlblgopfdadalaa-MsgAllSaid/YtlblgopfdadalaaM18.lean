/- A part of the proof of 'MsgAll'. -/
import Derived.Test.YtlblgopfdadalaaM17
namespace Go.Proofs.Ytlblgopfdadalaa
set_option linter.unusedVariables false
set_option linter.unusedSimpArgs false
set_option linter.unnecessarySimpa false
set_option maxRecDepth 100000
open Go.RowKit
/-- while a letter is read: the reader in block g, so far it is m -/
def MZ (w : World) (g : Nat) (v : Value) (s : Rdr) (m : Mg) (ve : Value) (W : World) : Prop :=
  ∃ v' vs, MAt W g v' s (mgcells m ve vs) ∧ Enc.Sl enE W (XA g w) ve m.ents ∧ Enc.BsX W (XA g w) vs m.snap.state ∧ Chg [g] w W ∧ ∀ S, Off v S → Off v' S
section
variable {w W W' : World} {g : Nat} {v ve : Value} {s s' : Rdr} {m m' : Mg}
theorem MZ.to (h : ∃ v' vs, MTo W W' g v' s' (mgcells m ve vs) ∧ Enc.Sl enE W (XA g w) ve m.ents ∧ Enc.BsX W (XA g w) vs m.snap.state ∧ Chg [g] w W ∧ ∀ S, Off v S → Off v' S) : MZ w g v s' m ve W' := by
  obtain ⟨v', vs, ⟨v2, r2, c2, o2⟩, h2, h3, h4, h5⟩ := h
  exact ⟨v2, vs, r2, h2.chg c2 fun k hk _ => .inl (by simpa using hk), h3.chg c2 fun k hk _ => .inl (by simpa using hk), h4.trans c2, fun S hS => o2 S (h5 S hS)⟩
theorem MZ.ext (h : MZ w g v s m ve W) (hx : Ext W W') : MZ w g v s m ve W' := by
  obtain ⟨v', vs, h1, h2, h3, h4, h5⟩ := h
  exact ⟨v', vs, h1.ext hx, h2.ext hx, h3.ext hx, h4.trans (hx.chg [g]), h5⟩
theorem MZ.num (h : MZ w g v s m ve W) {n : Nat} {lo hi k : Int} (hn : n ≤ 8) (hP : (Cod.numB n lo hi).P s = (k, s')) :
    Calls Try.prog 72 #[.pointer (some ⟨g, 0, none⟩), .int .i64 n, .int .u64 lo, .int .u64 hi] W fun e W' => e = .returned (.int .u64 k) ∧ MZ w g v s' m ve W' ∧ Chg [g] W W' := by
  obtain ⟨v', vs, h1, h2, h3, h4, h5⟩ := h
  refine (mnum_b g v' s _ n lo hi W h1 hn).mono ?_
  rintro e W' ⟨he, r⟩
  have e1 : (pnum n s).1 = k := congrArg Prod.fst hP
  have e2 : pform (decide ((pnum n s).1 < lo ∨ hi < (pnum n s).1)) (pnum n s).2 = s' := congrArg Prod.snd hP
  rw [e2] at r
  rw [e1] at he
  exact ⟨he, .to ⟨v', vs, r, h2, h3, h4, h5⟩, by obtain ⟨_, _, c, _⟩ := r; exact c⟩
theorem MZ.numF (h : MZ w g v s m ve W) {n : Nat} {k : Int} (hn : n ≤ 8) (hP : (Cod.num n).P s = (k, s')) :
    Calls Try.prog 72 #[.pointer (some ⟨g, 0, none⟩), .int .i64 n, .int .u64 0, .int .u64 18446744073709551615] W fun e W' => e = .returned (.int .u64 k) ∧ MZ w g v s' m ve W' ∧ Chg [g] W W' := by
  obtain ⟨v', vs, h1, h2, h3, h4, h5⟩ := h
  refine (mnumF_b g v' s _ n W h1 hn).mono ?_
  rintro e W' ⟨he, r⟩
  have e1 : (pnum n s).1 = k := congrArg Prod.fst hP
  have e2 : (pnum n s).2 = s' := congrArg Prod.snd hP
  rw [e2] at r
  rw [e1] at he
  exact ⟨he, .to ⟨v', vs, r, h2, h3, h4, h5⟩, by obtain ⟨_, _, c, _⟩ := r; exact c⟩
theorem MZ.place (h : MZ w g v s m ve W) {k : Int} (hP : Cod.place.P s = (k, s')) :
    Calls Try.prog 73 #[.pointer (some ⟨g, 0, none⟩)] W fun e W' => e = .returned (.int .i64 k) ∧ MZ w g v s' m ve W' := by
  obtain ⟨v', vs, h1, h2, h3, h4, h5⟩ := h
  refine (mplace_b g v' s _ W h1).mono ?_
  rintro e W' ⟨he, r⟩
  rw [hP] at he r
  exact ⟨he, .to ⟨v', vs, r, h2, h3, h4, h5⟩⟩
theorem MZ.text (h : MZ w g v s m ve W) {d : Bytes} (hP : ptext s = (d, s')) :
    Calls Try.prog 75 #[.pointer (some ⟨g, 0, none⟩)] W fun e W' => ∃ A c, e = .returned (.slice A d.length c) ∧ Enc.BsX W' (XA g w) (.slice A d.length c) d ∧ MZ w g v s' m ve W' ∧ Chg [g] W W' := by
  obtain ⟨v', vs, h1, h2, h3, h4, h5⟩ := h
  refine (mbytes_b g v' s _ W h1).mono ?_
  rintro e W' ⟨m9, A, c, hm, rfl, hz, r⟩
  rw [hP] at r
  have hm' : m9 = d := by rw [hm.out, hP]
  subst hm'
  refine ⟨A, c, rfl, Enc.BsX.nw hz fun k hk => ?_, .to ⟨v', vs, r, h2, h3, h4, h5⟩, by obtain ⟨_, _, c, _⟩ := r; exact c⟩
  rcases hk with hk | hk
  · have := h1.blk.lt; omega
  · have := h4.size; omega
theorem MZ.ents (h : MZ w g v s m (.slice none 0 0) W) {l : List En} (hP : (Cod.list Cod.ent).P s = (l, s')) :
    Calls Try.prog 74 #[.pointer (some ⟨g, 0, none⟩)] W fun e W' => e = .returned (.tuple #[]) ∧ ∃ ve, MZ w g v s' { m with ents := l } ve W' := by
  obtain ⟨v', vs, h1, h2, h3, h4, h5⟩ := h
  refine (mentries_b g v' s _ W h1 rfl).mono ?_
  rintro e W' ⟨he, ve, hl, v2, r2, c2, o2⟩
  rw [hP] at hl r2
  exact ⟨he, ve, v2, vs, r2, hl.mono fun k _ hk => by
    rcases hk with hk | hk
    · exact .inl hk
    · have := h4.size; exact .inr (by omega), h3.chg c2 fun k hk _ => .inl (by simpa using hk), h4.trans c2, fun S hS => o2 S (h5 S hS)⟩
theorem MZ.cmd (h : MZ w g v s m ve W) {c : Cm} (hP : Cod.cmd.P s = (c, s')) (hz : m.cmd = Cm.zero) :
    Calls Try.prog 76 #[.pointer (some ⟨g, 0, none⟩)] W fun e W' => e = .returned (.tuple #[]) ∧ MZ w g v s' { m with cmd := c } ve W' := by
  obtain ⟨v', vs, h1, h2, h3, h4, h5⟩ := h
  refine (mcommand_b g v' s m ve vs W h1 hz).mono ?_
  rintro e W' ⟨he, v2, r2, c2, o2⟩
  rw [hP] at r2
  exact ⟨he, v2, vs, r2, h2.chg c2 fun k hk _ => .inl (by simpa using hk), h3.chg c2 fun k hk _ => .inl (by simpa using hk), h4.trans c2, fun S hS => o2 S (h5 S hS)⟩
theorem MZ.set (h : MZ w g v s m ve W) (j : Nat) (u : Value) (hm : ∀ vs, (mgcells m ve vs).set j u = mgcells m' ve vs) (he : m'.ents = m.ents) (hs : m'.snap.state = m.snap.state) :
    MZ w g v s m' ve (W.setCell ⟨g, j + 2, none⟩ u) := by
  obtain ⟨v', vs, h1, h2, h3, h4, h5⟩ := h
  have hc : Chg [g] W (W.setCell ⟨g, j + 2, none⟩ u) := (Chg.refl [g] W).set (by simp) u
  have h6 := h1.set j u
  rw [hm] at h6
  exact ⟨v', vs, h6, by rw [he]; exact h2.chg hc fun k hk _ => .inl (by simpa using hk), by rw [hs]; exact h3.chg hc fun k hk _ => .inl (by simpa using hk), h4.trans hc, h5⟩
theorem MZ.setS (h : MZ w g v s m ve W) {d : Bytes} {u : Value} (hb : Enc.BsX W (XA g w) u d) :
    MZ w g v s { m with snap := ⟨m.snap.index, m.snap.term, d⟩ } ve (W.setCell ⟨g, 14, none⟩ u) := by
  obtain ⟨v', vs, h1, h2, h3, h4, h5⟩ := h
  have hc : Chg [g] W (W.setCell ⟨g, 14, none⟩ u) := (Chg.refl [g] W).set (by simp) u
  exact ⟨v', u, h1.set 12 u, h2.chg hc fun k hk _ => .inl (by simpa using hk), hb.chg hc fun k hk _ => .inl (by simpa using hk), h4.trans hc, h5⟩
theorem MZ.ok (h : MZ w g v s m ve W) (j : Nat) (hj : j < 21) : (∃ x, W.cell? ⟨g, j + 2, none⟩ = some x) ∧ W.frozen? ⟨g, j + 2, none⟩ = false := by
  obtain ⟨v', vs, h1, -⟩ := h
  refine ⟨?_, h1.blk.frozen _⟩
  rw [h1.cell j]
  exact ⟨_, List.getElem?_eq_getElem (show j < (mgcells m ve vs).length from hj)⟩
theorem MZ.c1 (h : MZ w g v s m ve W) : W.cell? ⟨g, 1, none⟩ = some (.int .i64 s.2) ∧ W.frozen? ⟨g, 1, none⟩ = false := by
  obtain ⟨v', vs, h1, -⟩ := h
  exact ⟨h1.c1, h1.blk.frozen 1⟩
theorem MZ.c0 (h : MZ w g v s m ve W) : ∃ A c, W.cell? ⟨g, 0, none⟩ = some (.slice A s.1.length c) := by
  obtain ⟨v', vs, h1, -⟩ := h
  obtain ⟨A, c, rfl, -⟩ := id h1.bs
  exact ⟨A, c, h1.c0⟩
theorem MZ.err {b : Bytes} {e : Int} (h : MZ w g v (b, e) m ve W) (k : Int) : MZ w g v (b, k) m ve (W.setCell ⟨g, 1, none⟩ (.int .i64 k)) := by
  obtain ⟨v', vs, h1, h2, h3, h4, h5⟩ := h
  have hc : Chg [g] W (W.setCell ⟨g, 1, none⟩ (.int .i64 k)) := (Chg.refl [g] W).set (by simp) _
  exact ⟨v', vs, h1.err k, h2.chg hc fun k hk _ => .inl (by simpa using hk), h3.chg hc fun k hk _ => .inl (by simpa using hk), h4.trans hc, h5⟩
theorem MZ.lt (h : MZ w g v s m ve W) : g < W.heap.size := by
  obtain ⟨v', vs, h1, -⟩ := h
  exact h1.blk.lt
end
/-- what is read of a letter, step by step -/
structure MCh (b : Bytes) (S : Nat → Rdr) (T : Nat → Int) (k1 f t : Int) (ok : Bool) (l : List En) (ix tm : Int) (st : Bytes) (c : Cm) (er : Int) (tx : Bytes) : Prop where
  h0 : S 0 = (b, 0)
  h1 : (Cod.numB 1 1 7).P (S 0) = (k1, S 1)
  h2 : Cod.place.P (S 1) = (f, S 2)
  h3 : Cod.place.P (S 2) = (t, S 3)
  h4 : ∀ k, k < 5 → (Cod.num 8).P (S (3 + k)) = (T k, S (4 + k))
  h5 : ∃ v, (Cod.numB 1 0 1).P (S 8) = (v, S 9) ∧ ok = decide (v = 1)
  h6 : (Cod.list Cod.ent).P (S 9) = (l, S 10)
  h7 : (Cod.num 8).P (S 10) = (ix, S 11)
  h8 : (Cod.num 8).P (S 11) = (tm, S 12)
  h9 : ptext (S 12) = (st, S 13)
  h10 : Cod.cmd.P (S 13) = (c, S 14)
  h11 : (Cod.numB 1 0 16).P (S 14) = (er, S 15)
  h12 : ptext (S 15) = (tx, S 16)
  h13 : msgC.P (b, 0) = (⟨k1, f, t, T 0, T 1, T 2, l, T 3, T 4, ok, ⟨ix, tm, st⟩, c, ⟨er, tx⟩⟩, S 16)
theorem mchain (b : Bytes) : ∃ S T k1 f t ok l ix tm st c er tx, MCh b S T k1 f t ok l ix tm st c er tx := by
  obtain ⟨k1, s1, h1⟩ : ∃ k s, (Cod.numB 1 1 7).P (b, 0) = (k, s) := ⟨_, _, rfl⟩
  obtain ⟨f, s2, h2⟩ : ∃ k s, Cod.place.P s1 = (k, s) := ⟨_, _, rfl⟩
  obtain ⟨t, s3, h3⟩ : ∃ k s, Cod.place.P s2 = (k, s) := ⟨_, _, rfl⟩
  obtain ⟨n0, s4, h4⟩ : ∃ k s, (Cod.num 8).P s3 = (k, s) := ⟨_, _, rfl⟩
  obtain ⟨n1, s5, h5⟩ : ∃ k s, (Cod.num 8).P s4 = (k, s) := ⟨_, _, rfl⟩
  obtain ⟨n2, s6, h6⟩ : ∃ k s, (Cod.num 8).P s5 = (k, s) := ⟨_, _, rfl⟩
  obtain ⟨n3, s7, h7⟩ : ∃ k s, (Cod.num 8).P s6 = (k, s) := ⟨_, _, rfl⟩
  obtain ⟨n4, s8, h8⟩ : ∃ k s, (Cod.num 8).P s7 = (k, s) := ⟨_, _, rfl⟩
  obtain ⟨ov, s9, h9⟩ : ∃ k s, (Cod.numB 1 0 1).P s8 = (k, s) := ⟨_, _, rfl⟩
  obtain ⟨l, s10, h10⟩ : ∃ k s, (Cod.list Cod.ent).P s9 = (k, s) := ⟨_, _, rfl⟩
  obtain ⟨ix, s11, h11⟩ : ∃ k s, (Cod.num 8).P s10 = (k, s) := ⟨_, _, rfl⟩
  obtain ⟨tm, s12, h12⟩ : ∃ k s, (Cod.num 8).P s11 = (k, s) := ⟨_, _, rfl⟩
  obtain ⟨st, s13, h13⟩ : ∃ k s, ptext s12 = (k, s) := ⟨_, _, rfl⟩
  obtain ⟨c, s14, h14⟩ : ∃ k s, Cod.cmd.P s13 = (k, s) := ⟨_, _, rfl⟩
  obtain ⟨er, s15, h15⟩ : ∃ k s, (Cod.numB 1 0 16).P s14 = (k, s) := ⟨_, _, rfl⟩
  obtain ⟨tx, s16, h16⟩ : ∃ k s, ptext s15 = (k, s) := ⟨_, _, rfl⟩
  refine ⟨fun i => match i with | 0 => (b, 0) | 1 => s1 | 2 => s2 | 3 => s3 | 4 => s4 | 5 => s5 | 6 => s6 | 7 => s7 | 8 => s8 | 9 => s9 | 10 => s10 | 11 => s11 | 12 => s12 | 13 => s13 | 14 => s14 | 15 => s15 | _ => s16,
    fun i => match i with | 0 => n0 | 1 => n1 | 2 => n2 | 3 => n3 | _ => n4, k1, f, t, decide (ov = 1), l, ix, tm, st, c, er, tx, rfl, h1, h2, h3, ?_, ⟨ov, h9, rfl⟩, h10, h11, h12, h13, h14, h15, h16, ?_⟩
  · intro k hk
    obtain rfl | rfl | rfl | rfl | rfl : k = 0 ∨ k = 1 ∨ k = 2 ∨ k = 3 ∨ k = 4 := by omega
    · exact h4
    · exact h5
    · exact h6
    · exact h7
    · exact h8
  · have e1 : Cod.flag.P s8 = (decide (ov = 1), s9) := by
      show (decide (((Cod.numB 1 0 1).P s8).1 = 1), ((Cod.numB 1 0 1).P s8).2) = _
      rw [h9]
    have e2 : Cod.snC.P s10 = (⟨ix, tm, st⟩, s13) := by
      show ((⟨((Cod.num 8).P s10).1, ((Cod.num 8).P ((Cod.num 8).P s10).2).1, (ptext ((Cod.num 8).P ((Cod.num 8).P s10).2).2).1⟩ : Sn), (ptext ((Cod.num 8).P ((Cod.num 8).P s10).2).2).2) = _
      rw [h11]
      simp only
      rw [h12]
      simp only
      rw [h13]
    have e3 : Cod.text.P s15 = (tx, s16) := h16
    show (Mg.of _, _) = _
    simp only [Cod.msgI, Cod.pair, h1, h2, h3, h4, h5, h6, h7, h8, e1, h10, e2, h14, h15, e3]
    rfl
end Go.Proofs.Ytlblgopfdadalaa
