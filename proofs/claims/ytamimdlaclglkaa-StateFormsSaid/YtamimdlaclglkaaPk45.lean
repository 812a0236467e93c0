import Derived.Test.YtamimdlaclglkaaPk33
import Derived.Test.YtamimdlaclglkaaPk21
import Derived.Laws.Cover1
import Derived.RegionTactic
import Derived.ChangeAlike
/- Links: what commands leave that are made of numbers. -/
namespace Go.Proofs.Ytamimdlaclglkaa
set_option linter.unusedVariables false
set_option linter.unusedSimpArgs false
set_option linter.unnecessarySimpa false
set_option maxRecDepth 100000
open Go.RowKit
/-- the variables' blocks -/
abbrev XV (g0 : Nat) : Avoid := fun k => k = g0 ∨ k = g0 + 1
def RetSt (w w' : World) (e : Ending) : Prop := ∃ (s : St) (At : Option Addr) (ct : Nat) (Au : Option Addr) (cu : Nat), LInv s ∧ s.sess = [] ∧ e = .returned (.agg #[.int .u64 s.now, .int .u64 s.count, .slice At s.links.length ct, .slice Au s.sess.length cu]) ∧
  stE.rep w' noneAt [.int .u64 s.now, .int .u64 s.count, .slice At s.links.length ct, .slice Au s.sess.length cu] s ∧ Ext w w'
theorem stN_rep (w : World) (X : Avoid) : stE.rep w X [.int .u64 0, .int .u64 0, .slice none 0 0, .slice none 0 0] ⟨0, 0, [], []⟩ :=
  st_rep.2 ⟨.slice none 0 0, .slice none 0 0, rfl, ⟨by simp, by simp⟩, ⟨by simp, by simp⟩, Enc.Sl.nil _ _ _, Enc.Sl.nil _ _ _⟩









































































































































































































































end Go.Proofs.Ytamimdlaclglkaa

/- Links: law18.begun. -/
namespace Go.Proofs.Ytamimdlaclglkaa
set_option linter.unusedVariables false
set_option linter.unusedSimpArgs false
set_option linter.unnecessarySimpa false
set_option maxRecDepth 100000
open Go.RowKit
abbrev s0L : St := ⟨0, 0, [], []⟩
abbrev s1L : St := ⟨0, 1, [⟨[48, 48, 48], [117], 0, true⟩], []⟩
abbrev c1L : Cm := ⟨1, 0, 0, [], [117], 0⟩
abbrev c2L : Cm := ⟨3, 0, 0, [48, 48, 48], [], 0⟩
theorem ldo1L : ldo s0L c1L = (s1L, ⟨0, [48, 48, 48]⟩) := by kernel_rfl
theorem ldo2L : ldo s1L c2L = (s1L, ⟨0, [117]⟩) := by kernel_rfl
theorem lf1L : lfv s1L.links [48, 48, 48] = (⟨[48, 48, 48], [117], 0, true⟩, true) := by kernel_rfl
theorem stN_rep3 (w : World) (X : Avoid) : stE.rep w X [.int .u64 0, .int .u64 0, .slice none 0 0, .slice none 0 0] s0L :=
  st_rep.2 ⟨.slice none 0 0, .slice none 0 0, rfl, ⟨by simp, by simp⟩, ⟨by simp, by simp⟩, Enc.Sl.nil _ _ _, Enc.Sl.nil _ _ _⟩
theorem c1L_wide : c1L.wide := by constructor <;> simp [c1L, maxLen, U64] <;> omega
theorem c2L_wide : c2L.wide := by constructor <;> simp [c2L, maxLen, U64] <;> omega
theorem linv1 : LInv s1L := by
  have h := linv0.step (c := c1L) (by decide)
  rw [ldo1L] at h
  exact h




















































































end Go.Proofs.Ytamimdlaclglkaa

/- shortcutref17.Same, of states without sessions that are the same. -/
namespace Go.Proofs.Ytamimdlaclglkaa
set_option linter.unusedVariables false
set_option linter.unusedSimpArgs false
set_option linter.unnecessarySimpa false
set_option maxRecDepth 100000
open Go.RowKit
set_option maxHeartbeats 6400000 in
theorem sameL_b (s : St) (cs1 cs2 : List Value) (w : World) (hse : s.sess = []) (hs1 : stE.rep w noneAt cs1 s) (hs2 : stE.rep w noneAt cs2 s) :
    Calls Try.prog 8 #[.agg cs1.toArray, .agg cs2.toArray] w fun e w' => e = .returned (.bool true) ∧ Ext w w' := by
  obtain ⟨vl, vs, rfl, s1, s2, s3, s4⟩ := st_rep.1 hs1
  obtain ⟨vl2, vs2, rfl, -, -, t3, t4⟩ := st_rep.1 hs2
  obtain ⟨Al, cl, rfl, q1, q2⟩ := s3.form
  obtain ⟨As, cs, rfl, q3, q4⟩ := s4.form
  have hll : s.links.length ≤ 9223372036854775807 := Nat.le_trans q1 q2
  have hl : s.sess.length ≤ 9223372036854775807 := Nat.le_trans q3 q4
  clear q1 q2 q3 q4 hs1 hs2
  obtain ⟨Al2, cl2, rfl, -, -⟩ := t3.form
  obtain ⟨As2, cs2, rfl, -, -⟩ := t4.form
  have hB := Blk.new w 26 #[.int .u64 s.now, .int .u64 s.count, .slice Al s.links.length cl, .slice As s.sess.length cs]
  have hC := Blk.new (w.alloc (.cells #[.int .u64 s.now, .int .u64 s.count, .slice Al s.links.length cl, .slice As s.sess.length cs] 26)) 26 #[.int .u64 s.now, .int .u64 s.count, .slice Al2 s.links.length cl2, .slice As2 s.sess.length cs2]
  have hx0 := ((Ext.rfl' w).alloc' (.cells #[.int .u64 s.now, .int .u64 s.count, .slice Al s.links.length cl, .slice As s.sess.length cs] 26)).alloc' (.cells #[.int .u64 s.now, .int .u64 s.count, .slice Al2 s.links.length cl2, .slice As2 s.sess.length cs2] 26)
  obtain ⟨g, hg⟩ : ∃ g, w.heap.size = g := ⟨_, rfl⟩
  rw [show (w.alloc (.cells #[.int .u64 s.now, .int .u64 s.count, .slice Al s.links.length cl, .slice As s.sess.length cs] 26)).heap.size = g + 1 by simp [hg]] at hC
  rw [hg] at hB
  replace hB := hB.alloc (.cells #[.int .u64 s.now, .int .u64 s.count, .slice Al2 s.links.length cl2, .slice As2 s.sess.length cs2] 26)
  have HS : Hid (s.sess.length = 0) := hide (by rw [hse]; rfl)
  clear hse
  go_enter Try.func8, Try.ntmps8
  go_wp2_with fail
  generalize (w.alloc (.cells #[.int .u64 s.now, .int .u64 s.count, .slice Al s.links.length cl, .slice As s.sess.length cs] 26)).alloc (.cells #[.int .u64 s.now, .int .u64 s.count, .slice Al2 s.links.length cl2, .slice As2 s.sess.length cs2] 26) = w1 at *
  go_loopw [5] (fun i wr => ∃ m : Nat, (m : Int) ≤ s.links.length ∧ i = .int .i64 m ∧ Ext w1 wr) (fun i _ => (s.links.length - intOf i).toNat)
  case atStart => exact ⟨0, by omega, rfl, Ext.rfl' _⟩
  case round =>
    obtain ⟨m, hm, rfl, hx⟩ := hrel
    have b2 := ((hB.ext hx).cell 2).trans rfl
    have d2 := ((hC.ext hx).cell 2).trans rfl
    by_cases hlt : (m : Int) < s.links.length
    · obtain ⟨ad, x, rfl, hxk, hbp, p0, p1, p2, p3, -⟩ := ln_at (s3.ext (hx0.trans' hx)) (k := m) (by omega)
      obtain ⟨ad2, x2, rfl, hxk2, hbr, r0, r1, r2, r3, -⟩ := ln_at (t3.ext (hx0.trans' hx)) (k := m) (by omega)
      obtain rfl : x = x2 := Option.some.inj (hxk.out.symm.trans hxk2.out)
      go_wp2_with fail
      go_region
      go_wp2
      go_roundw
      case rel => exact ⟨m + 1, by omega, by go_num, hx.drew'⟩
      case measure => simp [intOf]; omega
    · go_wp2_with fail
      clear hlt hm b2 d2
      have hxb := hB.ext hx
      have hxc := hC.ext hx
      have hx1 := hx0.trans' hx
      clear hB hC hx0 hx
      generalize wr = wA at *
      go_loopw [6] (fun i w2 => ∃ k : Nat, (k : Int) ≤ s.sess.length ∧ i = .int .i64 k ∧ Ext wA w2) (fun i _ => (s.sess.length - intOf i).toNat)
      case atStart => exact ⟨0, by omega, rfl, Ext.rfl' _⟩
      case round =>
        obtain ⟨k, hk, rfl, hxx⟩ := hrel
        have hBr := hxb.ext hxx
        have hCr := hxc.ext hxx
        have hxr := hx1.trans' hxx
        have b3 := (hBr.cell 3).trans rfl
        have d3 := (hCr.cell 3).trans rfl
        obtain rfl : k = 0 := by have := HS.out; omega
        have h0 : s.sess.length = 0 := HS.out
        go_wp2_with fail
        go_ret
        exact ⟨rfl, hxr⟩
end Go.Proofs.Ytamimdlaclglkaa

/- Links: what the laws share. -/
namespace Go.Proofs.Ytamimdlaclglkaa
set_option linter.unusedVariables false
set_option linter.unusedSimpArgs false
set_option linter.unnecessarySimpa false
set_option maxRecDepth 100000
open Go.RowKit
theorem RetDo.at {X : Avoid} {w w' : World} {e : Ending} {t : St} {a : An} (h : RetDo X w w' e (t, a)) : ∃ (At : Option Addr) (ct : Nat) (Au : Option Addr) (cu : Nat),
    e = .returned (.tuple #[.agg #[.int .u64 t.now, .int .u64 t.count, .slice At t.links.length ct, .slice Au t.sess.length cu], .agg #[.int .i64 a.err, str a.text]]) ∧
    stE.rep w' X [.int .u64 t.now, .int .u64 t.count, .slice At t.links.length ct, .slice Au t.sess.length cu] t ∧ Ext w w' := by
  obtain ⟨t', a', A1, c1, A2, c2, h1, h2, h3, h4⟩ := h
  obtain ⟨rfl, rfl⟩ := Prod.mk.inj h1.out
  exact ⟨A1, c1, A2, c2, h2, h3, h4⟩
theorem two_al (W : World) (T1 T2 : TypeId) (c1 c2 : Array Value) : Blk ((W.alloc (.cells c1 T1)).alloc (.cells c2 T2)) W.heap.size T1 c1 ∧ Blk ((W.alloc (.cells c1 T1)).alloc (.cells c2 T2)) (W.heap.size + 1) T2 c2 ∧ Ext W ((W.alloc (.cells c1 T1)).alloc (.cells c2 T2)) := by
  have h2 := Blk.new (W.alloc (.cells c1 T1)) T2 c2
  rw [show (W.alloc (.cells c1 T1)).heap.size = W.heap.size + 1 by simp] at h2
  exact ⟨(Blk.new W T1 c1).alloc _, h2, ((Ext.rfl' W).alloc' _).alloc' _⟩
/-! plain laws -/
theorem find?_lkput {l : List Ln} {x : Ln} {p : Ln → Bool} (hn : l.find? p = none) (hx : p x = true) : (lkput l x).find? p = some x := by
  unfold lkput
  rw [List.find?_append, List.find?_cons, hx]
  have : (l.take (cntP (ltN x.name) l)).find? p = none := by
    rw [List.find?_eq_none] at hn ⊢
    exact fun y hy => hn y (List.mem_of_mem_take hy)
  rw [this]
  rfl
theorem ldo_find {t : St} {x : Ln} (h : lfind t.links x.name = some x) : ldo t ⟨3, 0, 0, x.name, [], 0⟩ = (t, ⟨0, x.url⟩) := by
  unfold ldo ldoW
  rw [if_neg (by simp), if_neg (by simp), if_neg (by simp), if_pos rfl]
  unfold lfindW
  simp only
  rw [h]
theorem ldo_make (s : St) {c : Cm} (hk : c.kind = 1) : ldo s c = lmakeW lwith s c := by
  unfold ldo ldoW
  rw [if_neg (by omega), if_pos hk]
theorem lown_eq {c : Cm} {x : Ln} (h : lown c x = true) : x.url = c.url ∧ x.till = c.till := by
  unfold lown at h
  simpa using h
theorem LInv.name_len {s : St} (h : LInv s) {x : Ln} (hx : x ∈ s.links) : x.name.length ≤ 12 := by
  rcases h.names x hx with ⟨k, -, -, e⟩ | ⟨-, e⟩
  · rw [e, code3_len]; omega
  · exact e
theorem make_law {s : St} (h : LInv s) {c : Cm} (hk : c.kind = 1) : ∃ t a, ldo s c = (t, a) ∧ ldo t c = (t, a) ∧ (a.err ≠ 0 → t = s) ∧ (a.err = 0 → ldo t ⟨3, 0, 0, a.text, [], 0⟩ = (t, ⟨0, c.url⟩)) ∧ (t.count = s.count ∨ t.count = s.count + 1) ∧ a.text.length ≤ 12 := by
  rw [ldo_make s hk]
  by_cases h0 : lmay c s.now = 0
  case neg =>
    have e : lmakeW lwith s c = (s, ⟨lmay c s.now, []⟩) := by unfold lmakeW; rw [if_pos h0]
    exact ⟨_, _, e, (ldo_make s hk).trans e, fun _ => rfl, fun hz => absurd hz h0, .inl rfl, by simp⟩
  cases hf : s.links.find? (fun x => x.made && lown c x) with
  | some x =>
    have e : lmakeW lwith s c = (s, ⟨0, x.name⟩) := by unfold lmakeW; rw [if_neg (by simpa using h0), hf]
    obtain ⟨hm, hp⟩ := find_map_eq hf
    simp only [Bool.and_eq_true] at hp
    refine ⟨_, _, e, (ldo_make s hk).trans e, fun _ => rfl, fun _ => ?_, .inl rfl, h.name_len hm⟩
    rw [← (lown_eq hp.2).1]
    exact ldo_find (lfind_of h.rise hm)
  | none =>
    by_cases hn : 238328 ≤ s.count ∨ 40 ≤ s.links.length
    · have e : lmakeW lwith s c = (s, ⟨12, []⟩) := by unfold lmakeW; rw [if_neg (by simpa using h0), hf]; simp only; rw [if_pos hn]
      exact ⟨_, _, e, (ldo_make s hk).trans e, fun _ => rfl, fun hz => absurd hz (by simp), .inl rfl, by simp⟩
    · have hfr := h.fresh (by omega)
      have e := lmakeW_new lwith h0 hf hn
      rw [lwith_new hfr] at e
      refine ⟨_, _, e, ?_, fun hz => absurd rfl hz, fun _ => ?_, .inr rfl, by show (code3 _).length ≤ 12; rw [code3_len]; omega⟩
      · rw [ldo_make _ hk]
        unfold lmakeW
        simp only
        rw [if_neg (by simpa using h0), find?_lkput hf (by simp [lown])]
      · exact ldo_find (x := ⟨code3 s.count.toNat, c.url, c.till, true⟩) (lkput_find h.rise hfr)
end Go.Proofs.Ytamimdlaclglkaa

