import Derived.Test.YtamimdlaclglkaaPk32
import Derived.Test.YtamimdlaclglkaaPk9
import Derived.Test.YtamimdlaclglkaaPk14
import Derived.Deep.CutBlock
import Derived.Test.YtamimdlaclglkaaPk28
/- shortcutplay: commands. -/
namespace Go.Proofs.Ytamimdlaclglkaa
set_option linter.unusedVariables false
set_option linter.unusedSimpArgs false
set_option linter.unnecessarySimpa false
set_option maxRecDepth 100000
open Go.RowKit
/-- a command that is made of numbers -/
structure PlayC (c : Cm) : Prop where
  k0 : 1 ≤ c.kind
  k1 : c.kind ≤ 4
  client : c.client = 0
  seq : c.seq = 0
  name : c.name.length ≤ 20
  url : c.url.length ≤ 20
  t0 : 0 ≤ c.till
  t1 : c.till ≤ 40
def namesB : List Bytes := [[97, 98, 99, 100], [110, 97, 109, 101, 45, 49], [120], [122, 122, 122, 122]]
def findB : List Bytes := [[48, 48, 48], [48, 48, 49], [48, 48, 50], [97, 98, 99, 100], [110, 97, 109, 101, 45, 49], [122, 122, 122]]
/-- while a command is made -/
theorem elt_cm : Elt 47 cmE (.agg #[.int .i64 0, .int .i64 0, .int .u64 0, .string ByteArray.empty, .string ByteArray.empty, .int .u64 0]) 64 := ⟨by kernel_rfl, rfl, by decide⟩
theorem PlayC.wide {c : Cm} (h : PlayC c) : c.wide := by
  have h1 := h.k0; have h2 := h.k1; have h3 := h.client; have h4 := h.seq; have h5 := h.name; have h6 := h.url; have h7 := h.t0; have h8 := h.t1
  exact ⟨by omega, by omega, by omega, by omega, by omega, by omega, by unfold maxLen; omega, by unfold maxLen; omega, h7, by omega⟩
theorem cm_rep {w : World} {X : Avoid} {c : Cm} (h : c.wide) : cmE.rep w X (ccells c).toList c := by
  obtain ⟨k0, k1, c0, c1, s0, s1, n1, u1, t0, t1⟩ := h
  exact ⟨[_], [_, _, _, _, _], rfl, ⟨rfl, k0, k1⟩, [_], [_, _, _, _], rfl, ⟨rfl, c0, c1⟩, [_], [_, _, _], rfl, ⟨rfl, s0, s1⟩, [_], [_, _], rfl, ⟨rfl, n1⟩, [_], [_], rfl, ⟨rfl, u1⟩, [_], [], rfl, ⟨rfl, t0, t1⟩, rfl⟩
theorem cm_any {w w' : World} {X Y : Avoid} {cs : List Value} {c : Cm} (h : cmE.rep w X cs c) : cmE.rep w' Y cs c := by
  obtain ⟨h1, h2⟩ := cmE_rep (cs := cs.toArray) (by simpa using h)
  have h3 := cm_rep (w := w') (X := Y) h2
  rw [← h1] at h3
  simpa using h3
end Go.Proofs.Ytamimdlaclglkaa

/- Links: what the laws call. -/
namespace Go.Proofs.Ytamimdlaclglkaa
set_option linter.unusedVariables false
set_option linter.unusedSimpArgs false
set_option linter.unnecessarySimpa false
set_option maxRecDepth 100000
open Go.RowKit
theorem ldoK_eq {s : St} (h : LInv s) (c : Cm) : ldoW lfind lkput s c = ldo s c := by
  unfold ldo ldoW
  by_cases h4 : c.kind = 4
  · rw [if_pos h4, if_pos h4]
  rw [if_neg h4, if_neg h4]
  by_cases h1 : c.kind = 1
  · rw [if_pos h1, if_pos h1]
    unfold lmakeW
    split
    · rfl
    · split
      · rfl
      · split
        · rfl
        · rename_i hc
          rw [lwith_new (h.fresh (by omega))]
  rw [if_neg h1, if_neg h1]
  by_cases h2 : c.kind = 2
  · rw [if_pos h2, if_pos h2]
    unfold lnameW
    split
    · rfl
    · split
      · rfl
      · split
        · rfl
        · rename_i hf
          rw [lwith_new hf]
  rw [if_neg h2, if_neg h2]
/-- a state and an answer -/
def RetDo (X : Avoid) (w w' : World) (e : Ending) (r : St × An) : Prop :=
  ∃ (t : St) (a : An) (At : Option Addr) (ct : Nat) (Au : Option Addr) (cu : Nat), Hid ((t, a) = r) ∧ e = .returned (.tuple #[.agg #[.int .u64 t.now, .int .u64 t.count, .slice At t.links.length ct, .slice Au t.sess.length cu], .agg (acells a).toArray]) ∧
    stE.rep w' X [.int .u64 t.now, .int .u64 t.count, .slice At t.links.length ct, .slice Au t.sess.length cu] t ∧ Ext w w'
theorem ldoL_b (X : Avoid) (s : St) (cs : List Value) (c : Cm) (w : World) (hX : ∀ k, X k → k < w.heap.size) (hs : stE.rep w X cs s) (hi : LInv s) (hse : s.sess = []) (hc : c.wide) (hcu : c.url.length ≤ 1000000) (hcn : c.name.length ≤ 1000000) :
    Calls Try.prog 30 #[.agg cs.toArray, cv c] w fun e w' => RetDo X w w' e (ldo s c) := by
  refine (ldo_b X s cs c w hX hs hc hcu hcn hi.rise (by have := hi.len; omega) (fun h => hi.fresh h) (by rw [hse]; simp) (by rw [hse]; simp)).mono ?_
  rintro e w' ⟨cs', t, a, h1, rfl, h2, h3⟩
  obtain ⟨vl, vs, rfl, s1, s2, s3, s4⟩ := st_rep.1 h2
  obtain ⟨At, ct, rfl, -, -⟩ := s3.form
  obtain ⟨Au, cu, rfl, -, -⟩ := s4.form
  exact ⟨t, a, At, ct, Au, cu, hide (by rw [h1.out, ldoK_eq hi]), rfl, h2, h3⟩
theorem cm_at {w : World} {X : Avoid} {A : Option Addr} {n c k : Nat} {l : List Cm} (h : Enc.Sl cmE w X (.slice A n c) l) (hk : k < l.length) : ∃ (ad : Addr) (m : Cm), A = some ad ∧ Hid (l[k]? = some m) ∧ ad.block < w.heap.size ∧ w.cell? (ad.add (k * 6)) = some (.int .i64 m.kind) ∧
    w.cell? ⟨(ad.add (k * 6)).block, (ad.add (k * 6)).off + 1, none⟩ = some (.int .i64 m.client) ∧ w.cell? ⟨(ad.add (k * 6)).block, (ad.add (k * 6)).off + 2, none⟩ = some (.int .u64 m.seq) ∧
    w.cell? ⟨(ad.add (k * 6)).block, (ad.add (k * 6)).off + 3, none⟩ = some (str m.name) ∧ w.cell? ⟨(ad.add (k * 6)).block, (ad.add (k * 6)).off + 4, none⟩ = some (str m.url) ∧
    w.cell? ⟨(ad.add (k * 6)).block, (ad.add (k * 6)).off + 5, none⟩ = some (.int .u64 m.till) ∧ m.wide := by
  obtain ⟨ad, cs, rfl, hrep, hb, hcell⟩ := h.at_ hk
  obtain ⟨h1, h2⟩ := cmE_rep (cs := cs.toArray) (by simpa using hrep)
  have h3 : cs = (ccells l[k]).toList := by rw [← h1]
  subst h3
  exact ⟨ad, _, rfl, hide (List.getElem?_eq_getElem hk), hb, Enc.cell0 hcell rfl, Enc.cellS hcell 0 rfl, Enc.cellS hcell 1 rfl, Enc.cellS hcell 2 rfl, Enc.cellS hcell 3 rfl, Enc.cellS hcell 4 rfl, h2⟩

































end Go.Proofs.Ytamimdlaclglkaa

