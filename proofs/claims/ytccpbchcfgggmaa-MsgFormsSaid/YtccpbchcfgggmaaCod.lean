/- Codes in plain Lean: what is put is taken, cut off it is short, and what is taken was put; by parts. -/
import Derived.Test.YtccpbchcfgggmaaCmd0
namespace Go.Proofs.Ytccpbchcfgggmaa
set_option linter.unusedVariables false
set_option linter.unusedSimpArgs false
set_option linter.unnecessarySimpa false
set_option maxRecDepth 100000
open Go.RowKit
structure Cod (α : Type) where
  P : Rdr → α × Rdr
  enc : α → Bytes
  ok : α → Prop
  put : ∀ a r, ok a → P (enc a ++ r, 0) = (a, (r, 0))
  cut : ∀ a p, ok a → p < (enc a).length → (P ((enc a).take p, 0)).2.2 = 3
  err : ∀ s, s.2 ≠ 0 → (P s).2.2 = s.2
  inv : ∀ s, (P s).2.2 = 0 → s.1 = enc (P s).1 ++ (P s).2.1 ∧ ok (P s).1
theorem Cod.zero {α : Type} (c : Cod α) {s : Rdr} (h : (c.P s).2.2 = 0) : s.2 = 0 := by
  by_cases hs : s.2 = 0
  · exact hs
  · rw [c.err s hs] at h; exact absurd h hs
namespace Cod
/-- a number of n bytes -/
def num (n : Nat) : Cod Int where
  P := pnum n
  enc v := be n v.toNat
  ok v := 0 ≤ v ∧ v < 256 ^ n
  put a r h := pnum_be n a r h.1 (by have := h.2; have e : ((256 ^ n : Nat) : Int) = 256 ^ n := by simp
                                     omega)
  cut a p h hp := by rw [pnum_short n _ (by rw [List.length_take]; rw [be_length] at hp; omega)]
  err s h := by rw [pnum_bad n s h]
  inv s h := (pnum_inv n s h).2
def text : Cod Bytes where
  P := ptext
  enc s := oputBytes [] s
  ok s := s.length ≤ 4294967295
  put a r h := ptext_put a r h
  cut a p h hp := by rw [ptext_short a p h (by rw [oputBytes_length] at hp; simpa using hp)]
  err s h := by rw [ptext_bad s h]
  inv s h := (ptext_inv s h).2
def pair {α β : Type} (c : Cod α) (d : Cod β) : Cod (α × β) where
  P s := (((c.P s).1, (d.P (c.P s).2).1), (d.P (c.P s).2).2)
  enc a := c.enc a.1 ++ d.enc a.2
  ok a := c.ok a.1 ∧ d.ok a.2
  put a r h := by rw [List.append_assoc, c.put a.1 _ h.1, d.put a.2 _ h.2]
  cut a p h hp := by
    rw [List.length_append] at hp
    rcases Nat.lt_or_ge p (c.enc a.1).length with h1 | h1
    · rw [take_head _ _ _ h1]
      have h3 := c.cut a.1 p h.1 h1
      rw [d.err _ (by rw [h3]; decide), h3]
    · rw [take_tail _ _ _ h1, c.put a.1 _ h.1]
      exact d.cut a.2 _ h.2 (by omega)
  err s h := by
    have h1 := c.err s h
    rw [d.err _ (by rw [h1]; exact h), h1]
  inv s h := by
    have h1 := d.inv _ h
    have h2 := c.inv s (d.zero h)
    exact ⟨by rw [List.append_assoc, ← h1.1]; exact h2.1, h2.2, h1.2⟩
/-- some values are of no form -/
def form {α : Type} (c : Cod α) (bad : α → Bool) : Cod α where
  P s := ((c.P s).1, pform (bad (c.P s).1) (c.P s).2)
  enc := c.enc
  ok a := c.ok a ∧ bad a = false
  put a r h := by rw [c.put a r h.1, h.2, pform_no]
  cut a p h hp := by
    have h3 := c.cut a p h.1 hp
    rw [pform_bad _ _ (by rw [h3]; decide), h3]
  err s h := by
    have h1 := c.err s h
    rw [pform_bad _ _ (by rw [h1]; exact h), h1]
  inv s h := by
    obtain ⟨h1, h2, h3⟩ := pform_inv _ _ h
    rw [h3]
    exact ⟨(c.inv s h1).1, (c.inv s h1).2, h2⟩
def map {α β : Type} (c : Cod α) (f : α → β) (g : β → α) (okB : β → Prop) (h1 : ∀ b, okB b → c.ok (g b) ∧ f (g b) = b) (h2 : ∀ a, c.ok a → okB (f a) ∧ g (f a) = a) : Cod β where
  P s := (f (c.P s).1, (c.P s).2)
  enc b := c.enc (g b)
  ok := okB
  put b r h := by rw [c.put _ r (h1 b h).1, (h1 b h).2]
  cut b p h hp := c.cut _ p (h1 b h).1 hp
  err s h := c.err s h
  inv s h := by
    have h3 := c.inv s h
    exact ⟨by rw [(h2 _ h3.2).2]; exact h3.1, (h2 _ h3.2).1⟩
/-- so many -/
def rep {α : Type} (c : Cod α) : Nat → Rdr → List α × Rdr
  | 0, s => ([], s)
  | n + 1, s => if s.2 = 0 then ((c.P s).1 :: (rep c n (c.P s).2).1, (rep c n (c.P s).2).2) else ([], s)
def encs {α : Type} (c : Cod α) : List α → Bytes
  | [] => []
  | a :: l => c.enc a ++ encs c l
theorem rep_err {α : Type} (c : Cod α) : ∀ (n : Nat) (s : Rdr), s.2 ≠ 0 → (rep c n s).2 = s
  | 0, _, _ => rfl
  | n + 1, s, h => by rw [rep, if_neg h]
theorem rep_put {α : Type} (c : Cod α) : ∀ (l : List α) (r : Bytes), (∀ a ∈ l, c.ok a) → rep c l.length (encs c l ++ r, 0) = (l, (r, 0))
  | [], r, _ => rfl
  | a :: l, r, h => by
    rw [encs, List.append_assoc, List.length_cons, rep, if_pos rfl, c.put a _ (h a List.mem_cons_self), rep_put c l r fun x hx => h x (List.mem_cons_of_mem _ hx)]
theorem rep_cut {α : Type} (c : Cod α) : ∀ (l : List α) (p : Nat), (∀ a ∈ l, c.ok a) → p < (encs c l).length → (rep c l.length ((encs c l).take p, 0)).2.2 = 3
  | [], p, _, hp => by simp [encs] at hp
  | a :: l, p, h, hp => by
    rw [encs, List.length_append] at hp
    rw [encs, List.length_cons, rep, if_pos rfl]
    rcases Nat.lt_or_ge p (c.enc a).length with h1 | h1
    · rw [take_head _ _ _ h1]
      have h3 := c.cut a p (h a List.mem_cons_self) h1
      simp only
      rw [rep_err c _ _ (by rw [h3]; decide), h3]
    · rw [take_tail _ _ _ h1, c.put a _ (h a List.mem_cons_self)]
      exact rep_cut c l _ (fun x hx => h x (List.mem_cons_of_mem _ hx)) (by omega)
theorem rep_inv {α : Type} (c : Cod α) : ∀ (n : Nat) (s : Rdr), (rep c n s).2.2 = 0 → s.2 = 0 ∧ s.1 = encs c (rep c n s).1 ++ (rep c n s).2.1 ∧ (rep c n s).1.length = n ∧ ∀ a ∈ (rep c n s).1, c.ok a
  | 0, s, h => ⟨h, rfl, rfl, by simp [rep]⟩
  | n + 1, s, h => by
    by_cases hs : s.2 = 0
    · rw [rep, if_pos hs] at h ⊢
      obtain ⟨h1, h2, h3, h4⟩ := rep_inv c n _ h
      have h5 := c.inv s h1
      refine ⟨hs, ?_, by simp [h3], fun a ha => ?_⟩
      · simp only [encs]
        rw [List.append_assoc, ← h2]
        exact h5.1
      · rcases List.mem_cons.1 ha with rfl | ha
        · exact h5.2
        · exact h4 a ha
    · rw [rep, if_neg hs] at h
      exact absurd h hs
/-- a list, its length ahead of it -/
def list {α : Type} (c : Cod α) : Cod (List α) where
  P s := rep c (pnum 2 s).1.toNat (pnum 2 s).2
  enc l := be 2 l.length ++ encs c l
  ok l := l.length < 65536 ∧ ∀ a ∈ l, c.ok a
  put l r h := by
    have e := pnum_be 2 (l.length : Int) (encs c l ++ r) (by omega) (by have : 256 ^ 2 = 65536 := rfl; have := h.1; omega)
    simp only [Int.toNat_natCast] at e
    rw [List.append_assoc, e]
    exact rep_put c l r h.2
  cut l p h hp := by
    rw [List.length_append, be_length] at hp
    rcases Nat.lt_or_ge p 2 with h1 | h1
    · rw [take_head _ _ _ (by rw [be_length]; exact h1), pnum_short 2 _ (by rw [List.length_take, be_length]; omega)]
      rw [rep_err c _ _ (by simp)]
    · have e := pnum_be 2 (l.length : Int) ((encs c l).take (p - 2)) (by omega) (by have : 256 ^ 2 = 65536 := rfl; have := h.1; omega)
      simp only [Int.toNat_natCast] at e
      rw [take_tail _ _ _ (by rw [be_length]; exact h1), be_length, e]
      exact rep_cut c l _ h.2 (by omega)
  err s h := by rw [pnum_bad 2 s h, rep_err c _ _ h]
  inv s h := by
    obtain ⟨h1, h2, h3, h4⟩ := rep_inv c _ _ h
    obtain ⟨g1, g2, g3, g4⟩ := pnum_inv 2 s h1
    have e : (256 : Int) ^ 2 = 65536 := rfl
    rw [e] at g4
    refine ⟨?_, by rw [h3]; omega, h4⟩
    rw [List.append_assoc, ← h2, h3]
    exact g2
/-- bytes to the end -/
def all {α : Type} (c : Cod α) (s : Rdr) : α × Rdr := ((c.P s).1, pform (decide (0 < (c.P s).2.1.length)) (c.P s).2)
theorem all_put {α : Type} (c : Cod α) (a : α) (r : Bytes) (h : c.ok a) : c.all (c.enc a ++ r, 0) = (a, pform (decide (0 < r.length)) (r, 0)) := by
  unfold all
  rw [c.put a r h]
theorem all_cut {α : Type} (c : Cod α) (a : α) (p : Nat) (h : c.ok a) (hp : p < (c.enc a).length) : (c.all ((c.enc a).take p, 0)).2.2 = 3 := by
  unfold all
  have h3 := c.cut a p h hp
  rw [pform_bad _ _ (by rw [h3]; decide), h3]
theorem all_inv {α : Type} (c : Cod α) (b : Bytes) (h : (c.all (b, 0)).2.2 = 0) : b = c.enc (c.all (b, 0)).1 ∧ c.ok (c.all (b, 0)).1 := by
  unfold all at h ⊢
  obtain ⟨h1, h2, h3⟩ := pform_inv _ _ h
  have h4 := c.inv _ h1
  refine ⟨?_, h4.2⟩
  have h5 : (c.P (b, 0)).2.1 = [] := List.eq_nil_of_length_eq_zero (by have := of_decide_eq_false h2; omega)
  rw [h5, List.append_nil] at h4
  exact h4.1
theorem enc_inj {α : Type} (c : Cod α) {a b : α} (ha : c.ok a) (hb : c.ok b) (h : c.enc a = c.enc b) : a = b := by
  have h1 := c.put a [] ha
  have h2 := c.put b [] hb
  rw [h, h2] at h1
  exact (congrArg Prod.fst h1).symm
end Cod
end Go.Proofs.Ytccpbchcfgggmaa
