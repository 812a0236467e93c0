/- A part of the proof of 'MsgAll'. -/
import Derived.Test.YtlblgopfdadalaaM3
import Derived.Test.YtlblgopfdadalaaM2
import Derived.Test.YtlblgopfdadalaaM1
namespace Go.Proofs.Ytlblgopfdadalaa
set_option linter.unusedVariables false
set_option linter.unusedSimpArgs false
set_option linter.unnecessarySimpa false
set_option maxRecDepth 100000
open Go.RowKit
structure Cod (α : Type) where
  P : Rdr → α × Rdr
  enc : α → Bytes
  ok : α → Prop
  put : ∀ a r, ok a → P (enc a ++ r, 0) = (a, (r, 0))
  cut : ∀ a p, ok a → p < (enc a).length → (P ((enc a).take p, 0)).2.2 = 3
  err : ∀ s, s.2 ≠ 0 → (P s).2.2 = s.2
  inv : ∀ s, (P s).2.2 = 0 → s.1 = enc (P s).1 ++ (P s).2.1 ∧ ok (P s).1
theorem Cod.zero {α : Type} (c : Cod α) {s : Rdr} (h : (c.P s).2.2 = 0) : s.2 = 0 := by
  by_cases hs : s.2 = 0
  · exact hs
  · rw [c.err s hs] at h; exact absurd h hs
namespace Cod
/-- a number of n bytes -/
def num (n : Nat) : Cod Int where
  P := pnum n
  enc v := be n v.toNat
  ok v := 0 ≤ v ∧ v < 256 ^ n
  put a r h := pnum_be n a r h.1 (by have := h.2; have e : ((256 ^ n : Nat) : Int) = 256 ^ n := by simp
                                     omega)
  cut a p h hp := by rw [pnum_short n _ (by rw [List.length_take]; rw [be_length] at hp; omega)]
  err s h := by rw [pnum_bad n s h]
  inv s h := (pnum_inv n s h).2
def text : Cod Bytes where
  P := ptext
  enc s := oputBytes [] s
  ok s := s.length ≤ 4294967295
  put a r h := ptext_put a r h
  cut a p h hp := by rw [ptext_short a p h (by rw [oputBytes_length] at hp; simpa using hp)]
  err s h := by rw [ptext_bad s h]
  inv s h := (ptext_inv s h).2
def pair {α β : Type} (c : Cod α) (d : Cod β) : Cod (α × β) where
  P s := (((c.P s).1, (d.P (c.P s).2).1), (d.P (c.P s).2).2)
  enc a := c.enc a.1 ++ d.enc a.2
  ok a := c.ok a.1 ∧ d.ok a.2
  put a r h := by rw [List.append_assoc, c.put a.1 _ h.1, d.put a.2 _ h.2]
  cut a p h hp := by
    rw [List.length_append] at hp
    rcases Nat.lt_or_ge p (c.enc a.1).length with h1 | h1
    · rw [take_head _ _ _ h1]
      have h3 := c.cut a.1 p h.1 h1
      rw [d.err _ (by rw [h3]; decide), h3]
    · rw [take_tail _ _ _ h1, c.put a.1 _ h.1]
      exact d.cut a.2 _ h.2 (by omega)
  err s h := by
    have h1 := c.err s h
    rw [d.err _ (by rw [h1]; exact h), h1]
  inv s h := by
    have h1 := d.inv _ h
    have h2 := c.inv s (d.zero h)
    exact ⟨by rw [List.append_assoc, ← h1.1]; exact h2.1, h2.2, h1.2⟩
/-- some values are of no form -/
def form {α : Type} (c : Cod α) (bad : α → Bool) : Cod α where
  P s := ((c.P s).1, pform (bad (c.P s).1) (c.P s).2)
  enc := c.enc
  ok a := c.ok a ∧ bad a = false
  put a r h := by rw [c.put a r h.1, h.2, pform_no]
  cut a p h hp := by
    have h3 := c.cut a p h.1 hp
    rw [pform_bad _ _ (by rw [h3]; decide), h3]
  err s h := by
    have h1 := c.err s h
    rw [pform_bad _ _ (by rw [h1]; exact h), h1]
  inv s h := by
    obtain ⟨h1, h2, h3⟩ := pform_inv _ _ h
    rw [h3]
    exact ⟨(c.inv s h1).1, (c.inv s h1).2, h2⟩
def map {α β : Type} (c : Cod α) (f : α → β) (g : β → α) (okB : β → Prop) (h1 : ∀ b, okB b → c.ok (g b) ∧ f (g b) = b) (h2 : ∀ a, c.ok a → okB (f a) ∧ g (f a) = a) : Cod β where
  P s := (f (c.P s).1, (c.P s).2)
  enc b := c.enc (g b)
  ok := okB
  put b r h := by rw [c.put _ r (h1 b h).1, (h1 b h).2]
  cut b p h hp := c.cut _ p (h1 b h).1 hp
  err s h := c.err s h
  inv s h := by
    have h3 := c.inv s h
    exact ⟨by rw [(h2 _ h3.2).2]; exact h3.1, (h2 _ h3.2).1⟩
/-- so many -/
def rep {α : Type} (c : Cod α) : Nat → Rdr → List α × Rdr
  | 0, s => ([], s)
  | n + 1, s => if s.2 = 0 then ((c.P s).1 :: (rep c n (c.P s).2).1, (rep c n (c.P s).2).2) else ([], s)
def encs {α : Type} (c : Cod α) : List α → Bytes
  | [] => []
  | a :: l => c.enc a ++ encs c l
theorem rep_err {α : Type} (c : Cod α) : ∀ (n : Nat) (s : Rdr), s.2 ≠ 0 → (rep c n s).2 = s
  | 0, _, _ => rfl
  | n + 1, s, h => by rw [rep, if_neg h]
theorem rep_put {α : Type} (c : Cod α) : ∀ (l : List α) (r : Bytes), (∀ a ∈ l, c.ok a) → rep c l.length (encs c l ++ r, 0) = (l, (r, 0))
  | [], r, _ => rfl
  | a :: l, r, h => by
    rw [encs, List.append_assoc, List.length_cons, rep, if_pos rfl, c.put a _ (h a List.mem_cons_self), rep_put c l r fun x hx => h x (List.mem_cons_of_mem _ hx)]
theorem rep_cut {α : Type} (c : Cod α) : ∀ (l : List α) (p : Nat), (∀ a ∈ l, c.ok a) → p < (encs c l).length → (rep c l.length ((encs c l).take p, 0)).2.2 = 3
  | [], p, _, hp => by simp [encs] at hp
  | a :: l, p, h, hp => by
    rw [encs, List.length_append] at hp
    rw [encs, List.length_cons, rep, if_pos rfl]
    rcases Nat.lt_or_ge p (c.enc a).length with h1 | h1
    · rw [take_head _ _ _ h1]
      have h3 := c.cut a p (h a List.mem_cons_self) h1
      simp only
      rw [rep_err c _ _ (by rw [h3]; decide), h3]
    · rw [take_tail _ _ _ h1, c.put a _ (h a List.mem_cons_self)]
      exact rep_cut c l _ (fun x hx => h x (List.mem_cons_of_mem _ hx)) (by omega)
theorem rep_inv {α : Type} (c : Cod α) : ∀ (n : Nat) (s : Rdr), (rep c n s).2.2 = 0 → s.2 = 0 ∧ s.1 = encs c (rep c n s).1 ++ (rep c n s).2.1 ∧ (rep c n s).1.length = n ∧ ∀ a ∈ (rep c n s).1, c.ok a
  | 0, s, h => ⟨h, rfl, rfl, by simp [rep]⟩
  | n + 1, s, h => by
    by_cases hs : s.2 = 0
    · rw [rep, if_pos hs] at h ⊢
      obtain ⟨h1, h2, h3, h4⟩ := rep_inv c n _ h
      have h5 := c.inv s h1
      refine ⟨hs, ?_, by simp [h3], fun a ha => ?_⟩
      · simp only [encs]
        rw [List.append_assoc, ← h2]
        exact h5.1
      · rcases List.mem_cons.1 ha with rfl | ha
        · exact h5.2
        · exact h4 a ha
    · rw [rep, if_neg hs] at h
      exact absurd h hs
/-- a list, its length ahead of it -/
def list {α : Type} (c : Cod α) : Cod (List α) where
  P s := rep c (pnum 2 s).1.toNat (pnum 2 s).2
  enc l := be 2 l.length ++ encs c l
  ok l := l.length < 65536 ∧ ∀ a ∈ l, c.ok a
  put l r h := by
    have e := pnum_be 2 (l.length : Int) (encs c l ++ r) (by omega) (by have : 256 ^ 2 = 65536 := rfl; have := h.1; omega)
    simp only [Int.toNat_natCast] at e
    rw [List.append_assoc, e]
    exact rep_put c l r h.2
  cut l p h hp := by
    rw [List.length_append, be_length] at hp
    rcases Nat.lt_or_ge p 2 with h1 | h1
    · rw [take_head _ _ _ (by rw [be_length]; exact h1), pnum_short 2 _ (by rw [List.length_take, be_length]; omega)]
      rw [rep_err c _ _ (by simp)]
    · have e := pnum_be 2 (l.length : Int) ((encs c l).take (p - 2)) (by omega) (by have : 256 ^ 2 = 65536 := rfl; have := h.1; omega)
      simp only [Int.toNat_natCast] at e
      rw [take_tail _ _ _ (by rw [be_length]; exact h1), be_length, e]
      exact rep_cut c l _ h.2 (by omega)
  err s h := by rw [pnum_bad 2 s h, rep_err c _ _ h]
  inv s h := by
    obtain ⟨h1, h2, h3, h4⟩ := rep_inv c _ _ h
    obtain ⟨g1, g2, g3, g4⟩ := pnum_inv 2 s h1
    have e : (256 : Int) ^ 2 = 65536 := rfl
    rw [e] at g4
    refine ⟨?_, by rw [h3]; omega, h4⟩
    rw [List.append_assoc, ← h2, h3]
    exact g2
/-- bytes to the end -/
def all {α : Type} (c : Cod α) (s : Rdr) : α × Rdr := ((c.P s).1, pform (decide (0 < (c.P s).2.1.length)) (c.P s).2)
theorem all_put {α : Type} (c : Cod α) (a : α) (r : Bytes) (h : c.ok a) : c.all (c.enc a ++ r, 0) = (a, pform (decide (0 < r.length)) (r, 0)) := by
  unfold all
  rw [c.put a r h]
end Cod
end Go.Proofs.Ytlblgopfdadalaa
namespace Go.Proofs.Ytlblgopfdadalaa
set_option linter.unusedVariables false
set_option linter.unusedSimpArgs false
set_option linter.unnecessarySimpa false
set_option maxRecDepth 100000
open Go.RowKit
structure Hd where
  term : Int
  vote : Int
structure En where
  term : Int
  data : Bytes
structure Sn where
  index : Int
  term : Int
  state : Bytes
structure Rec where
  kind : Int
  hard : Hd
  ent : En
  index : Int
  snap : Sn
def Hd0 : Hd := ⟨0, 0⟩
def En0 : En := ⟨0, []⟩
def Sn0 : Sn := ⟨0, 0, []⟩
def may (r : Rec) : Bool := if r.kind = 1 then decide (0 ≤ r.hard.vote) && decide (r.hard.vote ≤ 7) else decide (1 < r.kind) && decide (r.kind ≤ 4)
structure Rec.wide (r : Rec) : Prop where
  k0 : -9223372036854775808 ≤ r.kind
  k1 : r.kind ≤ 9223372036854775807
  t0 : 0 ≤ r.hard.term
  t1 : r.hard.term ≤ 18446744073709551615
  v0 : -9223372036854775808 ≤ r.hard.vote
  v1 : r.hard.vote ≤ 9223372036854775807
  e0 : 0 ≤ r.ent.term
  e1 : r.ent.term ≤ 18446744073709551615
  i0 : 0 ≤ r.index
  i1 : r.index ≤ 18446744073709551615
  n0 : 0 ≤ r.snap.index
  n1 : r.snap.index ≤ 18446744073709551615
  s0 : 0 ≤ r.snap.term
  s1 : r.snap.term ≤ 18446744073709551615
def one (r : Rec) : Bytes :=
  UInt8.ofNat r.kind.toNat :: (if r.kind = 1 then be 8 r.hard.term.toNat ++ be 1 r.hard.vote.toNat else if r.kind = 2 then be 8 r.ent.term.toNat ++ r.ent.data
    else if r.kind = 3 then be 8 r.index.toNat else be 8 r.snap.index.toNat ++ (be 8 r.snap.term.toNat ++ r.snap.state))
def fixr (r : Rec) : Rec :=
  if r.kind = 1 then ⟨r.kind, r.hard, En0, 0, Sn0⟩ else if r.kind = 2 then ⟨r.kind, Hd0, r.ent, 0, Sn0⟩ else if r.kind = 3 then ⟨r.kind, Hd0, En0, r.index, Sn0⟩
  else if r.kind = 4 then ⟨r.kind, Hd0, En0, 0, r.snap⟩ else ⟨r.kind, Hd0, En0, 0, Sn0⟩
def right : List Rec → List Rec
  | [] => []
  | r :: l => if may r = true then fixr r :: right l else right l
end Go.Proofs.Ytlblgopfdadalaa
namespace Go.Proofs.Ytlblgopfdadalaa
set_option linter.unusedVariables false
set_option linter.unusedSimpArgs false
set_option linter.unnecessarySimpa false
set_option maxRecDepth 100000
open Go.RowKit
abbrev I64 (n : Int) : Prop := -9223372036854775808 ≤ n ∧ n ≤ 9223372036854775807
abbrev U64 (n : Int) : Prop := 0 ≤ n ∧ n ≤ 18446744073709551615
end Go.Proofs.Ytlblgopfdadalaa
namespace Go.Proofs.Ytlblgopfdadalaa
set_option linter.unusedVariables false
set_option linter.unusedSimpArgs false
set_option linter.unnecessarySimpa false
set_option maxRecDepth 100000
open Go.RowKit
structure An where
  err : Int
  text : Bytes
abbrev anE : Enc An := Enc.map (.pair .i64 (.pair .text .unit)) fun a => (a.err, a.text, ())
open Enc in
theorem anE_opens : Opens 31 anE :=
  (opens_struct Try.underlying31 (by kernel_rfl) (.cons rfl (by kernel_rfl) (opens_int Try.underlying29 wf_i64) (.cons rfl (by kernel_rfl) (opens_text Try.underlying9) (.nil _)))).map _ fun ⟨a, b, _⟩ => ⟨⟨a, b⟩, rfl⟩
abbrev acells (a : An) : List Value := [.int .i64 a.err, str a.text]
section
variable {w : World} {X : Avoid} {cs : List Value}
theorem an_rep {a : An} : anE.rep w X cs a ↔ cs = acells a ∧ I64 a.err ∧ a.text.length ≤ maxLen := by
  constructor
  · rintro ⟨c1, c2, rfl, ⟨rfl, h1⟩, c3, c4, rfl, ⟨rfl, h2⟩, rfl⟩
    exact ⟨rfl, h1, h2⟩
  · rintro ⟨rfl, h1, h2⟩
    exact ⟨[_], [_], rfl, ⟨rfl, h1⟩, [_], [], rfl, ⟨rfl, h2⟩, rfl⟩
end
end Go.Proofs.Ytlblgopfdadalaa
namespace Go.Proofs.Ytlblgopfdadalaa
set_option linter.unusedVariables false
set_option linter.unusedSimpArgs false
set_option linter.unnecessarySimpa false
set_option maxRecDepth 100000
open Go.RowKit
structure Mg where
  kind : Int
  fro : Int
  too : Int
  term : Int
  index : Int
  logTerm : Int
  ents : List En
  commit : Int
  round : Int
  ok : Bool
  snap : Sn
  cmd : Cm
  an : An
def Mg0 : Mg := ⟨0, 0, 0, 0, 0, 0, [], 0, 0, false, Sn0, Cm.zero, ⟨0, []⟩⟩
/-- two bytes as a number below and above nought -/
def sign2 (v : Int) : Int := if 32768 ≤ v then v - 65536 else v
namespace Cod
def numB (n : Nat) (lo hi : Int) : Cod Int := (num n).form fun v => decide (v < lo ∨ hi < v)
def flag : Cod Bool := (numB 1 0 1).map (fun v => decide (v = 1)) (fun b => if b = true then 1 else 0) (fun _ => True)
  (fun b _ => by
    cases b
    · exact ⟨⟨(by show (0 : Int) ≤ 0 ∧ (0 : Int) < 256 ^ 1; decide), rfl⟩, rfl⟩
    · exact ⟨⟨(by show (0 : Int) ≤ 1 ∧ (1 : Int) < 256 ^ 1; decide), rfl⟩, rfl⟩)
  (fun a h => ⟨trivial, by
    have h1 := of_decide_eq_false h.2
    by_cases h2 : a = 1
    · simp [h2]
    · simp [h2]; omega⟩)
def place : Cod Int := (num 2).map sign2 (fun v => v % 65536) (fun v => -32768 ≤ v ∧ v ≤ 32767)
  (fun b h => ⟨⟨by omega, by have e : (256 : Int) ^ 2 = 65536 := rfl; rw [e]; omega⟩, by unfold sign2; split <;> omega⟩)
  (fun a h => by
    have e : (256 : Int) ^ 2 = 65536 := rfl
    obtain ⟨h1, h2⟩ := h
    rw [e] at h2
    unfold sign2
    split
    · exact ⟨⟨by omega, by omega⟩, by omega⟩
    · exact ⟨⟨by omega, by omega⟩, by omega⟩)
def ent : Cod En := (pair (num 8) text).map (fun p => ⟨p.1, p.2⟩) (fun e => (e.term, e.data)) (fun e => (pair (num 8) text).ok (e.term, e.data)) (fun _ h => ⟨h, rfl⟩) (fun _ h => ⟨h, rfl⟩)
def snC : Cod Sn := (pair (num 8) (pair (num 8) text)).map (fun p => ⟨p.1, p.2.1, p.2.2⟩) (fun e => (e.index, e.term, e.state)) (fun e => (pair (num 8) (pair (num 8) text)).ok (e.index, e.term, e.state)) (fun _ h => ⟨h, rfl⟩) (fun _ h => ⟨h, rfl⟩)
theorem ctake_nil : ctake [] = (Cm.zero, 0) := if_pos rfl
theorem ctake_kind (b : Bytes) (h : (ctake b).2 = 0) : (ctake b).1.kind ≠ 0 ∨ (ctake b).1 = Cm.zero := by
  unfold ctake at *
  by_cases hb : b = []
  · rw [if_pos hb]; exact .inr rfl
  · rw [if_neg hb] at *
    by_cases he : (pall (b, 0)).2.2 = 0
    · rw [if_pos he]
      exact .inl (pall_inv b he).2.2
    · rw [if_neg he] at h; exact absurd h he
theorem ctake_cput {c : Cm} (h : c.ok) (hk : c.kind ≠ 0 ∨ c = Cm.zero) : ctake (cput c) = (c, 0) := by
  rcases hk with hk | rfl
  · exact ctake_put c h hk
  · exact ctake_nil
def cmd : Cod Cm where
  P s := if (ptext s).2.2 = 0 then ((ctake (ptext s).1).1, pform (decide ((ctake (ptext s).1).2 ≠ 0)) (ptext s).2) else (Cm.zero, (ptext s).2)
  enc c := oputBytes [] (cput c)
  ok c := c.ok ∧ (c.kind ≠ 0 ∨ c = Cm.zero) ∧ (cput c).length ≤ 4294967295
  put c r h := by
    rw [ptext_put _ r h.2.2]
    simp only [if_true, ctake_cput h.1 h.2.1]
    simp [pform_no]
  cut c p h hp := by
    rw [ptext_short _ p h.2.2 (by rw [oputBytes_length] at hp; simpa using hp)]
    rw [if_neg (by simp)]
  err s h := by
    rw [ptext_bad s h, if_neg h]
  inv s h := by
    by_cases h1 : (ptext s).2.2 = 0
    · rw [if_pos h1] at h ⊢
      obtain ⟨h2, h3, h4⟩ := pform_inv _ _ h
      have h5 : (ctake (ptext s).1).2 = 0 := by simpa using h3
      have h6 := cput_take _ h5
      have h7 := ptext_inv s h1
      rw [h4]
      simp only
      rw [h6.1]
      exact ⟨h7.2.1, h6.2, ctake_kind _ h5, h7.2.2⟩
    · rw [if_neg h1] at h
      exact absurd h h1
abbrev MT := Int × Int × Int × Int × Int × Int × Int × Int × Bool × List En × Sn × Cm × Int × Bytes
def msgI (kc ec : Cod Int) : Cod MT :=
  pair kc (pair place (pair place (pair (num 8) (pair (num 8) (pair (num 8) (pair (num 8) (pair (num 8) (pair flag (pair (list ent) (pair snC (pair cmd (pair ec text))))))))))))
end Cod
def Mg.of (t : Cod.MT) : Mg := ⟨t.1, t.2.1, t.2.2.1, t.2.2.2.1, t.2.2.2.2.1, t.2.2.2.2.2.1, t.2.2.2.2.2.2.2.2.2.1, t.2.2.2.2.2.2.1, t.2.2.2.2.2.2.2.1, t.2.2.2.2.2.2.2.2.1, t.2.2.2.2.2.2.2.2.2.2.1, t.2.2.2.2.2.2.2.2.2.2.2.1, ⟨t.2.2.2.2.2.2.2.2.2.2.2.2.1, t.2.2.2.2.2.2.2.2.2.2.2.2.2⟩⟩
def Mg.to (m : Mg) : Cod.MT := (m.kind, m.fro, m.too, m.term, m.index, m.logTerm, m.commit, m.round, m.ok, m.ents, m.snap, m.cmd, m.an.err, m.an.text)
/-- letters -/
def msgC : Cod Mg := (Cod.msgI (Cod.numB 1 1 7) (Cod.numB 1 0 16)).map Mg.of Mg.to (fun m => (Cod.msgI (Cod.numB 1 1 7) (Cod.numB 1 0 16)).ok m.to) (fun _ h => ⟨h, rfl⟩) (fun _ h => ⟨h, rfl⟩)
def mtake (b : Bytes) : Mg × Int := if (msgC.all (b, 0)).2.2 = 0 then ((msgC.all (b, 0)).1, 0) else (Mg0, (msgC.all (b, 0)).2.2)
theorem mtake_put {m : Mg} (h : msgC.ok m) : mtake (msgC.enc m) = (m, 0) := by
  have h1 := msgC.all_put m [] h
  rw [List.append_nil] at h1
  unfold mtake
  rw [h1]
  rfl
end Go.Proofs.Ytlblgopfdadalaa
namespace Go.Proofs.Ytlblgopfdadalaa
set_option linter.unusedVariables false
set_option linter.unusedSimpArgs false
set_option linter.unnecessarySimpa false
set_option maxRecDepth 100000
open Go.RowKit
end Go.Proofs.Ytlblgopfdadalaa
namespace Go.Proofs.Ytlblgopfdadalaa
set_option linter.unusedVariables false
set_option linter.unusedSimpArgs false
set_option linter.unnecessarySimpa false
set_option maxRecDepth 100000
open Go.RowKit
set_option maxHeartbeats 400000 in
theorem rput_b (x : Value) (l : Bytes) (v n : Int) (w : World) (hv : 0 ≤ v ∧ v ≤ 18446744073709551615) (hn : -9223372036854775808 ≤ n ∧ n ≤ 9223372036854775807) (hl : l.length ≤ 140737488355000) (hr : Bs w x l) :
    Calls Try.prog 42 #[x, .int .u64 v, .int .i64 n] w fun e w' => RetNw w w' e (oput l v n) := by
  obtain ⟨i0, hi, hz0, hz1, hz2⟩ := info_parts ti5
  obtain ⟨A, c, rfl, h1, h2, h3⟩ := id hr
  by_cases hb : n < 0 ∨ 8 < n
  · have e1 : oput l v n = l := if_pos hb
    rw [e1]
    clear e1
    go_enter Try.func42, Try.ntmps42
    go_wp2_with (at_builtin; refine wpList_app w _ rfl (.tmp 9) (.tmp 10) rfl _ [] rfl (nw_lit w _ (Ext.rfl' _) _ rfl) ((Ext.rfl' _).alloc' _) _ l rfl (hr.ext ((Ext.rfl' _).alloc' _)) (by simp; omega) ?_; intro m Am cm w1 hm hy hx _)
    all_goals go_ret
    all_goals exact ⟨m, Am, cm, hm, rfl, hy, hx⟩
  · have hb1 : ¬ n < 0 := fun h => hb (.inl h)
    have hb2 : ¬ 8 < n := fun h => hb (.inr h)
    clear hb
    go_enter Try.func42, Try.ntmps42
    go_wp2_with (at_builtin; refine wpList_app w _ rfl (.tmp 9) (.tmp 10) rfl _ [] rfl (nw_lit w _ (Ext.rfl' _) _ rfl) ((Ext.rfl' _).alloc' _) _ l rfl (hr.ext ((Ext.rfl' _).alloc' _)) (by simp; omega) ?_; intro m Am cm w1 hm hy hx _)
    obtain ⟨N, rfl⟩ := Int.eq_ofNat_of_zero_le (show (0 : Int) ≤ n by omega)
    go_loopw [7, 8] (fun o i wr => ∃ (k : Nat) (pre : Bytes), k ≤ N ∧ i = .int .i64 (N - k) ∧ Hid (pre ++ be k v.toNat = be N v.toNat) ∧ pre.length ≤ 8 ∧ wr.ownsRow w.heap.size 5 1 o (l ++ pre).length (bv (l ++ pre)) ∧ Ext w wr) (fun _ i _ => (N - intOf i).toNat)
    case atStart => exact ⟨N, [], Nat.le_refl _, by simp, hide rfl, by simp, by have := hm.out; simp only [List.nil_append] at this; subst this; simpa [Nw] using hy, hx⟩
    case round =>
      obtain ⟨k, pre, hk, rfl, hpre, hp8, ho, hx1⟩ := hrel
      rcases k with _ | k
      · go_wp2
        go_ret
        have e2 : oput l v N = l ++ pre := by
          have := hpre.out
          simp [be] at this
          rw [oput, if_neg (by omega), this]; simp
        exact RetNw.mk (by rw [e2]; exact ho) hx1
      · have s1 : (l ++ pre).length + 1 ≤ maxLen := by simp [maxLen]; omega
        have s2 : ((l ++ pre).length + 1) * 1 ≤ 140737488355328 := by simp; omega
        have s3 : w.heap.size ≤ wr.heap.size + 1 := Nat.le_trans hx1.size (Nat.le_succ _)
        have e1 := hide (be_step k v hv)
        obtain ⟨i, hi'⟩ : ∃ i : Int, (N : Int) - ((k + 1 : Nat) : Int) = i := ⟨_, rfl⟩
        rw [hi']
        have hsh : (N : Int) - 1 - i = k := by omega
        go_wp2_with (at_builtin; refine wpList_append_any _ rfl (.tmp 24) (.tmp 33) 24 rfl w.heap.size 5 i0 (.int .u8 0) 1 1 Try.underlying24 hi hz0 hz1 hz2 rfl (by decide) u7 _ _ rfl (ho.alloc _) _ _ 1 1 _ rfl (Reads.one _ _ _) (one_int _ _) s1 s2 (by simpa using s3) ?_; intro v' w' hown hg _)
        go_roundw
        case rel =>
          obtain ⟨e1, e2⟩ := e1.out
          have e3 := hpre.out
          rw [e1] at e3
          have e4 := congrArg List.length e3
          simp [be_length] at e4
          refine ⟨k, pre ++ [UInt8.ofNat (v.toNat / 2 ^ (8 * k))], by omega, by go_num, hide (by rw [← e3]; simp), by simp; omega, ?_, (hx1.alloc' _).grown' hg (fun j hj => (ho.lt j hj).1)⟩
          rw [e2] at hown
          simpa [bv, Nat.add_assoc] using hown
        case measure => simp [intOf]; omega
set_option maxHeartbeats 400000 in
theorem rtake_b (x : Value) (l : Bytes) (n : Int) (w : World) (hn : -9223372036854775808 ≤ n ∧ n ≤ 9223372036854775807) (hl : l.length ≤ 140737488355328) (hr : Bs w x l) :
    Calls Try.prog 77 #[x, .int .i64 n] w fun e w' => e = .returned (.tuple #[.int .u64 (otake l n).1, .int .i64 (otake l n).2]) ∧ w = w' := by
  obtain ⟨A, c, rfl, h1, h2, h3⟩ := hr
  by_cases hb : n < 0 ∨ 8 < n
  · have e1 : otake l n = (0, 1) := if_pos hb
    rw [e1]
    clear e1
    go_enter Try.func77, Try.ntmps77
    go_wp2
    all_goals go_ret2
    all_goals exact ⟨rfl, rfl⟩
  · have hb1 : ¬ n < 0 := fun h => hb (.inl h)
    have hb2 : ¬ 8 < n := fun h => hb (.inr h)
    by_cases hs : (l.length : Int) < n
    · have e1 : otake l n = (0, 3) := by rw [otake, if_neg hb, if_pos hs]
      rw [e1]
      clear e1 hb
      go_enter Try.func77, Try.ntmps77
      go_wp2
      all_goals go_ret2
      all_goals exact ⟨rfl, rfl⟩
    · obtain ⟨N, rfl⟩ := Int.eq_ofNat_of_zero_le (show (0 : Int) ≤ n by omega)
      have e1 : otake l N = (((val (l.take N) : Nat) : Int), (0 : Int)) := by rw [otake, if_neg hb, if_neg hs]; rfl
      rw [e1]
      clear e1 hb
      go_enter Try.func77, Try.ntmps77
      go_wp2
      go_loop [6, 7] (fun v i => ∃ k : Nat, k ≤ N ∧ i = .int .i64 k ∧ v = .int .u64 (val (l.take k))) (fun _ i => (N - intOf i).toNat)
      case atStart => exact ⟨0, Nat.zero_le _, rfl, rfl⟩
      case round =>
        obtain ⟨k, hk, rfl, rfl⟩ := hrel
        by_cases hlt : k < N
        · obtain ⟨ad, b, rfl, hbk, hu, hcell, hb⟩ := h3.byte (show k < l.length by omega)
          have hv := val_take_lt l k (by omega)
          have e1 := hide (take_step l k b hu hv)
          go_wp2
          refine ⟨⟨k + 1, by omega, by go_num, ?_⟩, by simp [intOf]; omega⟩
          rw [e1.out]
        · go_wp2
          go_ret2
          obtain rfl : k = N := by omega
          exact ⟨rfl, rfl⟩
set_option maxHeartbeats 400000 in
theorem rputBytes_b (x y : Value) (b s : Bytes) (w : World) (hl : b.length + s.length ≤ 140737488350000) (hx : Bs w x b) (hy : Bs w y s) :
    Calls Try.prog 43 #[x, y] w fun e w' => RetNw w w' e (oputBytes b s) := by
  obtain ⟨A, c, rfl, h1, h2, h3⟩ := id hy
  have E1 : Hid (oput b s.length 4 = b ++ be 4 s.length) := by simp [oput, Hid]
  go_enter Try.func43, Try.ntmps43
  go_wp2_with fail
  refine (rput_b x b _ 4 w (by omega) (by omega) (by omega) hx).mono ?_
  rintro e w1 ⟨m, Am, cm, hm, rfl, hz, hx1⟩
  have hm' := hm.out.trans E1.out
  have hm2 := congrArg List.length hm'
  simp only [List.length_append, be_length] at hm2
  have HM := hide hm'
  have hlm : m.length + s.length ≤ 140737488355328 := by omega
  clear hm' hm2
  go_wp2_with (at_builtin; refine wpList_app w _ rfl (.tmp 9) (.tmp 10) rfl _ m rfl hz hx1 _ s rfl (hy.ext hx1) hlm ?_; intro k A' c' w2 hk hz2 hx2 _)
  go_ret
  exact ⟨k, A', c', hide (by rw [hk.out, HM.out]; simp [oputBytes]), rfl, hz2, hx2⟩
theorem rtake_ok (x : Value) (b : Bytes) (n : Nat) (w : World) (hn : n ≤ 8) (hl : b.length ≤ 140737488355328) (hr : Bs w x b) (h : n ≤ b.length) :
    Calls Try.prog 77 #[x, .int .i64 n] w fun e w' => ∃ k : Nat, Hid (k = val (b.take n)) ∧ k < 256 ^ n ∧ e = .returned (.tuple #[.int .u64 k, .int .i64 0]) ∧ w = w' := by
  refine (rtake_b x b n w (by omega) hl hr).mono ?_
  rintro e w' ⟨rfl, rfl⟩
  rcases otake_cases b n hn with ⟨h1, _⟩ | ⟨_, e1⟩
  · omega
  · have hlt := val_lt (b.take n)
    rw [List.length_take, Nat.min_eq_left h] at hlt
    rw [e1]
    exact ⟨_, hide rfl, hlt, rfl, rfl⟩
theorem rtake_short (x : Value) (b : Bytes) (n : Nat) (w : World) (hn : n ≤ 8) (hl : b.length ≤ 140737488355328) (hr : Bs w x b) (h : b.length < n) :
    Calls Try.prog 77 #[x, .int .i64 n] w fun e w' => e = .returned (.tuple #[.int .u64 0, .int .i64 3]) ∧ w = w' := by
  refine (rtake_b x b n w (by omega) hl hr).mono ?_
  rintro e w' ⟨rfl, rfl⟩
  rcases otake_cases b n hn with ⟨_, e1⟩ | ⟨h1, _⟩
  · rw [e1]; exact ⟨rfl, rfl⟩
  · omega
set_option maxHeartbeats 400000 in
theorem rtakeBytes_b (x : Value) (b : Bytes) (w : World) (hl : b.length ≤ 140737488350000) (hx : Bs w x b) :
    Calls Try.prog 78 #[x] w fun e w' => RetRead w w' e (otakeBytes b) := by
  obtain ⟨A, c, rfl, h1, h2, h3⟩ := id hx
  rcases Nat.lt_or_ge b.length 4 with hs | hs
  · have E : Hid (otakeBytes b = ([], 0, 3)) := if_pos (.inl hs)
    go_enter Try.func78, Try.ntmps78
    go_wp2_with (go_at_call 77; refine (rtake_short _ b 4 _ (by omega) (by omega) hx hs).mono ?_; rintro e w1 ⟨rfl, rfl⟩)
    all_goals go_ret3
    all_goals rw [E.out]
    all_goals exact RetRead.none_ (Below.refl _ _) 3
  · have HE : Hid (otakeBytes b = if b.length - 4 < val (b.take 4) then ([], 0, 3) else ((b.drop 4).take (val (b.take 4)), ((4 + val (b.take 4) : Nat) : Int), 0)) := by
      unfold Hid otakeBytes
      by_cases hc : b.length - 4 < val (b.take 4)
      · rw [if_pos (.inr hc), if_pos hc]
      · rw [if_neg (by omega), if_neg hc]
    have HT := hide (rtake_ok _ b 4 w (by omega) (by omega) hx hs)
    go_enter Try.func78, Try.ntmps78
    go_wp2_with fail
    refine HT.out.mono ?_
    rintro e w1 ⟨k, hk, hk3, rfl, rfl⟩
    have HE' : Hid (otakeBytes b = if b.length - 4 < k then ([], 0, 3) else ((b.drop 4).take k, ((4 + k : Nat) : Int), 0)) := by rw [hk.out]; exact HE
    clear HE
    by_cases hk2 : ((b.length : Int) - 4) < k
    · go_wp2
      all_goals go_ret3
      all_goals rw [HE'.out, if_pos (by omega)]
      all_goals exact RetRead.none_ (Below.refl _ _) 3
    · have hcut : Bs w (.slice (cutA 1 A c 4) (4 + k - 4) (c - 4)) ((b.drop 4).take k) := by rw [Nat.add_sub_cancel_left]; exact hx.cut (l := 4) (k := k) (by omega)
      have hlen : ((b.drop 4).take k).length ≤ 140737488350000 := by simp; omega
      go_wp2_with (at_builtin; refine wpList_app w _ rfl (.tmp 22) (.tmp 27) rfl _ [] rfl (nw_lit w _ (Ext.rfl' _) _ rfl) ((Ext.rfl' _).alloc' _) _ ((b.drop 4).take k) rfl (hcut.ext ((Ext.rfl' _).alloc' _)) (by simp only [List.length_nil]; omega) ?_; intro m Am cm w1 hm hz hx2 _)
      go_ret3
      rw [HE'.out, if_neg (by omega)]
      exact ⟨m, Am, cm, _, _, hide (by rw [hm.out]; simp), rfl, hz, hx2⟩
theorem own_ext {w w' : World} {base n : Nat} {e : TypeId} {size : Nat} {v : Value} {xs : List Value} (h : w.ownsRow base e size v n xs) (hx : Ext w w') : w'.ownsRow base e size v n xs := by
  refine ⟨h.1, ?_⟩
  rcases h.2 with h2 | ⟨g, cap, cur, hv, hg, hh, r⟩
  · exact .inl h2
  · exact .inr ⟨g, cap, cur, hv, hg, (Blk.ext (t := e) hh hx), r⟩
end Go.Proofs.Ytlblgopfdadalaa
namespace Go.Proofs.Ytlblgopfdadalaa
set_option linter.unusedVariables false
set_option linter.unusedSimpArgs false
set_option linter.unnecessarySimpa false
set_option maxRecDepth 100000
open Go.RowKit
/-- none yet, and no room -/
def App0 (w0 W : World) (v : Value) : Prop := ∃ A, v = .slice A 0 0 ∧ ∀ a, A = some a → w0.heap.size ≤ a.block ∧ a.block < W.heap.size
theorem App0.size {w0 W W' : World} {v : Value} (h : App0 w0 W v) (hs : W.heap.size ≤ W'.heap.size) : App0 w0 W' v := by
  obtain ⟨A, rfl, h2⟩ := h
  exact ⟨A, rfl, fun a ha => ⟨(h2 a ha).1, Nat.lt_of_lt_of_le (h2 a ha).2 hs⟩⟩
theorem App0.ext {w0 W W' : World} {v : Value} (h : App0 w0 W v) (hx : Ext W W') : App0 w0 W' v := h.size hx.size
theorem App0.lit {w0 w : World} (hx : Ext w0 w) (g : Nat) (hg : w.heap.size = g) (o : Obj) : App0 w0 (w.alloc o) (.slice (some ⟨g, 0, none⟩) 0 0) := by
  subst hg
  refine ⟨_, rfl, fun a ha => ?_⟩
  obtain rfl := Option.some.inj ha
  exact ⟨hx.size, by simp⟩
theorem App0.nil (w0 W : World) : App0 w0 W (.slice none 0 0) := ⟨none, rfl, fun a ha => by cases ha⟩
def App (w0 W : World) (v : Value) (l : Bytes) : Prop := (l = [] ∧ App0 w0 W v) ∨ Nw w0 W v l
theorem App.bs {w0 W : World} {v : Value} {l : Bytes} (h : App w0 W v l) : Bs W v l := by
  rcases h with ⟨rfl, A, rfl, _⟩ | h
  · exact Bs.mk' rfl (Nat.le_refl _) (by simp [maxLen]) ⟨rfl, fun h => absurd h (by omega)⟩
  · exact h.bs
theorem App.ext {w0 W W' : World} {v : Value} {l : Bytes} (h : App w0 W v l) (hx : Ext W W') : App w0 W' v l := by
  rcases h with ⟨h, h2⟩ | h
  · exact .inl ⟨h, h2.ext hx⟩
  · exact .inr (own_ext h hx)
theorem App.trans {w0 w1 W : World} {v : Value} {l : Bytes} (h : App w1 W v l) (hx : Ext w0 w1) : App w0 W v l := by
  rcases h with ⟨h, A, h2, h3⟩ | h
  · exact .inl ⟨h, A, h2, fun a ha => ⟨Nat.le_trans hx.size (h3 a ha).1, (h3 a ha).2⟩⟩
  · exact .inr (h.trans hx)
theorem App0.app {w0 W : World} {v : Value} (h : App0 w0 W v) : App w0 W v [] := .inl ⟨rfl, h⟩
theorem App.form {w0 W : World} {v : Value} {l : Bytes} (h : App w0 W v l) : ∃ A c, v = .slice A l.length c := by
  obtain ⟨A, c, rfl, _⟩ := h.bs
  exact ⟨A, c, rfl⟩
theorem App.off {w0 W : World} {v : Value} {l : Bytes} (h : App w0 W v l) {S : List Nat} (hs : ∀ k, k ∈ S → k < w0.heap.size) : Off v S := by
  rcases h with ⟨rfl, A, rfl, _⟩ | h
  · rintro ad n c he h0
    simp only [Value.slice.injEq] at he
    omega
  · exact h.off hs
end Go.Proofs.Ytlblgopfdadalaa
