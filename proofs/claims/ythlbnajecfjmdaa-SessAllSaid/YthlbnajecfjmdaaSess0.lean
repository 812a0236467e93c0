/- Sessions, in plain Lean: who asked already, and what is kept. -/
import Derived.Test.YthlbnajecfjmdaaDel
namespace Go.Proofs.Ythlbnajecfjmdaa
set_option linter.unusedVariables false
set_option linter.unusedSimpArgs false
set_option linter.unnecessarySimpa false
set_option maxRecDepth 100000
open Go.RowKit
def stale (seq high : Int) : Bool := decide (4 ≤ high) && decide (seq ≤ high - 4)
abbrev ltC (c : Int) (s : Se) : Bool := decide (s.client < c)
abbrev ltQ (c : Int) (s : Dn) : Bool := decide (s.seq < c)
/-- where a client's session stands; is it there? -/
def sat (l : List Se) (c : Int) : Nat × Bool := (cntP (ltC c) l, (l[cntP (ltC c) l]?).any fun s => decide (s.client = c))
def sown (l : List Se) (c : Int) : Se := match l[cntP (ltC c) l]? with
  | some s => if s.client = c then s else ⟨c, 0, []⟩
  | none => ⟨c, 0, []⟩
def kept (d : List Dn) (q : Int) : Option An := (d.find? fun x => decide (x.seq = q)).map (·.an)
def ask (s : St) (client seq : Int) : An × Bool :=
  if client < 0 ∨ 4 ≤ client ∨ seq = 0 then (⟨1, []⟩, true)
  else match kept (sown s.sess client).done seq with
    | some a => (a, true)
    | none => if stale seq (sown s.sess client).high = true then (⟨14, []⟩, true) else (⟨0, []⟩, false)
def swith (l : List Se) (x : Se) : List Se := if (sat l x.client).2 = true then l.set (sat l x.client).1 x else l.take (sat l x.client).1 ++ x :: l.drop (sat l x.client).1
def dput (d : List Dn) (x : Dn) : List Dn := d.take (cntP (ltQ x.seq) d) ++ x :: d.drop (cntP (ltQ x.seq) d)
def skeep (own : Se) (seq : Int) (a : An) : Se := ⟨own.client, max own.high seq, dput (own.done.filter fun d => !(decide (d.seq = seq) || stale d.seq (max own.high seq))) ⟨seq, a⟩⟩
def keep (s : St) (client seq : Int) (a : An) : St := ⟨s.now, s.count, s.links, swith s.sess (skeep (sown s.sess client) seq a)⟩
/-- lists that rise -/
def RiseS (l : List Se) : Prop := l.Pairwise fun a b => a.client < b.client
def RiseD (l : List Dn) : Prop := l.Pairwise fun a b => a.seq < b.seq
theorem pw_at {α : Type} {R : α → α → Prop} {l : List α} (h : l.Pairwise R) {i j : Nat} {a b : α} (hij : i < j) (ha : l[i]? = some a) (hb : l[j]? = some b) : R a b := by
  obtain ⟨h1, rfl⟩ := List.getElem?_eq_some_iff.1 ha
  obtain ⟨h2, rfl⟩ := List.getElem?_eq_some_iff.1 hb
  exact List.pairwise_iff_getElem.1 h i j h1 h2 hij
theorem RiseS.mono {l : List Se} (h : RiseS l) (c : Int) : Mono (ltC c) l := by
  intro i j a b hij ha hb hp
  simp only [decide_eq_true_eq] at hp ⊢
  rcases Nat.lt_or_ge i j with hlt | hge
  · have := pw_at h hlt ha hb; omega
  · obtain rfl : i = j := by omega
    rw [ha] at hb
    obtain rfl := Option.some.inj hb
    exact hp
theorem RiseD.mono {l : List Dn} (h : RiseD l) (c : Int) : Mono (ltQ c) l := by
  intro i j a b hij ha hb hp
  simp only [decide_eq_true_eq] at hp ⊢
  rcases Nat.lt_or_ge i j with hlt | hge
  · have := pw_at h hlt ha hb; omega
  · obtain rfl : i = j := by omega
    rw [ha] at hb
    obtain rfl := Option.some.inj hb
    exact hp
theorem RiseD.filter {l : List Dn} (h : RiseD l) (p : Dn → Bool) : RiseD (l.filter p) := List.Pairwise.filter p h
end Go.Proofs.Ythlbnajecfjmdaa
