import Derived.Test.YtggfemdgccgbpaaPk15
import Derived.Test.YtggfemdgccgbpaaPk10
import Derived.Laws.StructEq
/- slices.IndexFunc and slices.DeleteFunc of structs. -/
namespace Go.Proofs.Ytggfemdgccgbpaa
set_option linter.unusedVariables false
set_option linter.unusedSimpArgs false
set_option linter.unnecessarySimpa false
set_option maxRecDepth 100000
open Go.RowKit
def RetIdx {α : Type} (p : α → Bool) (l : List α) (w w' : World) (e : Ending) : Prop := (∃ r : Int, e = .returned (.int .i64 r) ∧ Hid ((r = -1 ∧ ∀ a ∈ l, p a = false) ∨ ∃ n : Nat, r = n ∧ n < l.length ∧ (∀ m a, m < n → l[m]? = some a → p a = false) ∧ ∀ a, l[n]? = some a → p a = true)) ∧ Ext w w'
theorem wpList_clear_run {P : Program} {w : World} {ops : Array Oper} {rest : List Oper} {o : Oper} {a : Act} {Q : Exit → Act → World → Prop} (hgd : o.guard = none) (s : Operand) (ts : Array TypeId)
    (ho : o.op = .call { callee := .builtin .clear, args := #[s], argTypes := ts }) (u : Value) (hs : a.eval s = u) {v : Value} {w' : World}
    (hr : (Builtin.clear_ ts o.type #[u]).run P w = .ok v w') (h : wpList P ops Q rest (a.put o.dst v) w') : wpList P ops Q (o :: rest) a w :=
  wpList_plain hgd fun _ hK => by
    unfold Oper.wp execOp
    simp only [ho, resolve, invoke, builtin, Sem.run_bind, Sem.run_pure, Result.andThen_ok, List.map_toArray, List.map_cons, List.map_nil, hs, hr]
    exact hK _ _ h
/-- what of the first b is kept, with its cells -/
def keepC {α : Type} (p : α → Bool) (css : List (List Value)) (l : List α) (b : Nat) : List (List Value × α) := ((css.zip l).take b).filter fun x => !p x.2
theorem keepC_succ {α : Type} (p : α → Bool) (css : List (List Value)) (l : List α) (b : Nat) (cs : List Value) (a : α) (h1 : css[b]? = some cs) (h2 : l[b]? = some a) : keepC p css l (b + 1) = keepC p css l b ++ if p a then [] else [(cs, a)] := by
  unfold keepC
  have h : (css.zip l)[b]? = some (cs, a) := by rw [List.getElem?_zip_eq_some]; exact ⟨h1, h2⟩
  rw [List.take_add_one, h, List.filter_append]
  cases hp : p a <;> simp [hp]
theorem keepC_all {α : Type} (p : α → Bool) (css : List (List Value)) (l : List α) (h : css.length = l.length) : (keepC p css l l.length).map (·.2) = l.filter fun a => !p a := by
  unfold keepC
  rw [List.take_of_length_le (by simp [h])]
  have e : l = (css.zip l).map Prod.snd := (List.map_snd_zip (by omega)).symm
  conv => rhs; rw [e, List.filter_map]
  rfl
theorem keepC_len {α : Type} (p : α → Bool) (css : List (List Value)) (l : List α) (b : Nat) : (keepC p css l b).length ≤ b := by
  unfold keepC
  exact Nat.le_trans (List.length_filter_le _ _) (by simp; omega)
theorem keepC_first {α : Type} (p : α → Bool) (css : List (List Value)) (l : List α) (h : css.length = l.length) (n : Nat) (hn : n < l.length) (h1 : ∀ m a, m < n → l[m]? = some a → p a = false) (h2 : ∀ a, l[n]? = some a → p a = true) :
    (keepC p css l (n + 1)).length = n ∧ ((keepC p css l (n + 1)).map (·.1)) = css.take n := by
  have e0 : keepC p css l n = (css.zip l).take n := by
    unfold keepC
    rw [List.filter_eq_self]
    intro x hx
    obtain ⟨m, hm⟩ := List.mem_iff_getElem?.1 hx
    rw [List.getElem?_take] at hm
    split at hm
    · rename_i hmn
      rw [List.getElem?_zip_eq_some] at hm
      rw [h1 m _ hmn hm.2]; rfl
    · cases hm
  have hc : css[n]? = some css[n] := List.getElem?_eq_getElem (by omega)
  have hl : l[n]? = some l[n] := List.getElem?_eq_getElem hn
  rw [keepC_succ p css l n _ _ hc hl, h2 _ hl, e0]
  simp only [if_true, List.append_nil]
  refine ⟨by simp [h]; omega, ?_⟩
  rw [List.map_take, List.map_fst_zip (by omega)]
theorem keepC_each {α : Type} {E : Enc α} {w : World} {X : Avoid} {p : α → Bool} {css : List (List Value)} {l : List α} (h : Enc.Each E w X css l) (b : Nat) : Enc.Each E w X ((keepC p css l b).map (·.1)) ((keepC p css l b).map (·.2)) := by
  refine ⟨by simp, fun k cs a h1 h2 => ?_⟩
  rw [List.getElem?_map, Option.map_eq_some_iff] at h1 h2
  obtain ⟨x, h1, rfl⟩ := h1
  obtain ⟨y, h2, rfl⟩ := h2
  rw [h1] at h2
  obtain rfl := Option.some.inj h2
  have hx : x ∈ css.zip l := List.mem_of_mem_take (List.mem_filter.1 (List.mem_of_getElem? h1)).1
  obtain ⟨m, hm⟩ := List.mem_iff_getElem?.1 hx
  rw [List.getElem?_zip_eq_some] at hm
  exact h.2 m _ _ hm.1 hm.2
theorem Blk.has3 {W : World} {g : Nat} {T : TypeId} {cur : Array Value} (h : Blk W g T cur) (o : Nat) (ho : o + 3 ≤ cur.size) : ∃ u0 u1 u2, W.cell? ⟨g, o, none⟩ = some u0 ∧ W.cell? ⟨g, o + 1, none⟩ = some u1 ∧ W.cell? ⟨g, o + 2, none⟩ = some u2 ∧
    W.frozen? ⟨g, o, none⟩ = false ∧ W.frozen? ⟨g, o + 1, none⟩ = false ∧ W.frozen? ⟨g, o + 2, none⟩ = false :=
  ⟨cur[o], cur[o + 1], cur[o + 2], (h.cell _).trans (Array.getElem?_eq_getElem _), (h.cell _).trans (Array.getElem?_eq_getElem _), (h.cell _).trans (Array.getElem?_eq_getElem _), h.frozen _, h.frozen _, h.frozen _⟩
theorem Blk.st3 {W : World} {g : Nat} {T : TypeId} {cur : Array Value} (h : Blk W g T cur) (o : Nat) (a b c : Value) :
    Blk (((W.setCell ⟨g, o, none⟩ a).setCell ⟨g, o + 1, none⟩ b).setCell ⟨g, o + 2, none⟩ c) g T (((cur.setIfInBounds o a).setIfInBounds (o + 1) b).setIfInBounds (o + 2) c) :=
  ((h.set_ o a).set_ (o + 1) b).set_ (o + 2) c
theorem Chg.st3 {S : List Nat} {w W : World} {g : Nat} (h : Chg S w W) (hg : g ∈ S) (o : Nat) (a b c : Value) :
    Chg S w (((W.setCell ⟨g, o, none⟩ a).setCell ⟨g, o + 1, none⟩ b).setCell ⟨g, o + 2, none⟩ c) :=
  ((h.set hg _).set hg _).set hg _
theorem Blk.has4 {W : World} {g : Nat} {T : TypeId} {cur : Array Value} (h : Blk W g T cur) (o : Nat) (ho : o + 4 ≤ cur.size) : ∃ u0 u1 u2 u3, W.cell? ⟨g, o, none⟩ = some u0 ∧ W.cell? ⟨g, o + 1, none⟩ = some u1 ∧ W.cell? ⟨g, o + 2, none⟩ = some u2 ∧ W.cell? ⟨g, o + 3, none⟩ = some u3 ∧
    W.frozen? ⟨g, o, none⟩ = false ∧ W.frozen? ⟨g, o + 1, none⟩ = false ∧ W.frozen? ⟨g, o + 2, none⟩ = false ∧ W.frozen? ⟨g, o + 3, none⟩ = false :=
  ⟨cur[o], cur[o + 1], cur[o + 2], cur[o + 3], (h.cell _).trans (Array.getElem?_eq_getElem _), (h.cell _).trans (Array.getElem?_eq_getElem _), (h.cell _).trans (Array.getElem?_eq_getElem _), (h.cell _).trans (Array.getElem?_eq_getElem _), h.frozen _, h.frozen _, h.frozen _, h.frozen _⟩
theorem Blk.st4 {W : World} {g : Nat} {T : TypeId} {cur : Array Value} (h : Blk W g T cur) (o : Nat) (a b c d : Value) :
    Blk ((((W.setCell ⟨g, o, none⟩ a).setCell ⟨g, o + 1, none⟩ b).setCell ⟨g, o + 2, none⟩ c).setCell ⟨g, o + 3, none⟩ d) g T ((((cur.setIfInBounds o a).setIfInBounds (o + 1) b).setIfInBounds (o + 2) c).setIfInBounds (o + 3) d) :=
  (((h.set_ o a).set_ (o + 1) b).set_ (o + 2) c).set_ (o + 3) d
theorem Chg.st4 {S : List Nat} {w W : World} {g : Nat} (h : Chg S w W) (hg : g ∈ S) (o : Nat) (a b c d : Value) :
    Chg S w ((((W.setCell ⟨g, o, none⟩ a).setCell ⟨g, o + 1, none⟩ b).setCell ⟨g, o + 2, none⟩ c).setCell ⟨g, o + 3, none⟩ d) :=
  (((h.set hg _).set hg _).set hg _).set hg _
theorem zeros_one (cs : Array Value) (n : Nat) (h : ∀ v ∈ cs.toList, v.oneCell' = true) : ∀ v ∈ (Builtin.zeroCells cs n).toList, v.oneCell' = true := by
  intro v hv
  unfold Builtin.zeroCells at hv
  simp only [Array.toList_map, Array.toList_range, List.mem_map, List.mem_range] at hv
  obtain ⟨i, hi, rfl⟩ := hv
  have h0 : 0 < cs.size := by
    rcases Nat.eq_zero_or_pos cs.size with h | h
    · rw [h] at hi; omega
    · exact h
  have hm : i % cs.size < cs.size := Nat.mod_lt _ h0
  rw [getElem!_pos cs (i % cs.size) hm]
  exact h _ (by simp)
theorem drop_past {α : Type} (A B : List α) (n m : Nat) (h : n = A.length + m) : (A ++ B).drop n = B.drop m := by
  subst h; rw [List.drop_append]; simp
theorem split3 {α : Type} (l : List α) (o n : Nat) (h : o + n ≤ l.length) : ∃ A C B, l = A ++ (C ++ B) ∧ A.length = o ∧ C.length = n := by
  refine ⟨l.take o, (l.drop o).take n, (l.drop o).drop n, ?_, by simp; omega, by simp; omega⟩
  rw [List.take_append_drop, List.take_append_drop]
theorem set3 {α : Type} (l : List α) (o : Nat) (a b c : α) (h : o + 3 ≤ l.length) : ((l.set o a).set (o + 1) b).set (o + 2) c = l.take o ++ [a, b, c] ++ l.drop (o + 3) := by
  obtain ⟨A, C, B, rfl, rfl, hC⟩ := split3 l o 3 h
  match C, hC with
  | [x, y, z], _ => simp [List.set_append, List.take_append, List.drop_append]
theorem set4 {α : Type} (l : List α) (o : Nat) (a b c d : α) (h : o + 4 ≤ l.length) : (((l.set o a).set (o + 1) b).set (o + 2) c).set (o + 3) d = l.take o ++ [a, b, c, d] ++ l.drop (o + 4) := by
  obtain ⟨A, C, B, rfl, rfl, hC⟩ := split3 l o 4 h
  match C, hC with
  | [x, y, z, u], _ => simp [List.set_append, List.take_append, List.drop_append]

























































































































































































































end Go.Proofs.Ytggfemdgccgbpaa

/- Sessions, in plain Lean: who asked already, and what is kept. -/
namespace Go.Proofs.Ytggfemdgccgbpaa
set_option linter.unusedVariables false
set_option linter.unusedSimpArgs false
set_option linter.unnecessarySimpa false
set_option maxRecDepth 100000
open Go.RowKit
def stale (seq high : Int) : Bool := decide (4 ≤ high) && decide (seq ≤ high - 4)
abbrev ltC (c : Int) (s : Se) : Bool := decide (s.client < c)
abbrev ltQ (c : Int) (s : Dn) : Bool := decide (s.seq < c)
/-- where a client's session stands; is it there? -/
def sat (l : List Se) (c : Int) : Nat × Bool := (cntP (ltC c) l, (l[cntP (ltC c) l]?).any fun s => decide (s.client = c))
def sown (l : List Se) (c : Int) : Se := match l[cntP (ltC c) l]? with
  | some s => if s.client = c then s else ⟨c, 0, []⟩
  | none => ⟨c, 0, []⟩
def kept (d : List Dn) (q : Int) : Option An := (d.find? fun x => decide (x.seq = q)).map (·.an)
def ask (s : St) (client seq : Int) : An × Bool :=
  if client < 0 ∨ 4 ≤ client ∨ seq = 0 then (⟨1, []⟩, true)
  else match kept (sown s.sess client).done seq with
    | some a => (a, true)
    | none => if stale seq (sown s.sess client).high = true then (⟨14, []⟩, true) else (⟨0, []⟩, false)
def swith (l : List Se) (x : Se) : List Se := if (sat l x.client).2 = true then l.set (sat l x.client).1 x else l.take (sat l x.client).1 ++ x :: l.drop (sat l x.client).1
def dput (d : List Dn) (x : Dn) : List Dn := d.take (cntP (ltQ x.seq) d) ++ x :: d.drop (cntP (ltQ x.seq) d)
def skeep (own : Se) (seq : Int) (a : An) : Se := ⟨own.client, max own.high seq, dput (own.done.filter fun d => !(decide (d.seq = seq) || stale d.seq (max own.high seq))) ⟨seq, a⟩⟩
def keep (s : St) (client seq : Int) (a : An) : St := ⟨s.now, s.count, s.links, swith s.sess (skeep (sown s.sess client) seq a)⟩
/-- lists that rise -/
def RiseS (l : List Se) : Prop := l.Pairwise fun a b => a.client < b.client
def RiseD (l : List Dn) : Prop := l.Pairwise fun a b => a.seq < b.seq
theorem pw_at {α : Type} {R : α → α → Prop} {l : List α} (h : l.Pairwise R) {i j : Nat} {a b : α} (hij : i < j) (ha : l[i]? = some a) (hb : l[j]? = some b) : R a b := by
  obtain ⟨h1, rfl⟩ := List.getElem?_eq_some_iff.1 ha
  obtain ⟨h2, rfl⟩ := List.getElem?_eq_some_iff.1 hb
  exact List.pairwise_iff_getElem.1 h i j h1 h2 hij
theorem RiseS.mono {l : List Se} (h : RiseS l) (c : Int) : Mono (ltC c) l := by
  intro i j a b hij ha hb hp
  simp only [decide_eq_true_eq] at hp ⊢
  rcases Nat.lt_or_ge i j with hlt | hge
  · have := pw_at h hlt ha hb; omega
  · obtain rfl : i = j := by omega
    rw [ha] at hb
    obtain rfl := Option.some.inj hb
    exact hp
theorem RiseD.mono {l : List Dn} (h : RiseD l) (c : Int) : Mono (ltQ c) l := by
  intro i j a b hij ha hb hp
  simp only [decide_eq_true_eq] at hp ⊢
  rcases Nat.lt_or_ge i j with hlt | hge
  · have := pw_at h hlt ha hb; omega
  · obtain rfl : i = j := by omega
    rw [ha] at hb
    obtain rfl := Option.some.inj hb
    exact hp
theorem RiseD.filter {l : List Dn} (h : RiseD l) (p : Dn → Bool) : RiseD (l.filter p) := List.Pairwise.filter p h
end Go.Proofs.Ytggfemdgccgbpaa

/- Commands as values. -/
namespace Go.Proofs.Ytggfemdgccgbpaa
set_option linter.unusedVariables false
set_option linter.unusedSimpArgs false
set_option linter.unnecessarySimpa false
set_option maxRecDepth 100000
open Go.RowKit
structure Cm.wide (c : Cm) : Prop where
  k0 : -9223372036854775808 ≤ c.kind
  k1 : c.kind ≤ 9223372036854775807
  c0 : -9223372036854775808 ≤ c.client
  c1 : c.client ≤ 9223372036854775807
  s0 : 0 ≤ c.seq
  s1 : c.seq ≤ 18446744073709551615
  n1 : c.name.length ≤ maxLen
  u1 : c.url.length ≤ maxLen
  t0 : 0 ≤ c.till
  t1 : c.till ≤ 18446744073709551615
def cmE : Enc Cm := Enc.map (.pair .i64 (.pair .i64 (.pair .u64 (.pair .text (.pair .text (.pair .u64 .unit)))))) fun c => (c.kind, c.client, c.seq, c.name, c.url, c.till, ())
theorem cmE_rep {w : World} {X : Avoid} {cs : Array Value} {c : Cm} (h : cmE.rep w X cs.toList c) : cs = ccells c ∧ c.wide := by
  obtain ⟨c1, r1, e1, ⟨rfl, a1⟩, c2, r2, rfl, ⟨rfl, a2⟩, c3, r3, rfl, ⟨rfl, a3⟩, c4, r4, rfl, ⟨rfl, a4⟩, c5, r5, rfl, ⟨rfl, a5⟩, c6, r6, rfl, ⟨rfl, a6⟩, rfl⟩ := h
  refine ⟨?_, a1.1, a1.2, a2.1, a2.2, a3.1, a3.2, a4, a5, a6.1, a6.2⟩
  cases cs
  simp at e1
  subst e1
  rfl
open Enc in
theorem cmE_opens : Opens 37 cmE :=
  (opens_struct Try.underlying37 (by kernel_rfl) (.cons rfl (by kernel_rfl) (opens_int Try.underlying3 wf_i64) (.cons rfl (by kernel_rfl) (opens_int Try.underlying3 wf_i64) (.cons rfl (by kernel_rfl) (opens_int Try.underlying24 wf_u64)
    (.cons rfl (by kernel_rfl) (opens_text Try.underlying9) (.cons rfl (by kernel_rfl) (opens_text Try.underlying9) (.cons rfl (by kernel_rfl) (opens_int Try.underlying24 wf_u64) (.nil _)))))))).map _ fun ⟨a, b, c, d, e, f, _⟩ => ⟨⟨a, b, c, d, e, f⟩, rfl⟩
theorem eq_cmd (a b : Cm) : ∃ r : Bool, (r = true ↔ a = b) ∧ ∀ W, (binOp .eql 37 (cv a) (cv b)).run Try.prog W = .ok (.bool r) W := by
  obtain ⟨k, c, q, n, u, t⟩ := a
  obtain ⟨k', c', q', n', u', t'⟩ := b
  refine ⟨decide (k = k') && (decide (c = c') && (decide (q = q') && (decide (n = n') && (decide (u = u') && decide (t = t'))))), by simp, fun W => ?_⟩
  have hS : Try.prog.underlying 37 = some (.struct (Try.prog.fieldsOf 37)) := by kernel_rfl
  have hp : Try.prog.stoodInHeld 37 = false := by kernel_rfl
  have u1 := Try.underlying3
  have u2 := Try.underlying24
  have u3 := Try.underlying9
  rw [run_eql_struct, show (10000 : Nat) = 9999 + 1 from rfl, run_equalIn_agg W 9999 37 _ _ hS hp]
  simp only [Program.fieldsOf, Try.underlying37]
  go_simp
  by_cases h1 : k = k' <;> by_cases h2 : c = c' <;> by_cases h3 : q = q' <;> by_cases h4 : n = n' <;> by_cases h5 : u = u' <;> by_cases h6 : t = t' <;> simp [h1, h2, h3, h4, h5, h6]
end Go.Proofs.Ytggfemdgccgbpaa

