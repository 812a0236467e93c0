/- A part of the proof of 'MsgAll'. -/
import Derived.Test.YtlblgopfdadalaaM3
import Derived.Test.YtlblgopfdadalaaM4
import Derived.Laws.StructEq
namespace Go.Proofs.Ytlblgopfdadalaa
set_option linter.unusedVariables false
set_option linter.unusedSimpArgs false
set_option linter.unnecessarySimpa false
set_option maxRecDepth 100000
open Go.RowKit
/-- an element type as the program knows it -/
structure Elt {α : Type} (T : TypeId) (E : Enc α) (z : Value) (bytes : Nat) : Prop where
  info : (Try.prog.info? T).map (fun i => (i.zero, i.size, i.bytes)) = some (some z, E.size, bytes)
  zs : z.cells.size = E.size
  pos : 0 < E.size
/-- a slice of new memory that reads as l; its elements lie neither in its own block nor in one of X -/
def Own {α : Type} (T : TypeId) (E : Enc α) (w0 w : World) (X : Avoid) (v : Value) (l : List α) : Prop :=
  ∃ css, w.ownsRow w0.heap.size T E.size v l.length css.flatten ∧ Enc.Each E w (fun k => X k ∨ v.ownBlock = some k) css l ∧ ∀ k, v.ownBlock = some k → ¬ X k
section
variable {α : Type} {T : TypeId} {E : Enc α} {w0 w w' : World} {X Y : Avoid} {v : Value} {l m : List α}
theorem Own.form (h : Own T E w0 w X v l) : ∃ A c, v = .slice A l.length c ∧ l.length ≤ c ∧ c ≤ maxLen := by
  obtain ⟨css, h1, _⟩ := h
  exact own_slice h1
theorem Own.lt (h : Own T E w0 w X v l) : ∀ k, v.ownBlock = some k → w0.heap.size ≤ k ∧ k < w.heap.size := by
  obtain ⟨css, h1, _⟩ := h
  exact h1.lt
theorem Own.sl (h : Own T E w0 w X v l) : Enc.Sl E w X v l := by
  obtain ⟨css, h1, h2, h3⟩ := h
  obtain ⟨A, c, rfl, h4, h5⟩ := own_slice h1
  refine ⟨A, c, css, rfl, h4, h5, Reads.of_own h1, ?_, h2.mono fun k _ hk => .inl hk⟩
  rintro ad rfl _
  exact h3 _ rfl
theorem Own.nil (T : TypeId) (E : Enc α) (w0 w : World) (X : Avoid) : Own T E w0 w X (.slice none 0 0) [] :=
  ⟨[], by simpa using World.ownsRow_nil w w0.heap.size T E.size, Enc.Each.nil E w _, fun _ h => by cases h⟩
theorem Own.ext (h : Own T E w0 w X v l) (hx : Ext w w') : Own T E w0 w' X v l := by
  obtain ⟨css, h1, h2, h3⟩ := h
  exact ⟨css, own_ext h1 hx, h2.ext hx, h3⟩
theorem Own.trans (h : Own T E w w' X v l) (hx : Ext w0 w) : Own T E w0 w' X v l := by
  obtain ⟨css, h1, h2, h3⟩ := h
  exact ⟨css, own_base h1 hx.size, h2, h3⟩
theorem Own.mono (h : Own T E w0 w X v l) (hs : ∀ k, k < w.heap.size → Y k → X k) : Own T E w0 w Y v l := by
  obtain ⟨css, h1, h2, h3⟩ := h
  refine ⟨css, h1, h2.mono fun k hk hy => hy.elim (fun hy => .inl (hs k hk hy)) .inr, fun k hk hy => h3 k hk (hs k (h1.lt k hk).2 hy)⟩
theorem own_chg {S : List Nat} {base n : Nat} {e : TypeId} {size : Nat} {xs : List Value} (h : w.ownsRow base e size v n xs) (hc : Chg S w w') (hn : ∀ k, v.ownBlock = some k → k ∉ S) : w'.ownsRow base e size v n xs := by
  refine ⟨h.1, ?_⟩
  rcases h.2 with h2 | ⟨g, cap, cur, hv, hg, hh, r⟩
  · exact .inl h2
  · refine .inr ⟨g, cap, cur, hv, hg, ?_, r⟩
    exact Blk.chg (t := e) hh hc (hn g (by rw [hv]; rfl))
theorem Own.chg {S : List Nat} (h : Own T E w0 w X v l) (hc : Chg S w w') (hs : ∀ k, k ∈ S → k < w.heap.size → X k) : Own T E w0 w' X v l := by
  obtain ⟨css, h1, h2, h3⟩ := h
  refine ⟨css, own_chg h1 hc fun k hk hm => h3 k hk (hs k hm (h1.lt k hk).2), h2.chg hc fun k hk hl => .inl (hs k hk hl), h3⟩
theorem _root_.Go.World.grownBy.chg' {row : Option Nat} (h : w.grownBy w' row) : Chg row.toList w w' :=
  ⟨h.os, h.tape, h.output, h.size, fun k hk hn => h.block k hk (fun e => hn (by rw [← e]; simp))⟩
/-- append onto such a slice of a slice whose elements do not lie in it -/
theorem run_own {z : Value} {bytes : Nat} (ei : Elt T E z bytes) (t ty : TypeId) (ht : Try.prog.underlying t = some (.slice T)) (h : Own T E w0 w X v l) (hx0 : Ext w0 w)
    {y : Value} (hy : Enc.Sl E w (fun k => X k ∨ v.ownBlock = some k) y m) (hX : ¬ X w.heap.size) (hlen : (l.length + m.length) * bytes ≤ 140737488355328) (hl2 : l.length + m.length ≤ 140737488355328) :
    ∃ v' w', (Builtin.append_ #[t, t] ty #[v, y]).run Try.prog w = .ok v' w' ∧ Own T E w0 w' X v' (l ++ m) ∧ Ext w0 w' ∧ Chg v.ownBlock.toList w w' ∧ (v'.ownBlock = v.ownBlock ∨ v'.ownBlock = some w.heap.size) := by
  obtain ⟨css, h1, h2, h3⟩ := h
  obtain ⟨A, c, cs2, rfl, k1, k2, k3, k4, k5⟩ := hy
  obtain ⟨i0, hi, hz0, hz1, hz2⟩ := info_parts ei.info
  obtain ⟨v', w', hrun, hown, hg, hb⟩ := run_append_any (P := Try.prog) w w0.heap.size t ty T i0 z E.size bytes ht hi hz0 hz1 hz2 ei.zs ei.pos v l.length css.flatten h1 w.heap.size A m.length c cs2.flatten k3 k5.one (by simp [maxLen]; omega) hlen hx0.size
  have hc := hg.chg'
  refine ⟨v', w', hrun, ⟨css ++ cs2, by rw [List.length_append, List.flatten_append]; exact hown, ?_, ?_⟩, hx0.then_ hc (fun i hi => by simp at hi; exact (h1.lt i hi).1), hc, hb⟩
  · have j1 := h2.mono (Y := fun k => (X k ∨ v'.ownBlock = some k) ∨ v.ownBlock = some k) fun k hk hy => by
      rcases hy with (hy | hy) | hy
      · exact .inl hy
      · rcases hb with e | e
        · exact .inr (e.symm.trans hy)
        · rw [e] at hy; have := Option.some.inj hy; omega
      · exact .inr hy
    have j2 := k5.mono (Y := fun k => (X k ∨ v'.ownBlock = some k) ∨ v.ownBlock = some k) fun k hk hy => by
      rcases hy with (hy | hy) | hy
      · exact .inl hy
      · rcases hb with e | e
        · exact .inr (e.symm.trans hy)
        · rw [e] at hy; have := Option.some.inj hy; omega
      · exact .inr hy
    have j3 := (j1.app j2).chg hc fun k hk _ => .inr (by simpa using hk)
    exact j3.mono fun k _ hk => .inl hk
  · intro k hk hx
    rcases hb with e | e
    · exact h3 k (e.symm.trans hk) hx
    · rw [e] at hk; have := Option.some.inj hk; subst this; exact hX hx
/-- one element in a block of its own -/
theorem Sl.one (T : TypeId) {cs : List Value} {a : α} (h : E.rep w X cs a) (g : Nat) (hg : w.heap.size = g) (hX : ¬ X g) : Enc.Sl E (w.alloc (.cells cs.toArray T)) X (.slice (some ⟨g, 0, none⟩) 1 1) [a] := by
  subst hg
  refine ⟨_, 1, [cs], rfl, Nat.le_refl _, by simp [maxLen], ?_, fun ad he _ => ?_, Enc.Each.single (E.ext h ((Ext.rfl' w).alloc' _))⟩
  · refine ⟨by simp [E.len h], fun _ => ⟨_, rfl, by simp, fun j u hu => ?_⟩⟩
    have hadd : (⟨w.heap.size, 0, none⟩ : Addr).add j = ⟨w.heap.size, j, none⟩ := by unfold Addr.add; split <;> simp_all
    rw [hadd, cell_of_row _ _ _ _ _ _ (heap_alloc_new w _)]
    simpa using hu
  · rw [← Option.some.inj he]
    exact hX
/-- append of one element, as the walk meets it -/
theorem wpList_own {ops : Array Oper} {rest : List Oper} {o : Oper} {a : Act} {Q : Exit → Act → World → Prop} {z : Value} {bytes : Nat} (ei : Elt T E z bytes) (t : TypeId) (ht : Try.prog.underlying t = some (.slice T)) (hgd : o.guard = none) (s x : Operand)
    (ho : o.op = .call { callee := .builtin .append, args := #[s, x], argTypes := #[t, t] }) (h : Own T E w0 w X v l) (hs : a.eval s = v) (hx0 : Ext w0 w)
    {y : Value} (hx : a.eval x = y) (hy : Enc.Sl E w (fun k => X k ∨ v.ownBlock = some k) y m) (hX : ¬ X w.heap.size) (hlen : (l.length + m.length) * bytes ≤ 140737488355328) (hl2 : l.length + m.length ≤ 140737488355328)
    (hK : ∀ (k : List α) (A : Option Addr) (c : Nat) (w' : World), Hid (k = l ++ m) → Own T E w0 w' X (.slice A k.length c) k → Ext w0 w' → Chg v.ownBlock.toList w w' → wpList Try.prog ops Q rest (a.put o.dst (.slice A k.length c)) w') : wpList Try.prog ops Q (o :: rest) a w :=
  wpList_plain hgd fun _ hK' => by
    obtain ⟨v', w', hrun, h2, h3, h4, h5⟩ := run_own ei t o.type ht h hx0 hy hX hlen hl2
    obtain ⟨A, c, rfl, _, _⟩ := h2.form
    unfold Oper.wp execOp
    simp only [ho, resolve, invoke, builtin, Sem.run_bind, Sem.run_pure, Result.andThen_ok, List.map_toArray, List.map_cons, List.map_nil, hs, hx, hrun]
    exact hK' _ _ (hK (l ++ m) A c w' (hide rfl) h2 h3 h4)
end
theorem Own.base {α : Type} {T : TypeId} {E : Enc α} {w0 w w' : World} {X : Avoid} {v : Value} {l : List α} (h : Own T E w w' X v l) (hs : w0.heap.size ≤ w.heap.size) : Own T E w0 w' X v l := by
  obtain ⟨css, h1, h2, h3⟩ := h
  exact ⟨css, own_base h1 hs, h2, h3⟩
/-- a world without its blocks from n on -/
def cutW (W : World) (n : Nat) : World := { W with heap := W.heap.extract 0 n }
theorem cutW_size {W : World} {n : Nat} (h : n ≤ W.heap.size) : (cutW W n).heap.size = n := by simp [cutW]; omega
theorem cutW_at {W : World} {n k : Nat} (h : n ≤ W.heap.size) (hk : k < n) : (cutW W n).heap[k]? = W.heap[k]? := by
  simp only [cutW]
  rw [Array.getElem?_extract_of_lt (by omega)]
  simp
theorem cutW_ext {W : World} {n : Nat} (h : n ≤ W.heap.size) : Ext (cutW W n) W :=
  ⟨rfl, rfl, rfl, by rw [cutW_size h]; exact h, fun k hk => by rw [cutW_size h] at hk; exact (cutW_at h hk).symm⟩
theorem Blk.cutW {W : World} {n g : Nat} {T : TypeId} {cs : Array Value} (hB : Blk W g T cs) (h : n ≤ W.heap.size) (hg : g < n) : Blk (cutW W n) g T cs := (cutW_at h hg).trans hB
theorem Ext.cutW {w W : World} {n : Nat} (hx : Ext w W) (h : n ≤ W.heap.size) (hw : w.heap.size ≤ n) : Ext w (cutW W n) :=
  ⟨hx.os, hx.tape, hx.output, by rw [cutW_size h]; exact hw, fun k hk => (cutW_at h (by omega)).trans (hx.block k hk)⟩
end Go.Proofs.Ytlblgopfdadalaa
namespace Go.Proofs.Ytlblgopfdadalaa
set_option linter.unusedVariables false
set_option linter.unusedSimpArgs false
set_option linter.unnecessarySimpa false
set_option maxRecDepth 100000
open Go.RowKit
abbrev enE : Enc En := Enc.map (.pair .u64 (.pair .byts .unit)) fun h => (h.term, h.data, ())
abbrev snE : Enc Sn := Enc.map (.pair .u64 (.pair .u64 (.pair .byts .unit))) fun h => (h.index, h.term, h.state, ())
open Enc in
theorem enE_opens : Opens 74 enE :=
  (opens_struct Try.underlying74 (by kernel_rfl) (.cons rfl (by kernel_rfl) (opens_int Try.underlying22 wf_u64) (.cons rfl (by kernel_rfl) (opens_bytes Try.underlying24 Try.underlying5 (by kernel_rfl)) (.nil _)))).map _ fun ⟨a, b, _⟩ => ⟨⟨a, b⟩, rfl⟩
open Enc in
theorem snE_opens : Opens 26 snE :=
  (opens_struct Try.underlying26 (by kernel_rfl) (.cons rfl (by kernel_rfl) (opens_int Try.underlying22 wf_u64) (.cons rfl (by kernel_rfl) (opens_int Try.underlying22 wf_u64) (.cons rfl (by kernel_rfl) (opens_bytes Try.underlying24 Try.underlying5 (by kernel_rfl)) (.nil _))))).map _ fun ⟨a, b, c, _⟩ => ⟨⟨a, b, c⟩, rfl⟩
abbrev encells (e : En) (v : Value) : List Value := [.int .u64 e.term, v]
abbrev sncells (s : Sn) (v : Value) : List Value := [.int .u64 s.index, .int .u64 s.term, v]
theorem en_rep {w : World} {X : Avoid} {cs : List Value} {e : En} : enE.rep w X cs e ↔ ∃ v, cs = encells e v ∧ (0 ≤ e.term ∧ e.term ≤ 18446744073709551615) ∧ Enc.BsX w X v e.data := by
  constructor
  · rintro ⟨b1, b2, rfl, ⟨rfl, h4⟩, b3, b4, rfl, ⟨v1, rfl, h5⟩, rfl⟩
    exact ⟨v1, rfl, h4, h5⟩
  · rintro ⟨v, rfl, h4, h5⟩
    exact ⟨[_], [_], rfl, ⟨rfl, h4⟩, [_], [], rfl, ⟨_, rfl, h5⟩, rfl⟩
theorem en_at {w : World} {X : Avoid} {A : Option Addr} {n c k : Nat} {l : List En} (h : Enc.Sl enE w X (.slice A n c) l) (hk : k < l.length) : ∃ (ad : Addr) (e : En) (v : Value), A = some ad ∧ Hid (l[k]? = some e) ∧ ad.block < w.heap.size ∧
    w.cell? (ad.add (k * 2)) = some (.int .u64 e.term) ∧ w.cell? ⟨(ad.add (k * 2)).block, (ad.add (k * 2)).off + 1, none⟩ = some v ∧ (0 ≤ e.term ∧ e.term ≤ 18446744073709551615) ∧ Enc.BsX w X v e.data := by
  obtain ⟨ad, cs, rfl, hrep, hb, hcell⟩ := h.at_ hk
  obtain ⟨v, rfl, r1, r2⟩ := en_rep.1 hrep
  exact ⟨ad, _, v, rfl, hide (List.getElem?_eq_getElem hk), hb, Enc.cell0 hcell rfl, Enc.cellS hcell 0 rfl, r1, r2⟩
theorem sn_rep {w : World} {X : Avoid} {cs : List Value} {s : Sn} : snE.rep w X cs s ↔ ∃ v, cs = sncells s v ∧ (0 ≤ s.index ∧ s.index ≤ 18446744073709551615) ∧ (0 ≤ s.term ∧ s.term ≤ 18446744073709551615) ∧ Enc.BsX w X v s.state := by
  constructor
  · rintro ⟨b1, b2, rfl, ⟨rfl, h4⟩, b3, b4, rfl, ⟨rfl, h6⟩, b5, b6, rfl, ⟨v1, rfl, h5⟩, rfl⟩
    exact ⟨v1, rfl, h4, h6, h5⟩
  · rintro ⟨v, rfl, h4, h6, h5⟩
    exact ⟨[_], [_, _], rfl, ⟨rfl, h4⟩, [_], [_], rfl, ⟨rfl, h6⟩, [_], [], rfl, ⟨_, rfl, h5⟩, rfl⟩
theorem elt_en : Elt 74 enE (.agg #[.int .u64 0, .slice none 0 0]) 32 := ⟨by kernel_rfl, rfl, by decide⟩
end Go.Proofs.Ytlblgopfdadalaa
namespace Go.Proofs.Ytlblgopfdadalaa
set_option linter.unusedVariables false
set_option linter.unusedSimpArgs false
set_option linter.unnecessarySimpa false
set_option maxRecDepth 100000
open Go.RowKit
structure Cm.wide (c : Cm) : Prop where
  k0 : -9223372036854775808 ≤ c.kind
  k1 : c.kind ≤ 9223372036854775807
  c0 : -9223372036854775808 ≤ c.client
  c1 : c.client ≤ 9223372036854775807
  s0 : 0 ≤ c.seq
  s1 : c.seq ≤ 18446744073709551615
  n1 : c.name.length ≤ maxLen
  u1 : c.url.length ≤ maxLen
  t0 : 0 ≤ c.till
  t1 : c.till ≤ 18446744073709551615
def cmE : Enc Cm := Enc.map (.pair .i64 (.pair .i64 (.pair .u64 (.pair .text (.pair .text (.pair .u64 .unit)))))) fun c => (c.kind, c.client, c.seq, c.name, c.url, c.till, ())
theorem cmE_rep {w : World} {X : Avoid} {cs : Array Value} {c : Cm} (h : cmE.rep w X cs.toList c) : cs = ccells c ∧ c.wide := by
  obtain ⟨c1, r1, e1, ⟨rfl, a1⟩, c2, r2, rfl, ⟨rfl, a2⟩, c3, r3, rfl, ⟨rfl, a3⟩, c4, r4, rfl, ⟨rfl, a4⟩, c5, r5, rfl, ⟨rfl, a5⟩, c6, r6, rfl, ⟨rfl, a6⟩, rfl⟩ := h
  refine ⟨?_, a1.1, a1.2, a2.1, a2.2, a3.1, a3.2, a4, a5, a6.1, a6.2⟩
  cases cs
  simp at e1
  subst e1
  rfl
open Enc in
theorem cmE_opens : Opens 28 cmE :=
  (opens_struct Try.underlying28 (by kernel_rfl) (.cons rfl (by kernel_rfl) (opens_int Try.underlying3 wf_i64) (.cons rfl (by kernel_rfl) (opens_int Try.underlying3 wf_i64) (.cons rfl (by kernel_rfl) (opens_int Try.underlying22 wf_u64)
    (.cons rfl (by kernel_rfl) (opens_text Try.underlying9) (.cons rfl (by kernel_rfl) (opens_text Try.underlying9) (.cons rfl (by kernel_rfl) (opens_int Try.underlying22 wf_u64) (.nil _)))))))).map _ fun ⟨a, b, c, d, e, f, _⟩ => ⟨⟨a, b, c, d, e, f⟩, rfl⟩
theorem eq_cmd (a b : Cm) : ∃ r : Bool, (r = true ↔ a = b) ∧ ∀ W, (binOp .eql 28 (cv a) (cv b)).run Try.prog W = .ok (.bool r) W := by
  obtain ⟨k, c, q, n, u, t⟩ := a
  obtain ⟨k', c', q', n', u', t'⟩ := b
  refine ⟨decide (k = k') && (decide (c = c') && (decide (q = q') && (decide (n = n') && (decide (u = u') && decide (t = t'))))), by simp, fun W => ?_⟩
  have hS : Try.prog.underlying 28 = some (.struct (Try.prog.fieldsOf 28)) := by kernel_rfl
  have hp : Try.prog.stoodInHeld 28 = false := by kernel_rfl
  have u1 := Try.underlying3
  have u2 := Try.underlying22
  have u3 := Try.underlying9
  rw [run_eql_struct, show (10000 : Nat) = 9999 + 1 from rfl, run_equalIn_agg W 9999 28 _ _ hS hp]
  simp only [Program.fieldsOf, Try.underlying28]
  go_simp
  by_cases h1 : k = k' <;> by_cases h2 : c = c' <;> by_cases h3 : q = q' <;> by_cases h4 : n = n' <;> by_cases h5 : u = u' <;> by_cases h6 : t = t' <;> simp [h1, h2, h3, h4, h5, h6]
end Go.Proofs.Ytlblgopfdadalaa
namespace Go.Proofs.Ytlblgopfdadalaa
set_option linter.unusedVariables false
set_option linter.unusedSimpArgs false
set_option linter.unnecessarySimpa false
set_option maxRecDepth 100000
open Go.RowKit
/-! plain lists -/
section
variable {α : Type}
theorem flat_len (css : List (List α)) (k : Nat) (h : ∀ c ∈ css, c.length = k) : css.flatten.length = css.length * k := by
  induction css with
  | nil => simp
  | cons c css ih =>
    rw [List.flatten_cons, List.length_append, h c List.mem_cons_self, ih fun d hd => h d (List.mem_cons_of_mem _ hd), List.length_cons, Nat.succ_mul]; omega
theorem flat_take (css : List (List α)) (k i : Nat) (h : ∀ c ∈ css, c.length = k) : css.flatten.take (i * k) = (css.take i).flatten := by
  have e : css.flatten = (css.take i).flatten ++ (css.drop i).flatten := by rw [← List.flatten_append, List.take_append_drop]
  by_cases hi : i ≤ css.length
  · have hl := flat_len (css.take i) k fun c hc => h c (List.mem_of_mem_take hc)
    rw [List.length_take, Nat.min_eq_left hi] at hl
    rw [e, ← hl, List.take_left']
    rfl
  · rw [List.take_of_length_le (l := css) (by omega), List.take_of_length_le]
    rw [flat_len css k h]
    exact Nat.mul_le_mul_right _ (by omega)
theorem flat_drop (css : List (List α)) (k i : Nat) (h : ∀ c ∈ css, c.length = k) : css.flatten.drop (i * k) = (css.drop i).flatten := by
  have e := List.take_append_drop (i * k) css.flatten
  rw [flat_take css k i h] at e
  have e2 : css.flatten = (css.take i).flatten ++ (css.drop i).flatten := by rw [← List.flatten_append, List.take_append_drop]
  exact List.append_cancel_left (e.trans e2)
end
end Go.Proofs.Ytlblgopfdadalaa
namespace Go.Proofs.Ytlblgopfdadalaa
set_option linter.unusedVariables false
set_option linter.unusedSimpArgs false
set_option linter.unnecessarySimpa false
set_option maxRecDepth 100000
open Go.RowKit
section
variable {α : Type} {E : Enc α} {w : World} {X : Avoid} {A : Option Addr} {n c k : Nat} {l : List α}
theorem Sl.front (h : Enc.Sl E w X (.slice A n c) l) (hk : k ≤ l.length) : Enc.Sl E w X (.slice A k c) (l.take k) := by
  obtain ⟨A', c', css, e, h1, h2, h3, h4, h5⟩ := h
  simp only [Value.slice.injEq] at e
  obtain ⟨rfl, rfl, rfl⟩ := e
  have hl : (l.take k).length = k := by rw [List.length_take, Nat.min_eq_left hk]
  refine ⟨A, c, css.take k, by rw [hl], by rw [hl]; omega, h2, ?_, fun ad he h0 => h4 ad he (by rw [hl] at h0; omega), h5.take k⟩
  rw [hl, ← flat_take css E.size k h5.lens]
  exact h3.front hk
theorem Sl.rest (h : Enc.Sl E w X (.slice A n c) l) (hk : k ≤ l.length) : Enc.Sl E w X (.slice (cutA E.size A c k) (l.length - k) (c - k)) (l.drop k) := by
  obtain ⟨A', c', css, e, h1, h2, h3, h4, h5⟩ := h
  simp only [Value.slice.injEq] at e
  obtain ⟨rfl, rfl, rfl⟩ := e
  have hl : (l.drop k).length = l.length - k := List.length_drop
  refine ⟨cutA E.size A c k, c - k, css.drop k, by rw [hl], by rw [hl]; omega, by omega, ?_, fun ad he h0 => ?_, h5.drop k⟩
  · rw [hl, ← flat_drop css E.size k h5.lens]
    exact h3.cutA hk h1
  · rw [hl] at h0
    unfold cutA at he
    split at he
    · exact h4 ad he (by omega)
    · cases A with
      | none => cases he
      | some a =>
        have := Option.some.inj he
        have hb : ad.block = a.block := by
          rw [← this]
          unfold Addr.add
          split <;> rfl
        rw [hb]
        exact h4 a rfl (by omega)
end
end Go.Proofs.Ytlblgopfdadalaa
