/- A part of the proof of 'StateBytes'. -/
import Derived.Test.YtamimdlaclglkaaGreatB3
import Derived.Test.YtamimdlaclglkaaGreatB1
import Derived.Test.YtamimdlaclglkaaGreatB4
namespace Go.Proofs.YtamimdlaclglkaaGreat
set_option linter.unusedVariables false
set_option linter.unusedSimpArgs false
set_option linter.unnecessarySimpa false
set_option maxRecDepth 100000
open Go.RowKit
structure Cm where
  kind : Int
  client : Int
  seq : Int
  name : Bytes
  url : Bytes
  till : Int
abbrev ccells (c : Cm) : Array Value := #[.int .i64 c.kind, .int .i64 c.client, .int .u64 c.seq, str c.name, str c.url, .int .u64 c.till]
abbrev cv (c : Cm) : Value := .agg (ccells c)
def Cm.zero : Cm := ⟨0, 0, 0, [], [], 0⟩
structure Cm.ok (c : Cm) : Prop where
  k0 : 0 ≤ c.kind
  k1 : c.kind ≤ 255
  c0 : 0 ≤ c.client
  c1 : c.client ≤ 255
  s0 : 0 ≤ c.seq
  s1 : c.seq ≤ 18446744073709551615
  n1 : c.name.length ≤ 4294967295
  u1 : c.url.length ≤ 4294967295
  t0 : 0 ≤ c.till
  t1 : c.till ≤ 18446744073709551615
/-- bytes that are still to be read, and the first error -/
abbrev Rdr := Bytes × Int
def pnum (n : Nat) (s : Rdr) : Int × Rdr := if s.2 = 0 then (if s.1.length < n then (0, (s.1, 3)) else (((val (s.1.take n) : Nat) : Int), (s.1.drop n, 0))) else (0, s)
def ptext (s : Rdr) : Bytes × Rdr := if s.2 = 0 then ((otakeBytes s.1).1, (s.1.drop (otakeBytes s.1).2.1.toNat, (otakeBytes s.1).2.2)) else ([], s)
def pform (c : Bool) (s : Rdr) : Rdr := if s.2 = 0 ∧ c = true then (s.1, 2) else s
theorem pnum_bad (n : Nat) (s : Rdr) (h : s.2 ≠ 0) : pnum n s = (0, s) := if_neg h
theorem ptext_bad (s : Rdr) (h : s.2 ≠ 0) : ptext s = ([], s) := if_neg h
theorem pform_bad (c : Bool) (s : Rdr) (h : s.2 ≠ 0) : pform c s = s := if_neg fun k => h k.1
theorem pform_no (s : Rdr) : pform false s = s := if_neg fun k => by cases k.2
theorem pform_yes (b : Bytes) : pform true (b, 0) = (b, 2) := if_pos ⟨rfl, rfl⟩
theorem pnum_short (n : Nat) (b : Bytes) (h : b.length < n) : pnum n (b, 0) = (0, (b, 3)) := by
  unfold pnum; rw [if_pos rfl, if_pos h]
theorem Cm.ok.cb {c : Cm} (h : c.ok) : c.client.toNat < 256 ^ 1 := by have := h.c1; have := h.c0; omega
/-! what is read is what was put -/
end Go.Proofs.YtamimdlaclglkaaGreat
namespace Go.Proofs.YtamimdlaclglkaaGreat
set_option linter.unusedVariables false
set_option linter.unusedSimpArgs false
set_option linter.unnecessarySimpa false
set_option maxRecDepth 100000
open Go.RowKit
abbrev I64 (n : Int) : Prop := -9223372036854775808 ≤ n ∧ n ≤ 9223372036854775807
abbrev U64 (n : Int) : Prop := 0 ≤ n ∧ n ≤ 18446744073709551615
end Go.Proofs.YtamimdlaclglkaaGreat
namespace Go.Proofs.YtamimdlaclglkaaGreat
set_option linter.unusedVariables false
set_option linter.unusedSimpArgs false
set_option linter.unnecessarySimpa false
set_option maxRecDepth 100000
open Go.RowKit
structure An where
  err : Int
  text : Bytes
abbrev anE : Enc An := Enc.map (.pair .i64 (.pair .text .unit)) fun a => (a.err, a.text, ())
open Enc in
theorem anE_opens : Opens 33 anE :=
  (opens_struct Tryz.underlying33 (by kernel_rfl) (.cons rfl (by kernel_rfl) (opens_int Tryz.underlying31 wf_i64) (.cons rfl (by kernel_rfl) (opens_text Tryz.underlying9) (.nil _)))).map _ fun ⟨a, b, _⟩ => ⟨⟨a, b⟩, rfl⟩
abbrev acells (a : An) : List Value := [.int .i64 a.err, str a.text]
section
variable {w : World} {X : Avoid} {cs : List Value}
theorem an_rep {a : An} : anE.rep w X cs a ↔ cs = acells a ∧ I64 a.err ∧ a.text.length ≤ maxLen := by
  constructor
  · rintro ⟨c1, c2, rfl, ⟨rfl, h1⟩, c3, c4, rfl, ⟨rfl, h2⟩, rfl⟩
    exact ⟨rfl, h1, h2⟩
  · rintro ⟨rfl, h1, h2⟩
    exact ⟨[_], [_], rfl, ⟨rfl, h1⟩, [_], [], rfl, ⟨rfl, h2⟩, rfl⟩
end
end Go.Proofs.YtamimdlaclglkaaGreat
namespace Go.Proofs.YtamimdlaclglkaaGreat
set_option linter.unusedVariables false
set_option linter.unusedSimpArgs false
set_option linter.unnecessarySimpa false
set_option maxRecDepth 100000
open Go.RowKit
structure Dn where
  seq : Int
  an : An
structure Se where
  client : Int
  high : Int
  done : List Dn
structure Ln where
  name : Bytes
  url : Bytes
  till : Int
  made : Bool
structure St where
  now : Int
  count : Int
  links : List Ln
  sess : List Se
abbrev dnE : Enc Dn := Enc.map (.pair .u64 (.pair anE .unit)) fun d => (d.seq, d.an, ())
abbrev seE : Enc Se := Enc.map (.pair .i64 (.pair .u64 (.pair (.slice dnE) .unit))) fun s => (s.client, s.high, s.done, ())
abbrev lnE : Enc Ln := Enc.map (.pair .text (.pair .text (.pair .u64 (.pair .bool .unit)))) fun l => (l.name, l.url, l.till, l.made, ())
abbrev stE : Enc St := Enc.map (.pair .u64 (.pair .u64 (.pair (.slice lnE) (.pair (.slice seE) .unit)))) fun s => (s.now, s.count, s.links, s.sess, ())
open Enc in
theorem dnE_opens : Opens 68 dnE :=
  (opens_struct Tryz.underlying68 (by kernel_rfl) (.cons rfl (by kernel_rfl) (opens_int Tryz.underlying24 wf_u64) (.cons rfl (by kernel_rfl) anE_opens (.nil _)))).map _ fun ⟨a, b, _⟩ => ⟨⟨a, b⟩, rfl⟩
open Enc in
theorem seE_opens : Opens 56 seE :=
  (opens_struct Tryz.underlying56 (by kernel_rfl) (.cons rfl (by kernel_rfl) (opens_int Tryz.underlying3 wf_i64) (.cons rfl (by kernel_rfl) (opens_int Tryz.underlying24 wf_u64) (.cons rfl (by kernel_rfl) (opens_slice Tryz.underlying54 (by kernel_rfl) (by decide) dnE_opens) (.nil _))))).map _ fun ⟨a, b, c, _⟩ => ⟨⟨a, b, c⟩, rfl⟩
open Enc in
theorem lnE_opens : Opens 53 lnE :=
  (opens_struct Tryz.underlying53 (by kernel_rfl) (.cons rfl (by kernel_rfl) (opens_text Tryz.underlying9) (.cons rfl (by kernel_rfl) (opens_text Tryz.underlying9) (.cons rfl (by kernel_rfl) (opens_int Tryz.underlying24 wf_u64) (.cons rfl (by kernel_rfl) (opens_bool Tryz.underlying4) (.nil _)))))).map _ fun ⟨a, b, c, d, _⟩ => ⟨⟨a, b, c, d⟩, rfl⟩
open Enc in
theorem stE_opens : Opens 28 stE :=
  (opens_struct Tryz.underlying28 (by kernel_rfl) (.cons rfl (by kernel_rfl) (opens_int Tryz.underlying24 wf_u64) (.cons rfl (by kernel_rfl) (opens_int Tryz.underlying24 wf_u64)
    (.cons rfl (by kernel_rfl) (opens_slice Tryz.underlying25 (by kernel_rfl) (by decide) lnE_opens) (.cons rfl (by kernel_rfl) (opens_slice Tryz.underlying26 (by kernel_rfl) (by decide) seE_opens) (.nil _)))))).map _ fun ⟨a, b, c, d, _⟩ => ⟨⟨a, b, c, d⟩, rfl⟩
abbrev dcells (d : Dn) : List Value := [.int .u64 d.seq, .int .i64 d.an.err, str d.an.text]
abbrev lcells (l : Ln) : List Value := [str l.name, str l.url, .int .u64 l.till, .bool l.made]
abbrev secells (s : Se) (v : Value) : List Value := [.int .i64 s.client, .int .u64 s.high, v]
abbrev stcells (s : St) (vl vs : Value) : List Value := [.int .u64 s.now, .int .u64 s.count, vl, vs]
section
variable {w : World} {X : Avoid} {cs : List Value}
theorem dn_rep {d : Dn} : dnE.rep w X cs d ↔ cs = dcells d ∧ U64 d.seq ∧ I64 d.an.err ∧ d.an.text.length ≤ maxLen := by
  constructor
  · rintro ⟨c1, c2, rfl, ⟨rfl, h1⟩, c3, c4, rfl, h2, rfl⟩
    obtain ⟨rfl, h3, h4⟩ := an_rep.1 h2
    exact ⟨rfl, h1, h3, h4⟩
  · rintro ⟨rfl, h1, h2, h3⟩
    exact ⟨[_], [_, _], rfl, ⟨rfl, h1⟩, [_, _], [], rfl, an_rep.2 ⟨rfl, h2, h3⟩, rfl⟩
theorem ln_rep {l : Ln} : lnE.rep w X cs l ↔ cs = lcells l ∧ l.name.length ≤ maxLen ∧ l.url.length ≤ maxLen ∧ U64 l.till := by
  constructor
  · rintro ⟨c1, c2, rfl, ⟨rfl, h1⟩, c3, c4, rfl, ⟨rfl, h2⟩, c5, c6, rfl, ⟨rfl, h3⟩, c7, c8, rfl, rfl, rfl⟩
    exact ⟨rfl, h1, h2, h3⟩
  · rintro ⟨rfl, h1, h2, h3⟩
    exact ⟨[_], [_, _, _], rfl, ⟨rfl, h1⟩, [_], [_, _], rfl, ⟨rfl, h2⟩, [_], [_], rfl, ⟨rfl, h3⟩, [_], [], rfl, rfl, rfl⟩
theorem se_rep {s : Se} : seE.rep w X cs s ↔ ∃ v, cs = secells s v ∧ I64 s.client ∧ U64 s.high ∧ Enc.Sl dnE w X v s.done := by
  constructor
  · rintro ⟨c1, c2, rfl, ⟨rfl, h1⟩, c3, c4, rfl, ⟨rfl, h2⟩, c5, c6, rfl, ⟨v, rfl, h3⟩, rfl⟩
    exact ⟨v, rfl, h1, h2, h3⟩
  · rintro ⟨v, rfl, h1, h2, h3⟩
    exact ⟨[_], [_, _], rfl, ⟨rfl, h1⟩, [_], [_], rfl, ⟨rfl, h2⟩, [_], [], rfl, ⟨v, rfl, h3⟩, rfl⟩
theorem st_rep {s : St} : stE.rep w X cs s ↔ ∃ vl vs, cs = stcells s vl vs ∧ U64 s.now ∧ U64 s.count ∧ Enc.Sl lnE w X vl s.links ∧ Enc.Sl seE w X vs s.sess := by
  constructor
  · rintro ⟨c1, c2, rfl, ⟨rfl, h1⟩, c3, c4, rfl, ⟨rfl, h2⟩, c5, c6, rfl, ⟨v, rfl, h3⟩, c7, c8, rfl, ⟨u, rfl, h4⟩, rfl⟩
    exact ⟨v, u, rfl, h1, h2, h3, h4⟩
  · rintro ⟨v, u, rfl, h1, h2, h3, h4⟩
    exact ⟨[_], [_, _, _], rfl, ⟨rfl, h1⟩, [_], [_, _], rfl, ⟨rfl, h2⟩, [_], [_], rfl, ⟨v, rfl, h3⟩, [_], [], rfl, ⟨u, rfl, h4⟩, rfl⟩
end
theorem elt_ln : Elt 53 lnE (.agg #[.string ByteArray.empty, .string ByteArray.empty, .int .u64 0, .bool false]) 48 := ⟨by kernel_rfl, rfl, by decide⟩
theorem elt_se : Elt 56 seE (.agg #[.int .i64 0, .int .u64 0, .slice none 0 0]) 40 := ⟨by kernel_rfl, rfl, by decide⟩
theorem elt_dn : Elt 68 dnE (.agg #[.int .u64 0, .int .i64 0, .string ByteArray.empty]) 32 := ⟨by kernel_rfl, rfl, by decide⟩
end Go.Proofs.YtamimdlaclglkaaGreat
namespace Go.Proofs.YtamimdlaclglkaaGreat
set_option linter.unusedVariables false
set_option linter.unusedSimpArgs false
set_option linter.unnecessarySimpa false
set_option maxRecDepth 100000
open Go.RowKit
theorem sl_none {α : Type} {E : Enc α} {w : World} {X : Avoid} {c : Nat} {l : List α} (h : Enc.Sl E w X (.slice none l.length c) l) : l = [] := by
  obtain ⟨A, c', css, he, _, _, h3, _⟩ := h
  simp only [Value.slice.injEq] at he
  obtain ⟨rfl, _, _⟩ := he
  rcases Nat.eq_zero_or_pos l.length with h0 | h0
  · exact List.eq_nil_of_length_eq_zero h0
  · obtain ⟨_, h, _⟩ := h3.2 h0; cases h
theorem own_lit (w : World) : ∀ i, (Value.slice (some ⟨w.heap.size, 0, none⟩) 0 0).ownBlock = some i → w.heap.size ≤ i := fun i hi => Nat.le_of_eq (Option.some.inj hi)
/-- what a function returns that makes a new slice of structs -/
def RetOwnX {α : Type} (T : TypeId) (E : Enc α) (w w' : World) (X : Avoid) (e : Ending) (l : List α) : Prop := ∃ (m : List α) (A : Option Addr) (c : Nat), Hid (m = l) ∧ e = .returned (.slice A m.length c) ∧ Own T E w w' X (.slice A m.length c) m ∧ Ext w w'
abbrev RetOwn {α : Type} (T : TypeId) (E : Enc α) (w w' : World) (e : Ending) (l : List α) : Prop := RetOwnX T E w w' noneAt e l
theorem RetOwnX.mk {α : Type} {T : TypeId} {E : Enc α} {w w' : World} {X : Avoid} {y : Value} {l : List α} (h : Own T E w w' X y l) (hx : Ext w w') : RetOwnX T E w w' X (.returned y) l := by
  obtain ⟨A, c, rfl, _⟩ := h.form
  exact ⟨l, A, c, hide rfl, rfl, h, hx⟩
theorem Sl.apartX {α : Type} {E : Enc α} {w0 w : World} {X : Avoid} {v x : Value} {k : List α} (hx : Enc.Sl E w0 X x k) (hx0 : Ext w0 w) (h : ∀ i, v.ownBlock = some i → w0.heap.size ≤ i) : Enc.Sl E w (fun k => X k ∨ v.ownBlock = some k) x k :=
  (hx.mono fun i hi hm => by
    rcases hm with hm | hm
    · exact hm
    · have := h i hm; omega).ext hx0
theorem RetOwn.mk {α : Type} {T : TypeId} {E : Enc α} {w w' : World} {y : Value} {l : List α} (h : Own T E w w' noneAt y l) (hx : Ext w w') : RetOwn T E w w' (.returned y) l := by
  obtain ⟨A, c, rfl, _⟩ := h.form
  exact ⟨l, A, c, hide rfl, rfl, h, hx⟩
set_option maxHeartbeats 800000 in
theorem cloneX_ln (X : Avoid) (w : World) (hX : ∀ k, X k → k < w.heap.size) (x : Value) (l : List Ln) (hl : l.length ≤ 100000) (hx : Enc.Sl lnE w X x l) :
    Calls Tryz.prog 55 #[x] w fun e w' => RetOwnX 53 lnE w w' X e l := by
  obtain ⟨A, c, rfl, k1, k2⟩ := hx.form
  have q := fun (w : World) (a : Option Addr) (n c n' c' : Nat) => Lib.run_eql_slice_nil (P := Tryz.prog) w _ _ a n c n' c' Tryz.underlying25
  generalize hn : l.length = n at *
  have HN := hide hn
  clear hn
  rcases A with _ | ad
  · go_enter Tryz.func55, Tryz.ntmps55
    go_wp2
    go_ret
    have h0 : l = [] := sl_none (by rw [HN.out]; exact hx)
    subst h0
    exact RetOwnX.mk (Own.nil _ _ _ _ _) (Ext.rfl' _)
  · go_enter Tryz.func55, Tryz.ntmps55
    go_wp2_with (at_builtin; refine wpList_own elt_ln 25 Tryz.underlying25 rfl _ _ rfl (Own.lit0 (w0 := w) (X := X) _ _ (Ext.rfl' w) _ rfl (fun h => Nat.lt_irrefl _ (hX _ h))) rfl ((Ext.rfl' w).alloc' _) (m := l) rfl (Sl.apartX (w0 := w) hx ((Ext.rfl' w).alloc' _) (own_lit w)) (fun h => by have := hX _ h; simp at this; omega) (by have := HN.out; simp only [List.length_nil]; omega) (by have := HN.out; simp only [List.length_nil]; omega) ?_; intro k A2 c2 w2 hk hown hxx _)
    go_ret
    have hk' : k = l := hk.out
    subst hk'
    exact RetOwnX.mk hown hxx
set_option maxHeartbeats 800000 in
theorem cloneX_lnt (X : Avoid) (w : World) (hX : ∀ k, X k → k < w.heap.size) (x : Value) (l : List Ln) (hl : l.length ≤ 100000) (hx : Enc.Sl lnE w X x l) :
    Calls Tryz.prog 135 #[x] w fun e w' => RetOwnX 53 lnE w w' X e l := by
  obtain ⟨A, c, rfl, k1, k2⟩ := hx.form
  have q := fun (w : World) (a : Option Addr) (n c n' c' : Nat) => Lib.run_eql_slice_nil (P := Tryz.prog) w _ _ a n c n' c' Tryz.underlying105
  generalize hn : l.length = n at *
  have HN := hide hn
  clear hn
  rcases A with _ | ad
  · go_enter Tryz.func135, Tryz.ntmps135
    go_wp2
    go_ret
    have h0 : l = [] := sl_none (by rw [HN.out]; exact hx)
    subst h0
    exact RetOwnX.mk (Own.nil _ _ _ _ _) (Ext.rfl' _)
  · go_enter Tryz.func135, Tryz.ntmps135
    go_wp2_with (at_builtin; refine wpList_own elt_ln 105 Tryz.underlying105 rfl _ _ rfl (Own.lit0 (w0 := w) (X := X) _ _ (Ext.rfl' w) _ rfl (fun h => Nat.lt_irrefl _ (hX _ h))) rfl ((Ext.rfl' w).alloc' _) (m := l) rfl (Sl.apartX (w0 := w) hx ((Ext.rfl' w).alloc' _) (own_lit w)) (fun h => by have := hX _ h; simp at this; omega) (by have := HN.out; simp only [List.length_nil]; omega) (by have := HN.out; simp only [List.length_nil]; omega) ?_; intro k A2 c2 w2 hk hown hxx _)
    go_ret
    have hk' : k = l := hk.out
    subst hk'
    exact RetOwnX.mk hown hxx
set_option maxHeartbeats 800000 in
theorem cloneX_se (X : Avoid) (w : World) (hX : ∀ k, X k → k < w.heap.size) (x : Value) (l : List Se) (hl : l.length ≤ 100000) (hx : Enc.Sl seE w X x l) :
    Calls Tryz.prog 56 #[x] w fun e w' => RetOwnX 56 seE w w' X e l := by
  obtain ⟨A, c, rfl, k1, k2⟩ := hx.form
  have q := fun (w : World) (a : Option Addr) (n c n' c' : Nat) => Lib.run_eql_slice_nil (P := Tryz.prog) w _ _ a n c n' c' Tryz.underlying26
  generalize hn : l.length = n at *
  have HN := hide hn
  clear hn
  rcases A with _ | ad
  · go_enter Tryz.func56, Tryz.ntmps56
    go_wp2
    go_ret
    have h0 : l = [] := sl_none (by rw [HN.out]; exact hx)
    subst h0
    exact RetOwnX.mk (Own.nil _ _ _ _ _) (Ext.rfl' _)
  · go_enter Tryz.func56, Tryz.ntmps56
    go_wp2_with (at_builtin; refine wpList_own elt_se 26 Tryz.underlying26 rfl _ _ rfl (Own.lit0 (w0 := w) (X := X) _ _ (Ext.rfl' w) _ rfl (fun h => Nat.lt_irrefl _ (hX _ h))) rfl ((Ext.rfl' w).alloc' _) (m := l) rfl (Sl.apartX (w0 := w) hx ((Ext.rfl' w).alloc' _) (own_lit w)) (fun h => by have := hX _ h; simp at this; omega) (by have := HN.out; simp only [List.length_nil]; omega) (by have := HN.out; simp only [List.length_nil]; omega) ?_; intro k A2 c2 w2 hk hown hxx _)
    go_ret
    have hk' : k = l := hk.out
    subst hk'
    exact RetOwnX.mk hown hxx
set_option maxHeartbeats 800000 in
theorem cloneX_set (X : Avoid) (w : World) (hX : ∀ k, X k → k < w.heap.size) (x : Value) (l : List Se) (hl : l.length ≤ 100000) (hx : Enc.Sl seE w X x l) :
    Calls Tryz.prog 98 #[x] w fun e w' => RetOwnX 56 seE w w' X e l := by
  obtain ⟨A, c, rfl, k1, k2⟩ := hx.form
  have q := fun (w : World) (a : Option Addr) (n c n' c' : Nat) => Lib.run_eql_slice_nil (P := Tryz.prog) w _ _ a n c n' c' Tryz.underlying99
  generalize hn : l.length = n at *
  have HN := hide hn
  clear hn
  rcases A with _ | ad
  · go_enter Tryz.func98, Tryz.ntmps98
    go_wp2
    go_ret
    have h0 : l = [] := sl_none (by rw [HN.out]; exact hx)
    subst h0
    exact RetOwnX.mk (Own.nil _ _ _ _ _) (Ext.rfl' _)
  · go_enter Tryz.func98, Tryz.ntmps98
    go_wp2_with (at_builtin; refine wpList_own elt_se 99 Tryz.underlying99 rfl _ _ rfl (Own.lit0 (w0 := w) (X := X) _ _ (Ext.rfl' w) _ rfl (fun h => Nat.lt_irrefl _ (hX _ h))) rfl ((Ext.rfl' w).alloc' _) (m := l) rfl (Sl.apartX (w0 := w) hx ((Ext.rfl' w).alloc' _) (own_lit w)) (fun h => by have := hX _ h; simp at this; omega) (by have := HN.out; simp only [List.length_nil]; omega) (by have := HN.out; simp only [List.length_nil]; omega) ?_; intro k A2 c2 w2 hk hown hxx _)
    go_ret
    have hk' : k = l := hk.out
    subst hk'
    exact RetOwnX.mk hown hxx
set_option maxHeartbeats 800000 in
theorem cloneX_dn (X : Avoid) (w : World) (hX : ∀ k, X k → k < w.heap.size) (x : Value) (l : List Dn) (hl : l.length ≤ 100000) (hx : Enc.Sl dnE w X x l) :
    Calls Tryz.prog 57 #[x] w fun e w' => RetOwnX 68 dnE w w' X e l := by
  obtain ⟨A, c, rfl, k1, k2⟩ := hx.form
  have q := fun (w : World) (a : Option Addr) (n c n' c' : Nat) => Lib.run_eql_slice_nil (P := Tryz.prog) w _ _ a n c n' c' Tryz.underlying54
  generalize hn : l.length = n at *
  have HN := hide hn
  clear hn
  rcases A with _ | ad
  · go_enter Tryz.func57, Tryz.ntmps57
    go_wp2
    go_ret
    have h0 : l = [] := sl_none (by rw [HN.out]; exact hx)
    subst h0
    exact RetOwnX.mk (Own.nil _ _ _ _ _) (Ext.rfl' _)
  · go_enter Tryz.func57, Tryz.ntmps57
    go_wp2_with (at_builtin; refine wpList_own elt_dn 54 Tryz.underlying54 rfl _ _ rfl (Own.lit0 (w0 := w) (X := X) _ _ (Ext.rfl' w) _ rfl (fun h => Nat.lt_irrefl _ (hX _ h))) rfl ((Ext.rfl' w).alloc' _) (m := l) rfl (Sl.apartX (w0 := w) hx ((Ext.rfl' w).alloc' _) (own_lit w)) (fun h => by have := hX _ h; simp at this; omega) (by have := HN.out; simp only [List.length_nil]; omega) (by have := HN.out; simp only [List.length_nil]; omega) ?_; intro k A2 c2 w2 hk hown hxx _)
    go_ret
    have hk' : k = l := hk.out
    subst hk'
    exact RetOwnX.mk hown hxx
theorem clone_dn (x : Value) (l : List Dn) (w : World) (hl : l.length ≤ 100000) (hx : Enc.Sl dnE w noneAt x l) :
    Calls Tryz.prog 57 #[x] w fun e w' => RetOwn 68 dnE w w' e l := cloneX_dn noneAt w (fun _ h => h.elim) x l hl hx
end Go.Proofs.YtamimdlaclglkaaGreat
namespace Go.Proofs.YtamimdlaclglkaaGreat
set_option linter.unusedVariables false
set_option linter.unusedSimpArgs false
set_option linter.unnecessarySimpa false
set_option maxRecDepth 100000
open Go.RowKit
section
variable {w : World} {X : Avoid} {A : Option Addr} {n c k : Nat}
theorem se_at {l : List Se} (h : Enc.Sl seE w X (.slice A n c) l) (hk : k < l.length) : ∃ ad s v, A = some ad ∧ Hid (l[k]? = some s) ∧ ad.block < w.heap.size ∧ w.cell? (ad.add (k * 3)) = some (.int .i64 s.client) ∧
    w.cell? ⟨(ad.add (k * 3)).block, (ad.add (k * 3)).off + 1, none⟩ = some (.int .u64 s.high) ∧ w.cell? ⟨(ad.add (k * 3)).block, (ad.add (k * 3)).off + 2, none⟩ = some v ∧ I64 s.client ∧ U64 s.high ∧ Enc.Sl dnE w X v s.done := by
  obtain ⟨ad, cs, rfl, hrep, hb, hcell⟩ := h.at_ hk
  obtain ⟨v, rfl, r1, r2, r3⟩ := se_rep.1 hrep
  exact ⟨ad, _, v, rfl, hide (List.getElem?_eq_getElem hk), hb, Enc.cell0 hcell rfl, Enc.cellS hcell 0 rfl, Enc.cellS hcell 1 rfl, r1, r2, r3⟩
theorem dn_at {l : List Dn} (h : Enc.Sl dnE w X (.slice A n c) l) (hk : k < l.length) : ∃ ad s, A = some ad ∧ Hid (l[k]? = some s) ∧ ad.block < w.heap.size ∧ w.cell? (ad.add (k * 3)) = some (.int .u64 s.seq) ∧
    w.cell? ⟨(ad.add (k * 3)).block, (ad.add (k * 3)).off + 1, none⟩ = some (.int .i64 s.an.err) ∧ w.cell? ⟨(ad.add (k * 3)).block, (ad.add (k * 3)).off + 2, none⟩ = some (str s.an.text) ∧ U64 s.seq ∧ I64 s.an.err ∧ s.an.text.length ≤ maxLen := by
  obtain ⟨ad, cs, rfl, hrep, hb, hcell⟩ := h.at_ hk
  obtain ⟨rfl, r1, r2, r3⟩ := dn_rep.1 hrep
  exact ⟨ad, _, rfl, hide (List.getElem?_eq_getElem hk), hb, Enc.cell0 hcell rfl, Enc.cellS hcell 0 rfl, Enc.cellS hcell 1 rfl, r1, r2, r3⟩
theorem ln_at {l : List Ln} (h : Enc.Sl lnE w X (.slice A n c) l) (hk : k < l.length) : ∃ ad s, A = some ad ∧ Hid (l[k]? = some s) ∧ ad.block < w.heap.size ∧ w.cell? (ad.add (k * 4)) = some (str s.name) ∧
    w.cell? ⟨(ad.add (k * 4)).block, (ad.add (k * 4)).off + 1, none⟩ = some (str s.url) ∧ w.cell? ⟨(ad.add (k * 4)).block, (ad.add (k * 4)).off + 2, none⟩ = some (.int .u64 s.till) ∧
    w.cell? ⟨(ad.add (k * 4)).block, (ad.add (k * 4)).off + 3, none⟩ = some (.bool s.made) ∧ s.name.length ≤ maxLen ∧ s.url.length ≤ maxLen ∧ U64 s.till := by
  obtain ⟨ad, cs, rfl, hrep, hb, hcell⟩ := h.at_ hk
  obtain ⟨rfl, r1, r2, r3⟩ := ln_rep.1 hrep
  exact ⟨ad, _, rfl, hide (List.getElem?_eq_getElem hk), hb, Enc.cell0 hcell rfl, Enc.cellS hcell 0 rfl, Enc.cellS hcell 1 rfl, Enc.cellS hcell 2 rfl, r1, r2, r3⟩
end
end Go.Proofs.YtamimdlaclglkaaGreat
