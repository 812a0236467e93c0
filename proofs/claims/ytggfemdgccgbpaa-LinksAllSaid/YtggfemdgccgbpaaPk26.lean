import Derived.Test.YtggfemdgccgbpaaPk16
import Derived.Test.YtggfemdgccgbpaaPk25
/- An element of a slice of new memory is written over. -/
namespace Go.Proofs.Ytggfemdgccgbpaa
set_option linter.unusedVariables false
set_option linter.unusedSimpArgs false
set_option linter.unnecessarySimpa false
set_option maxRecDepth 100000
open Go.RowKit
section
variable {α : Type} {T : TypeId} {E : Enc α} {w0 w w' : World} {X : Avoid} {g cap : Nat} {l : List α}
theorem Own.blk (h : Own T E w0 w X (.slice (some ⟨g, 0, none⟩) l.length cap) l) (hn : 0 < l.length) : ∃ cur css, Blk w g T cur ∧ w0.heap.size ≤ g ∧ l.length ≤ cap ∧ cap ≤ maxLen ∧ cur.size = cap * E.size ∧ cur.toList.take (l.length * E.size) = css.flatten ∧ Enc.Each E w (fun k => X k ∨ k = g) css l ∧ ¬ X g := by
  obtain ⟨g', cap', cur, css, he, h1, h2, h3, h4, h5, h6, h7, h8⟩ := h.open_ hn
  simp only [Value.slice.injEq, Option.some.injEq, Addr.mk.injEq, and_true, true_and] at he
  obtain ⟨rfl, rfl⟩ := he
  exact ⟨cur, css, h1, h2, h3, h4, h5, h6, h7, h8⟩
theorem flat_set (css : List (List Value)) (k i : Nat) (cs : List Value) (h : ∀ c ∈ css, c.length = k) (hc : cs.length = k) (hi : i < css.length) : (css.set i cs).flatten = css.flatten.take (i * k) ++ cs ++ css.flatten.drop ((i + 1) * k) := by
  rw [flat_take css k i h, flat_drop css k (i + 1) h, List.set_eq_take_append_cons_drop, if_pos hi, List.flatten_append, List.flatten_cons, List.append_assoc]
theorem Each.set {css : List (List Value)} (h : Enc.Each E w X css l) (i : Nat) {cs : List Value} {a : α} (hr : E.rep w X cs a) : Enc.Each E w X (css.set i cs) (l.set i a) := by
  refine ⟨by simp [h.1], fun k c b h1 h2 => ?_⟩
  rw [List.getElem?_set] at h1 h2
  by_cases hki : i = k
  · rw [if_pos hki] at h1 h2
    split at h1
    · rename_i hk
      rw [if_pos (by rw [← h.1]; exact hk)] at h2
      obtain rfl := Option.some.inj h1
      obtain rfl := Option.some.inj h2
      exact hr
    · cases h1
  · rw [if_neg hki] at h1 h2
    exact h.2 k c b h1 h2
/-- whatever the walk wrote: if the block holds the element's cells there, the slice reads the list with that element -/
theorem Own.put (h : Own T E w0 w X (.slice (some ⟨g, 0, none⟩) l.length cap) l) {i : Nat} (hi : i < l.length) {a : α} {cs : List Value} (hr : E.rep w (fun k => X k ∨ k = g) cs a) (hcg : Chg [g] w w')
    (hw : ∀ cur, Blk w g T cur → i * E.size + E.size ≤ cur.size → ∃ cur', Blk w' g T cur' ∧ cur'.toList = cur.toList.take (i * E.size) ++ cs ++ cur.toList.drop (i * E.size + E.size)) : Own T E w0 w' X (.slice (some ⟨g, 0, none⟩) l.length cap) (l.set i a) := by
  obtain ⟨cur, css, h1, h2, h3, h4, h5, h6, h7, h8⟩ := h.blk (by omega)
  have hil : (i + 1) * E.size ≤ l.length * E.size := Nat.mul_le_mul_right _ hi
  have hic : l.length * E.size ≤ cap * E.size := Nat.mul_le_mul_right _ h3
  have e0 : (i + 1) * E.size = i * E.size + E.size := Nat.succ_mul _ _
  obtain ⟨cur', k1, k2⟩ := hw cur h1 (by rw [h5]; omega)
  have hcl := E.len hr
  have hct : cur.toList.length = cap * E.size := by rw [Array.length_toList, h5]
  have hfl := flat_len css E.size h7.lens
  rw [h7.1] at hfl
  have hl2 : (l.set i a).length = l.length := by simp
  have hm := Own.mk (T := T) (E := E) (w0 := w0) (w := w') (X := X) (g := g) (cap := cap) (l := l.set i a) cur' (css.set i cs) k1 h2 (by rw [hl2]; exact h3) h4 ?_ ?_ ((Each.set h7 i hr).chg hcg fun k hk _ => .inr (by simpa using hk)) h8
  · rw [hl2] at hm; exact hm
  · rw [← Array.length_toList, k2]
    simp only [List.length_append, List.length_take, List.length_drop, hct, hcl]
    omega
  · rw [hl2, k2, flat_set css E.size i cs h7.lens hcl (by rw [h7.1]; exact hi), ← h6]
    rw [List.take_take, Nat.min_eq_left (by omega), e0]
    rw [List.take_append, List.length_append, List.length_take, hcl, hct, Nat.min_eq_left (by omega)]
    rw [List.take_of_length_le (by rw [List.length_append, List.length_take, hcl, hct]; omega)]
    congr 1
    rw [List.drop_take]
end
theorem put3_cells {W : World} {g o : Nat} {T : TypeId} {cur : Array Value} {a b c : Value} (h : Blk W g T cur) (ho : o + 3 ≤ cur.size) :
    ∃ cur', Blk (((W.setCell ⟨g, o, none⟩ a).setCell ⟨g, o + 1, none⟩ b).setCell ⟨g, o + 2, none⟩ c) g T cur' ∧ cur'.toList = cur.toList.take o ++ [a, b, c] ++ cur.toList.drop (o + 3) :=
  ⟨_, h.st3 o a b c, by simp only [Array.toList_setIfInBounds]; exact set3 _ _ _ _ _ (by rw [Array.length_toList]; exact ho)⟩
theorem put4_cells {W : World} {g o : Nat} {T : TypeId} {cur : Array Value} {a b c d : Value} (h : Blk W g T cur) (ho : o + 4 ≤ cur.size) :
    ∃ cur', Blk ((((W.setCell ⟨g, o, none⟩ a).setCell ⟨g, o + 1, none⟩ b).setCell ⟨g, o + 2, none⟩ c).setCell ⟨g, o + 3, none⟩ d) g T cur' ∧ cur'.toList = cur.toList.take o ++ [a, b, c, d] ++ cur.toList.drop (o + 4) :=
  ⟨_, h.st4 o a b c d, by simp only [Array.toList_setIfInBounds]; exact set4 _ _ _ _ _ _ (by rw [Array.length_toList]; exact ho)⟩
/-- the last of an element's three cells is written over -/
theorem Own.third {α : Type} {T : TypeId} {E : Enc α} {w0 w : World} {X : Avoid} {g cap : Nat} {l : List α} (h : Own T E w0 w X (.slice (some ⟨g, 0, none⟩) l.length cap) l) (hE : E.size = 3) {i : Nat} (hi : i < l.length) {a : α} {c0 c1 v : Value}
    (e0 : w.cell? ⟨g, i * 3, none⟩ = some c0) (e1 : w.cell? ⟨g, i * 3 + 1, none⟩ = some c1) (hr : E.rep w (fun k => X k ∨ k = g) [c0, c1, v] a) : Own T E w0 (w.setCell ⟨g, i * 3 + 2, none⟩ v) X (.slice (some ⟨g, 0, none⟩) l.length cap) (l.set i a) := by
  refine h.put hi hr ((Chg.refl _ _).set (by simp) v) fun cur hB ho => ⟨_, hB.set_ (i * 3 + 2) v, ?_⟩
  rw [hE] at ho ⊢
  rw [hB.cell] at e0 e1
  have ho' : i * 3 + 3 ≤ cur.toList.length := by rw [Array.length_toList]; exact ho
  simp only [Array.toList_setIfInBounds]
  rw [← set3 cur.toList (i * 3) c0 c1 v ho']
  congr 1
  rw [← Array.getElem?_toList] at e0 e1
  obtain ⟨h0, e0⟩ := List.getElem?_eq_some_iff.1 e0
  obtain ⟨h1, e1⟩ := List.getElem?_eq_some_iff.1 e1
  rw [← e0, ← e1]
  apply List.ext_getElem?
  intro j
  simp only [List.getElem?_set, List.length_set]
  by_cases hj1 : i * 3 + 1 = j
  · subst hj1; have h1' : i * 3 + 1 < cur.size := by simpa using h1
    simp [h1']
  · by_cases hj0 : i * 3 = j
    · subst hj0; have h0' : i * 3 < cur.size := by simpa using h0
      simp [h0']
    · simp [hj0, hj1]
end Go.Proofs.Ytggfemdgccgbpaa

/- Slices of structs in new memory: more of them. -/
namespace Go.Proofs.Ytggfemdgccgbpaa
set_option linter.unusedVariables false
set_option linter.unusedSimpArgs false
set_option linter.unnecessarySimpa false
set_option maxRecDepth 100000
open Go.RowKit
theorem dn_widen {w : World} {X Y : Avoid} {cs : List Value} {d : Dn} (h : dnE.rep w X cs d) : dnE.rep w Y cs d := dn_rep.2 (dn_rep.1 h)
theorem ln_widen {w : World} {X Y : Avoid} {cs : List Value} {d : Ln} (h : lnE.rep w X cs d) : lnE.rep w Y cs d := ln_rep.2 (ln_rep.1 h)
theorem Own.widen {α : Type} {T : TypeId} {E : Enc α} {w0 w : World} {X Y : Avoid} {v : Value} {l : List α} (hE : ∀ {cs a}, E.rep w (fun k => X k ∨ v.ownBlock = some k) cs a → E.rep w (fun k => Y k ∨ v.ownBlock = some k) cs a) (h : Own T E w0 w X v l) (hY : ∀ k, Y k → k < w0.heap.size) : Own T E w0 w Y v l := by
  obtain ⟨css, h1, h2, h3⟩ := h
  exact ⟨css, h1, ⟨h2.1, fun k cs a e1 e2 => hE (h2.2 k cs a e1 e2)⟩, fun k hk hy => by have := h1.lt k hk; have := hY k hy; omega⟩
theorem own_cells {α : Type} {T : TypeId} {E : Enc α} {w0 w : World} {X : Avoid} {g cap k : Nat} {l : List α} (h : Own T E w0 w X (.slice (some ⟨g, 0, none⟩) l.length cap) l) (hk : k < l.length) : ∃ a cs, Hid (l[k]? = some a) ∧ g < w.heap.size ∧ E.rep w (fun j => X j ∨ j = g) cs a ∧ ∀ j u, cs[j]? = some u → w.cell? ⟨g, k * E.size + j, none⟩ = some u := by
  obtain ⟨cur, css, h1, h2, h3, h4, h5, h6, h7, h8⟩ := h.blk (by omega)
  have hkc : k < css.length := by rw [h7.1]; exact hk
  have hcs : css[k]? = some css[k] := List.getElem?_eq_getElem hkc
  refine ⟨l[k], css[k], hide (List.getElem?_eq_getElem hk), h1.lt, h7.2 k _ _ hcs (List.getElem?_eq_getElem hk), fun j u hu => ?_⟩
  have h9 := Enc.flatten_at css k css[k] h7.lens hcs j u hu
  rw [← h6, List.getElem?_take] at h9
  split at h9
  · rw [h1.cell, ← Array.getElem?_toList]; exact h9
  · cases h9
theorem se_own_at {T : TypeId} {w0 w : World} {X : Avoid} {g cap k : Nat} {l : List Se} (h : Own T seE w0 w X (.slice (some ⟨g, 0, none⟩) l.length cap) l) (hk : k < l.length) : ∃ s v, Hid (l[k]? = some s) ∧ g < w.heap.size ∧ w.cell? ⟨g, k * 3, none⟩ = some (.int .i64 s.client) ∧ w.cell? ⟨g, k * 3 + 1, none⟩ = some (.int .u64 s.high) ∧ w.cell? ⟨g, k * 3 + 2, none⟩ = some v ∧ I64 s.client ∧ U64 s.high ∧ Enc.Sl dnE w (fun j => X j ∨ j = g) v s.done := by
  obtain ⟨s, cs, h1, h2, h3, h4⟩ := own_cells h hk
  obtain ⟨v, rfl, r1, r2, r3⟩ := se_rep.1 h3
  exact ⟨s, v, h1, h2, h4 0 _ rfl, h4 1 _ rfl, h4 2 _ rfl, r1, r2, r3⟩
theorem set_same {α : Type} (l : List α) (k : Nat) (a : α) (h : l[k]? = some a) : l.set k a = l := by
  obtain ⟨h1, h2⟩ := List.getElem?_eq_some_iff.1 h
  rw [← h2, List.set_getElem_self]
theorem Own.chgT {α : Type} {T T' : TypeId} {E : Enc α} {w0 w w' : World} {X : Avoid} {g : Nat} {v : Value} {l : List α} {cur : Array Value} (h : Own T E w0 w X v l) (hB : Blk w g T' cur) (hne : T ≠ T') (hc : Chg [g] w w') (hE : ∀ {Y cs a}, E.rep w Y cs a → E.rep w' Y cs a) : Own T E w0 w' X v l := by
  obtain ⟨css, h1, h2, h3⟩ := h
  refine ⟨css, own_chg h1 hc fun k hk hm => ?_, ⟨h2.1, fun k cs a e1 e2 => hE (h2.2 k cs a e1 e2)⟩, h3⟩
  simp at hm
  subst hm
  exact own_blk_ne h1 hB hne hk
end Go.Proofs.Ytggfemdgccgbpaa

/- Links: the maker puts a link. -/
namespace Go.Proofs.Ytggfemdgccgbpaa
set_option linter.unusedVariables false
set_option linter.unusedSimpArgs false
set_option linter.unnecessarySimpa false
set_option maxRecDepth 100000
open Go.RowKit
/-- the maker's variable behind a command -/
def MkTo (X : Avoid) (w w' : World) (g : Nat) (t : St) (c : Cm) (vt vs : Value) : Prop := ∃ vl, Blk w' g 71 (mkcells t c vt vl vs).toArray ∧ Enc.Sl lnE w' X vl t.links ∧ Chg [g] w w'
def RetMk (X : Avoid) (w w' : World) (g : Nat) (c : Cm) (vt vs : Value) (e : Ending) (r : St × An) : Prop := ∃ (t : St) (a : An), Hid ((t, a) = r) ∧ e = .returned (.agg (acells a).toArray) ∧ MkTo X w w' g t c vt vs
theorem Blk.two_ {w : World} {g : Nat} {T : TypeId} {x0 x1 : Value} (h : Blk w g T #[x0, x1]) (a b : Value) : Blk ((w.setCell ⟨g, 0, none⟩ a).setCell ⟨g, 1, none⟩ b) g T #[a, b] := (h.set_ 0 a).set_ 1 b
theorem Chg.two_ {S : List Nat} {w0 w : World} {g : Nat} (h : Chg S w0 w) (hg : g ∈ S) (a b : Value) : Chg S w0 ((w.setCell ⟨g, 0, none⟩ a).setCell ⟨g, 1, none⟩ b) := (h.set hg _).set hg _
theorem ln_any {w w' : World} {Y : Avoid} {cs : List Value} {a : Ln} (h : lnE.rep w Y cs a) : lnE.rep w' Y cs a := ln_rep.2 (ln_rep.1 h)
/-- a slice of links lies as it lay, where a block of another kind was written -/
theorem Own.lnT {T' : TypeId} {w0 w w' : World} {X : Avoid} {g : Nat} {v : Value} {l : List Ln} {cur : Array Value} (h : Own 48 lnE w0 w X v l) (hB : Blk w g T' cur) (hne : 48 ≠ T') (hc : Chg [g] w w') : Own 48 lnE w0 w' X v l := h.chgT hB hne hc ln_any
set_option maxHeartbeats 3200000 in
theorem lkput_b (X : Avoid) (g : Nat) (s : St) (c : Cm) (vt vl vs : Value) (n : Bytes) (made : Bool) (w : World) (hX : ∀ k, X k → k < w.heap.size) (hXg : ¬ X g) (h : Blk w g 71 (mkcells s c vt vl vs).toArray)
    (hvt : Enc.Sl lnE w X vt s.links) (hl : s.links.length ≤ 10000) (hr : RiseL s.links) (hf : lfind s.links n = none) (hxw : n.length ≤ maxLen ∧ c.url.length ≤ maxLen ∧ U64 c.till) :
    Calls Try.prog 52 #[.pointer (some ⟨g, 0, none⟩), str n, .bool made] w fun e w' =>
      RetMk X w w' g c vt vs e (⟨s.now, s.count, lkput s.links ⟨n, c.url, c.till, made⟩, s.sess⟩, ⟨0, n⟩) := by
  obtain ⟨At, ct, rfl, -, -⟩ := hvt.form
  have hgw := h.lt
  obtain ⟨ga, hga⟩ : ∃ ga, w.heap.size = ga := ⟨_, rfl⟩
  have hxa : Ext w (w.alloc (.cells (acells ⟨0, []⟩).toArray 33)) := (Ext.rfl' w).alloc' _
  have hA := Blk.new w 33 (acells ⟨0, []⟩).toArray
  rw [hga] at hA
  replace h := h.ext hxa
  replace hvt := hvt.ext hxa
  have hX1 : ∀ k, X k → k < (w.alloc (.cells (acells ⟨0, []⟩).toArray 33)).heap.size := fun k hk => Nat.lt_of_lt_of_le (hX k hk) hxa.size
  go_enter Try.func52, Try.ntmps52
  go_upto_region 1 with fail
  generalize hw1 : w.alloc (.cells (acells ⟨0, []⟩).toArray 33) = w1 at *
  clear hw1
  refine Rg.regionT Try.checked.mixed 31 22 (by kernel_rfl) [
    (fun x_ _ => x_ = .pointer (some ⟨g, 0, none⟩)),
    (fun x_ _ => x_ = .pointer (some ⟨g, 0, none⟩)),
    (fun x_ _ => x_ = .pointer (some ⟨g, 0, none⟩)),
    (fun x_ _ => x_ = .pointer (some ⟨g, 0, none⟩)),
    (fun x_ _ => x_ = .slice At s.links.length ct),
    (fun x_ _ => x_ = str n),
    (fun x_ _ => x_ = .pointer (some ⟨g, 0, none⟩)),
    (fun x_ _ => x_ = .pointer (some ⟨g, 0, none⟩)),
    (fun x_ _ => x_ = .pointer (some ⟨g, 5, none⟩)),
    (fun x_ _ => x_ = .pointer (some ⟨g, 9, none⟩)),
    (fun x_ _ => x_ = str c.url),
    (fun x_ _ => x_ = .pointer (some ⟨g, 0, none⟩)),
    (fun x_ _ => x_ = .pointer (some ⟨g, 0, none⟩)),
    (fun x_ _ => x_ = .pointer (some ⟨g, 5, none⟩)),
    (fun x_ _ => x_ = .pointer (some ⟨g, 10, none⟩)),
    (fun x_ _ => x_ = .int .u64 c.till),
    (fun x_ _ => x_ = .bool made),
    (fun x_ _ => x_ = .agg #[str n, str c.url, .int .u64 c.till, .bool made]),
    (fun v W => Own 48 lnE w1 W X v (lkput s.links ⟨n, c.url, c.till, made⟩)),
    (fun x_ _ => x_ = .pointer (some ⟨g, 0, none⟩)),
    (fun x_ _ => x_ = .pointer (some ⟨g, 1, none⟩)),
    (fun x_ _ => x_ = .pointer (some ⟨g, 3, none⟩))] (fun W => Ext w1 W) Ext rfl rfl rfl
    ?st ((Ext.rfl' w1).drew') ?ob ?en
  case st => exact ⟨fun _ _ _ h _ => h, fun _ _ _ h _ => h, fun _ _ _ h _ => h, fun _ _ _ h _ => h, fun _ _ _ h _ => h, fun _ _ _ h _ => h, fun _ _ _ h _ => h, fun _ _ _ h _ => h, fun _ _ _ h _ => h, fun _ _ _ h _ => h, fun _ _ _ h _ => h, fun _ _ _ h _ => h, fun _ _ _ h _ => h, fun _ _ _ h _ => h, fun _ _ _ h _ => h, fun _ _ _ h _ => h, fun _ _ _ h _ => h, fun _ _ _ h _ => h, fun _ _ _ h hx => h.ext hx, fun _ _ _ h _ => h, fun _ _ _ h _ => h, fun _ _ _ h _ => h, trivial⟩
  case ob =>
    refine ⟨Rg.at_run [0] rfl ?_, ?_⟩
    · intro ρ W hR ⟨q0, _⟩
      replace q0 : ρ 0 = .pointer (some ⟨g, 0, none⟩) := q0
      refine ⟨rfl, ?_⟩
      exact Rg.run_ok (v := .pointer (some ⟨g, 0, none⟩)) (by simp [execOp, Rg.ev, go_sem, q0]) ⟨rfl, hR, Ext.rfl' _⟩
    refine ⟨Rg.at_run [0] rfl ?_, ?_⟩
    · intro ρ W hR ⟨q0, _⟩
      replace q0 : ρ 0 = .pointer (some ⟨g, 0, none⟩) := q0
      refine ⟨rfl, ?_⟩
      exact Rg.run_ok (v := .pointer (some ⟨g, 0, none⟩)) (by simp [execOp, Rg.ev, go_sem, q0]) ⟨rfl, hR, Ext.rfl' _⟩
    refine ⟨Rg.at_run [8] rfl ?_, ?_⟩
    · intro ρ W hR ⟨q8, _⟩
      replace q8 : ρ 8 = .pointer (some ⟨g, 0, none⟩) := q8
      refine ⟨rfl, ?_⟩
      exact Rg.run_ok (v := .pointer (some ⟨g, 0, none⟩)) (by simp [execOp, Rg.ev, go_sem, q8]) ⟨rfl, hR, Ext.rfl' _⟩
    refine ⟨Rg.at_run [9] rfl ?_, ?_⟩
    · intro ρ W hR ⟨q9, _⟩
      replace q9 : ρ 9 = .pointer (some ⟨g, 0, none⟩) := q9
      refine ⟨rfl, ?_⟩
      exact Rg.run_ok (v := .pointer (some ⟨g, 0, none⟩)) (by simp [execOp, Rg.ev, go_sem, q9]) ⟨rfl, hR, Ext.rfl' _⟩
    refine ⟨Rg.at_run [10] rfl ?_, ?_⟩
    · intro ρ W hR ⟨q10, _⟩
      replace q10 : ρ 10 = .pointer (some ⟨g, 0, none⟩) := q10
      refine ⟨rfl, ?_⟩
      have c0_ : W.cell? ⟨g, 0, none⟩ = some (.slice At s.links.length ct) := ((h.ext hR).cell 0).trans rfl
      exact Rg.run_ok (v := .slice At s.links.length ct) (by simp [execOp, Rg.ev, go_sem, q10, c0_]) ⟨rfl, hR, Ext.rfl' _⟩
    refine ⟨Rg.at_run [1] rfl ?_, ?_⟩
    · intro ρ W hR ⟨q1, _⟩
      replace q1 : ρ 1 = str n := q1
      refine ⟨rfl, ?_⟩
      exact Rg.run_ok (v := str n) (by simp [execOp, Rg.ev, go_sem, q1]) ⟨rfl, hR, Ext.rfl' _⟩
    refine ⟨Rg.at_run [0] rfl ?_, ?_⟩
    · intro ρ W hR ⟨q0, _⟩
      replace q0 : ρ 0 = .pointer (some ⟨g, 0, none⟩) := q0
      refine ⟨rfl, ?_⟩
      exact Rg.run_ok (v := .pointer (some ⟨g, 0, none⟩)) (by simp [execOp, Rg.ev, go_sem, q0]) ⟨rfl, hR, Ext.rfl' _⟩
    refine ⟨Rg.at_run [13] rfl ?_, ?_⟩
    · intro ρ W hR ⟨q13, _⟩
      replace q13 : ρ 13 = .pointer (some ⟨g, 0, none⟩) := q13
      refine ⟨rfl, ?_⟩
      exact Rg.run_ok (v := .pointer (some ⟨g, 0, none⟩)) (by simp [execOp, Rg.ev, go_sem, q13]) ⟨rfl, hR, Ext.rfl' _⟩
    refine ⟨Rg.at_run [14] rfl ?_, ?_⟩
    · intro ρ W hR ⟨q14, _⟩
      replace q14 : ρ 14 = .pointer (some ⟨g, 0, none⟩) := q14
      refine ⟨rfl, ?_⟩
      exact Rg.run_ok (v := .pointer (some ⟨g, 5, none⟩)) (by simp [execOp, Rg.ev, go_sem, q14]) ⟨rfl, hR, Ext.rfl' _⟩
    refine ⟨Rg.at_run [15] rfl ?_, ?_⟩
    · intro ρ W hR ⟨q15, _⟩
      replace q15 : ρ 15 = .pointer (some ⟨g, 5, none⟩) := q15
      refine ⟨rfl, ?_⟩
      exact Rg.run_ok (v := .pointer (some ⟨g, 9, none⟩)) (by simp [execOp, Rg.ev, go_sem, q15]) ⟨rfl, hR, Ext.rfl' _⟩
    refine ⟨Rg.at_run [16] rfl ?_, ?_⟩
    · intro ρ W hR ⟨q16, _⟩
      replace q16 : ρ 16 = .pointer (some ⟨g, 9, none⟩) := q16
      refine ⟨rfl, ?_⟩
      have c9_ : W.cell? ⟨g, 9, none⟩ = some (str c.url) := ((h.ext hR).cell 9).trans rfl
      exact Rg.run_ok (v := str c.url) (by simp [execOp, Rg.ev, go_sem, q16, c9_]) ⟨rfl, hR, Ext.rfl' _⟩
    refine ⟨Rg.at_run [0] rfl ?_, ?_⟩
    · intro ρ W hR ⟨q0, _⟩
      replace q0 : ρ 0 = .pointer (some ⟨g, 0, none⟩) := q0
      refine ⟨rfl, ?_⟩
      exact Rg.run_ok (v := .pointer (some ⟨g, 0, none⟩)) (by simp [execOp, Rg.ev, go_sem, q0]) ⟨rfl, hR, Ext.rfl' _⟩
    refine ⟨Rg.at_run [18] rfl ?_, ?_⟩
    · intro ρ W hR ⟨q18, _⟩
      replace q18 : ρ 18 = .pointer (some ⟨g, 0, none⟩) := q18
      refine ⟨rfl, ?_⟩
      exact Rg.run_ok (v := .pointer (some ⟨g, 0, none⟩)) (by simp [execOp, Rg.ev, go_sem, q18]) ⟨rfl, hR, Ext.rfl' _⟩
    refine ⟨Rg.at_run [19] rfl ?_, ?_⟩
    · intro ρ W hR ⟨q19, _⟩
      replace q19 : ρ 19 = .pointer (some ⟨g, 0, none⟩) := q19
      refine ⟨rfl, ?_⟩
      exact Rg.run_ok (v := .pointer (some ⟨g, 5, none⟩)) (by simp [execOp, Rg.ev, go_sem, q19]) ⟨rfl, hR, Ext.rfl' _⟩
    refine ⟨Rg.at_run [20] rfl ?_, ?_⟩
    · intro ρ W hR ⟨q20, _⟩
      replace q20 : ρ 20 = .pointer (some ⟨g, 5, none⟩) := q20
      refine ⟨rfl, ?_⟩
      exact Rg.run_ok (v := .pointer (some ⟨g, 10, none⟩)) (by simp [execOp, Rg.ev, go_sem, q20]) ⟨rfl, hR, Ext.rfl' _⟩
    refine ⟨Rg.at_run [21] rfl ?_, ?_⟩
    · intro ρ W hR ⟨q21, _⟩
      replace q21 : ρ 21 = .pointer (some ⟨g, 10, none⟩) := q21
      refine ⟨rfl, ?_⟩
      have c10_ : W.cell? ⟨g, 10, none⟩ = some (.int .u64 c.till) := ((h.ext hR).cell 10).trans rfl
      exact Rg.run_ok (v := .int .u64 c.till) (by simp [execOp, Rg.ev, go_sem, q21, c10_]) ⟨rfl, hR, Ext.rfl' _⟩
    refine ⟨Rg.at_run [2] rfl ?_, ?_⟩
    · intro ρ W hR ⟨q2, _⟩
      replace q2 : ρ 2 = .bool made := q2
      refine ⟨rfl, ?_⟩
      exact Rg.run_ok (v := .bool made) (by simp [execOp, Rg.ev, go_sem, q2]) ⟨rfl, hR, Ext.rfl' _⟩
    refine ⟨Rg.at_run [12, 17, 22, 23] rfl ?_, ?_⟩
    · intro ρ W hR ⟨q12, q17, q22, q23, _⟩
      replace q12 : ρ 12 = str n := q12
      replace q17 : ρ 17 = str c.url := q17
      replace q22 : ρ 22 = .int .u64 c.till := q22
      replace q23 : ρ 23 = .bool made := q23
      refine ⟨rfl, ?_⟩
      exact Rg.run_ok (v := .agg #[str n, str c.url, .int .u64 c.till, .bool made]) (by simp [execOp, Rg.ev, go_sem, q12, q17, q22, q23]) ⟨rfl, hR, Ext.rfl' _⟩
    refine ⟨Rg.at_run [11, 24] rfl ?_, ?_⟩
    · intro ρ W hR ⟨q11, q24, _⟩
      replace q11 : ρ 11 = .slice At s.links.length ct := q11
      replace q24 : ρ 24 = .agg #[str n, str c.url, .int .u64 c.till, .bool made] := q24
      refine ⟨rfl, ?_⟩
      refine Rg.enter_fn (args := #[.slice At s.links.length ct, .agg #[str n, str c.url, .int .u64 c.till, .bool made]]) rfl (by simp only [List.map_toArray, List.map_cons, List.map_nil, Rg.ev, q11, q24]) (by kernel_rfl) ?_
      refine (twith_b X W (fun k hk => Nat.lt_of_lt_of_le (hX1 k hk) hR.size) _ s.links ⟨n, c.url, c.till, made⟩ hl (hvt.ext hR) hr hf hxw).mono ?_
      rintro e_ w2 ⟨m, A6, c6, hm, rfl, hown, hxx⟩
      have hm' := hm.out
      rw [hm'] at hown ⊢
      exact ⟨_, rfl, hown.trans hR, hR.trans' hxx, hxx⟩
    refine ⟨Rg.at_run [7] rfl ?_, ?_⟩
    · intro ρ W hR ⟨q7, _⟩
      replace q7 : ρ 7 = .pointer (some ⟨g, 0, none⟩) := q7
      refine ⟨rfl, ?_⟩
      exact Rg.run_ok (v := .pointer (some ⟨g, 0, none⟩)) (by simp [execOp, Rg.ev, go_sem, q7]) ⟨rfl, hR, Ext.rfl' _⟩
    refine ⟨Rg.at_run [26] rfl ?_, ?_⟩
    · intro ρ W hR ⟨q26, _⟩
      replace q26 : ρ 26 = .pointer (some ⟨g, 0, none⟩) := q26
      refine ⟨rfl, ?_⟩
      exact Rg.run_ok (v := .pointer (some ⟨g, 1, none⟩)) (by simp [execOp, Rg.ev, go_sem, q26]) ⟨rfl, hR, Ext.rfl' _⟩
    refine ⟨Rg.at_run [27] rfl ?_, ?_⟩
    · intro ρ W hR ⟨q27, _⟩
      replace q27 : ρ 27 = .pointer (some ⟨g, 1, none⟩) := q27
      refine ⟨rfl, ?_⟩
      exact Rg.run_ok (v := .pointer (some ⟨g, 3, none⟩)) (by simp [execOp, Rg.ev, go_sem, q27]) ⟨rfl, hR, Ext.rfl' _⟩
    trivial
  case en =>
    intro tm W hR hsz hk
    rw [Rg.fin_eq (ds := [7, 8, 9, 10, 11, 12, 13, 14, 15, 16, 17, 18, 19, 20, 21, 22, 23, 24, 25, 26, 27, 28]) rfl rfl rfl hsz hk]
    have k7 : tm.getD 7 undef = .pointer (some ⟨g, 0, none⟩) := hk 7
    have k8 : tm.getD 8 undef = .pointer (some ⟨g, 0, none⟩) := hk 8
    have k9 : tm.getD 9 undef = .pointer (some ⟨g, 0, none⟩) := hk 9
    have k10 : tm.getD 10 undef = .pointer (some ⟨g, 0, none⟩) := hk 10
    have k11 : tm.getD 11 undef = .slice At s.links.length ct := hk 11
    have k12 : tm.getD 12 undef = str n := hk 12
    have k13 : tm.getD 13 undef = .pointer (some ⟨g, 0, none⟩) := hk 13
    have k14 : tm.getD 14 undef = .pointer (some ⟨g, 0, none⟩) := hk 14
    have k15 : tm.getD 15 undef = .pointer (some ⟨g, 5, none⟩) := hk 15
    have k16 : tm.getD 16 undef = .pointer (some ⟨g, 9, none⟩) := hk 16
    have k17 : tm.getD 17 undef = str c.url := hk 17
    have k18 : tm.getD 18 undef = .pointer (some ⟨g, 0, none⟩) := hk 18
    have k19 : tm.getD 19 undef = .pointer (some ⟨g, 0, none⟩) := hk 19
    have k20 : tm.getD 20 undef = .pointer (some ⟨g, 5, none⟩) := hk 20
    have k21 : tm.getD 21 undef = .pointer (some ⟨g, 10, none⟩) := hk 21
    have k22 : tm.getD 22 undef = .int .u64 c.till := hk 22
    have k23 : tm.getD 23 undef = .bool made := hk 23
    have k24 : tm.getD 24 undef = .agg #[str n, str c.url, .int .u64 c.till, .bool made] := hk 24
    have k25 : (fun v W => Own 48 lnE w1 W X v (lkput s.links ⟨n, c.url, c.till, made⟩)) (tm.getD 25 undef) W := hk 25
    have k26 : tm.getD 26 undef = .pointer (some ⟨g, 0, none⟩) := hk 26
    have k27 : tm.getD 27 undef = .pointer (some ⟨g, 1, none⟩) := hk 27
    have k28 : tm.getD 28 undef = .pointer (some ⟨g, 3, none⟩) := hk 28
    clear hk hsz
    simp only [Rg.putAll, List.setIfInBounds_toArray, List.set_cons_zero, List.set_cons_succ, k7, k8, k9, k10, k11, k12, k13, k14, k15, k16, k17, k18, k19, k20, k21, k22, k23, k24, k26, k27, k28]
    clear k7
    clear k8
    clear k9
    clear k10
    clear k11
    clear k12
    clear k13
    clear k14
    clear k15
    clear k16
    clear k17
    clear k18
    clear k19
    clear k20
    clear k21
    clear k22
    clear k23
    clear k24
    generalize tm.getD 25 undef = u25 at *
    clear k26
    clear k27
    clear k28
    obtain ⟨A5, c5, rfl, -, -⟩ := k25.form
    have h3 : W.cell? ⟨g, 3, none⟩ = some vl := ((h.ext hR).cell 3).trans rfl
    have f3 := (h.ext hR).frozen 3
    go_upto_region 2 with fail
    have hm := h.ext hR
    have hcg : Chg [g] W (W.setCell ⟨g, 3, none⟩ (.slice A5 (lkput s.links ⟨n, c.url, c.till, made⟩).length c5)) := (Chg.refl [g] W).set (by simp) _
    have hown := k25.lnT hm (by decide) hcg
    have hB := hm.set_ 3 (.slice A5 (lkput s.links ⟨n, c.url, c.till, made⟩).length c5)
    replace hB : Blk (W.setCell ⟨g, 3, none⟩ (.slice A5 (lkput s.links ⟨n, c.url, c.till, made⟩).length c5)) g 71 (mkcells ⟨s.now, s.count, lkput s.links ⟨n, c.url, c.till, made⟩, s.sess⟩ c (.slice At s.links.length ct) (.slice A5 (lkput s.links ⟨n, c.url, c.till, made⟩).length c5) vs).toArray := hB
    have hgg : ga ≠ g := by omega
    have hA3 := (hA.ext hR).chg hcg (by simpa using hgg)
    have hxx := hxa.trans' hR
    generalize W.setCell ⟨g, 3, none⟩ (.slice A5 (lkput s.links ⟨n, c.url, c.till, made⟩).length c5) = W3 at *
    clear h3 f3 hm k25
    go_wp2_with fail
    refine (lkans_b 0 n _).mono ?_
    rintro e W4 ⟨rfl, hx4⟩
    rw [if_pos rfl]
    replace hA3 := hA3.ext hx4
    have y0 := (hA3.cell 0).trans rfl
    have y1 := (hA3.cell 1).trans rfl
    have z0 := hA3.frozen 0
    have z1 := hA3.frozen 1
    go_wp2
    try simp only [Exit.inBlock, Exit.then]
    refine bodyPost_ret (results_cell_row rfl _ _ ga 33 (acells ⟨0, n⟩).toArray (0, 0) _ rfl (Blk.two_ hA3 (.int .i64 0) (str n)) Try.underlying33 rfl (by kernel_rfl)) rfl ?_
    have hcA : Chg [ga] W4 _ := (Chg.refl [ga] W4).two_ (g := ga) (by simp) (.int .i64 0) (str n)
    exact ⟨_, ⟨0, n⟩, hide rfl, rfl, _, (hB.ext hx4).chg hcA (by simpa using fun h => hgg h.symm), ((hown.ext hx4).lnT hA3 (by decide) hcA).sl, ((hxx.chg [g]).trans (hcg.trans (hx4.chg [g]))).then_new hcA (by simp; omega)⟩
end Go.Proofs.Ytggfemdgccgbpaa

