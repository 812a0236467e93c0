import Derived.Test.YtggfemdgccgbpaaPk10
import Derived.Test.YtggfemdgccgbpaaPk4
/- slices.Clone of structs. -/
namespace Go.Proofs.Ytggfemdgccgbpaa
set_option linter.unusedVariables false
set_option linter.unusedSimpArgs false
set_option linter.unnecessarySimpa false
set_option maxRecDepth 100000
open Go.RowKit
theorem sl_none {α : Type} {E : Enc α} {w : World} {X : Avoid} {c : Nat} {l : List α} (h : Enc.Sl E w X (.slice none l.length c) l) : l = [] := by
  obtain ⟨A, c', css, he, _, _, h3, _⟩ := h
  simp only [Value.slice.injEq] at he
  obtain ⟨rfl, _, _⟩ := he
  rcases Nat.eq_zero_or_pos l.length with h0 | h0
  · exact List.eq_nil_of_length_eq_zero h0
  · obtain ⟨_, h, _⟩ := h3.2 h0; cases h
theorem own_lit (w : World) : ∀ i, (Value.slice (some ⟨w.heap.size, 0, none⟩) 0 0).ownBlock = some i → w.heap.size ≤ i := fun i hi => Nat.le_of_eq (Option.some.inj hi)
/-- what a function returns that makes a new slice of structs -/
def RetOwnX {α : Type} (T : TypeId) (E : Enc α) (w w' : World) (X : Avoid) (e : Ending) (l : List α) : Prop := ∃ (m : List α) (A : Option Addr) (c : Nat), Hid (m = l) ∧ e = .returned (.slice A m.length c) ∧ Own T E w w' X (.slice A m.length c) m ∧ Ext w w'
abbrev RetOwn {α : Type} (T : TypeId) (E : Enc α) (w w' : World) (e : Ending) (l : List α) : Prop := RetOwnX T E w w' noneAt e l
theorem RetOwnX.mk {α : Type} {T : TypeId} {E : Enc α} {w w' : World} {X : Avoid} {y : Value} {l : List α} (h : Own T E w w' X y l) (hx : Ext w w') : RetOwnX T E w w' X (.returned y) l := by
  obtain ⟨A, c, rfl, _⟩ := h.form
  exact ⟨l, A, c, hide rfl, rfl, h, hx⟩
theorem Sl.apartX {α : Type} {E : Enc α} {w0 w : World} {X : Avoid} {v x : Value} {k : List α} (hx : Enc.Sl E w0 X x k) (hx0 : Ext w0 w) (h : ∀ i, v.ownBlock = some i → w0.heap.size ≤ i) : Enc.Sl E w (fun k => X k ∨ v.ownBlock = some k) x k :=
  (hx.mono fun i hi hm => by
    rcases hm with hm | hm
    · exact hm
    · have := h i hm; omega).ext hx0
theorem RetOwn.mk {α : Type} {T : TypeId} {E : Enc α} {w w' : World} {y : Value} {l : List α} (h : Own T E w w' noneAt y l) (hx : Ext w w') : RetOwn T E w w' (.returned y) l := by
  obtain ⟨A, c, rfl, _⟩ := h.form
  exact ⟨l, A, c, hide rfl, rfl, h, hx⟩
set_option maxHeartbeats 800000 in
theorem cloneX_ln (X : Avoid) (w : World) (hX : ∀ k, X k → k < w.heap.size) (x : Value) (l : List Ln) (hl : l.length ≤ 100000) (hx : Enc.Sl lnE w X x l) :
    Calls Try.prog 24 #[x] w fun e w' => RetOwnX 48 lnE w w' X e l := by
  obtain ⟨A, c, rfl, k1, k2⟩ := hx.form
  have q := fun (w : World) (a : Option Addr) (n c n' c' : Nat) => Lib.run_eql_slice_nil (P := Try.prog) w _ _ a n c n' c' Try.underlying25
  generalize hn : l.length = n at *
  have HN := hide hn
  clear hn
  rcases A with _ | ad
  · go_enter Try.func24, Try.ntmps24
    go_wp2
    go_ret
    have h0 : l = [] := sl_none (by rw [HN.out]; exact hx)
    subst h0
    exact RetOwnX.mk (Own.nil _ _ _ _ _) (Ext.rfl' _)
  · go_enter Try.func24, Try.ntmps24
    go_wp2_with (at_builtin; refine wpList_own elt_ln 25 Try.underlying25 rfl _ _ rfl (Own.lit0 (w0 := w) (X := X) _ _ (Ext.rfl' w) _ rfl (fun h => Nat.lt_irrefl _ (hX _ h))) rfl ((Ext.rfl' w).alloc' _) (m := l) rfl (Sl.apartX (w0 := w) hx ((Ext.rfl' w).alloc' _) (own_lit w)) (fun h => by have := hX _ h; simp at this; omega) (by have := HN.out; simp only [List.length_nil]; omega) (by have := HN.out; simp only [List.length_nil]; omega) ?_; intro k A2 c2 w2 hk hown hxx _)
    go_ret
    have hk' : k = l := hk.out
    subst hk'
    exact RetOwnX.mk hown hxx
theorem clone_ln (x : Value) (l : List Ln) (w : World) (hl : l.length ≤ 100000) (hx : Enc.Sl lnE w noneAt x l) :
    Calls Try.prog 24 #[x] w fun e w' => RetOwn 48 lnE w w' e l := cloneX_ln noneAt w (fun _ h => h.elim) x l hl hx
set_option maxHeartbeats 800000 in
theorem cloneX_lnt (X : Avoid) (w : World) (hX : ∀ k, X k → k < w.heap.size) (x : Value) (l : List Ln) (hl : l.length ≤ 100000) (hx : Enc.Sl lnE w X x l) :
    Calls Try.prog 61 #[x] w fun e w' => RetOwnX 48 lnE w w' X e l := by
  obtain ⟨A, c, rfl, k1, k2⟩ := hx.form
  have q := fun (w : World) (a : Option Addr) (n c n' c' : Nat) => Lib.run_eql_slice_nil (P := Try.prog) w _ _ a n c n' c' Try.underlying69
  generalize hn : l.length = n at *
  have HN := hide hn
  clear hn
  rcases A with _ | ad
  · go_enter Try.func61, Try.ntmps61
    go_wp2
    go_ret
    have h0 : l = [] := sl_none (by rw [HN.out]; exact hx)
    subst h0
    exact RetOwnX.mk (Own.nil _ _ _ _ _) (Ext.rfl' _)
  · go_enter Try.func61, Try.ntmps61
    go_wp2_with (at_builtin; refine wpList_own elt_ln 69 Try.underlying69 rfl _ _ rfl (Own.lit0 (w0 := w) (X := X) _ _ (Ext.rfl' w) _ rfl (fun h => Nat.lt_irrefl _ (hX _ h))) rfl ((Ext.rfl' w).alloc' _) (m := l) rfl (Sl.apartX (w0 := w) hx ((Ext.rfl' w).alloc' _) (own_lit w)) (fun h => by have := hX _ h; simp at this; omega) (by have := HN.out; simp only [List.length_nil]; omega) (by have := HN.out; simp only [List.length_nil]; omega) ?_; intro k A2 c2 w2 hk hown hxx _)
    go_ret
    have hk' : k = l := hk.out
    subst hk'
    exact RetOwnX.mk hown hxx
theorem clone_lnt (x : Value) (l : List Ln) (w : World) (hl : l.length ≤ 100000) (hx : Enc.Sl lnE w noneAt x l) :
    Calls Try.prog 61 #[x] w fun e w' => RetOwn 48 lnE w w' e l := cloneX_lnt noneAt w (fun _ h => h.elim) x l hl hx
set_option maxHeartbeats 800000 in
theorem cloneX_se (X : Avoid) (w : World) (hX : ∀ k, X k → k < w.heap.size) (x : Value) (l : List Se) (hl : l.length ≤ 100000) (hx : Enc.Sl seE w X x l) :
    Calls Try.prog 25 #[x] w fun e w' => RetOwnX 64 seE w w' X e l := by
  obtain ⟨A, c, rfl, k1, k2⟩ := hx.form
  have q := fun (w : World) (a : Option Addr) (n c n' c' : Nat) => Lib.run_eql_slice_nil (P := Try.prog) w _ _ a n c n' c' Try.underlying26
  generalize hn : l.length = n at *
  have HN := hide hn
  clear hn
  rcases A with _ | ad
  · go_enter Try.func25, Try.ntmps25
    go_wp2
    go_ret
    have h0 : l = [] := sl_none (by rw [HN.out]; exact hx)
    subst h0
    exact RetOwnX.mk (Own.nil _ _ _ _ _) (Ext.rfl' _)
  · go_enter Try.func25, Try.ntmps25
    go_wp2_with (at_builtin; refine wpList_own elt_se 26 Try.underlying26 rfl _ _ rfl (Own.lit0 (w0 := w) (X := X) _ _ (Ext.rfl' w) _ rfl (fun h => Nat.lt_irrefl _ (hX _ h))) rfl ((Ext.rfl' w).alloc' _) (m := l) rfl (Sl.apartX (w0 := w) hx ((Ext.rfl' w).alloc' _) (own_lit w)) (fun h => by have := hX _ h; simp at this; omega) (by have := HN.out; simp only [List.length_nil]; omega) (by have := HN.out; simp only [List.length_nil]; omega) ?_; intro k A2 c2 w2 hk hown hxx _)
    go_ret
    have hk' : k = l := hk.out
    subst hk'
    exact RetOwnX.mk hown hxx
theorem clone_se (x : Value) (l : List Se) (w : World) (hl : l.length ≤ 100000) (hx : Enc.Sl seE w noneAt x l) :
    Calls Try.prog 25 #[x] w fun e w' => RetOwn 64 seE w w' e l := cloneX_se noneAt w (fun _ h => h.elim) x l hl hx























set_option maxHeartbeats 800000 in
theorem cloneX_dn (X : Avoid) (w : World) (hX : ∀ k, X k → k < w.heap.size) (x : Value) (l : List Dn) (hl : l.length ≤ 100000) (hx : Enc.Sl dnE w X x l) :
    Calls Try.prog 26 #[x] w fun e w' => RetOwnX 67 dnE w w' X e l := by
  obtain ⟨A, c, rfl, k1, k2⟩ := hx.form
  have q := fun (w : World) (a : Option Addr) (n c n' c' : Nat) => Lib.run_eql_slice_nil (P := Try.prog) w _ _ a n c n' c' Try.underlying62
  generalize hn : l.length = n at *
  have HN := hide hn
  clear hn
  rcases A with _ | ad
  · go_enter Try.func26, Try.ntmps26
    go_wp2
    go_ret
    have h0 : l = [] := sl_none (by rw [HN.out]; exact hx)
    subst h0
    exact RetOwnX.mk (Own.nil _ _ _ _ _) (Ext.rfl' _)
  · go_enter Try.func26, Try.ntmps26
    go_wp2_with (at_builtin; refine wpList_own elt_dn 62 Try.underlying62 rfl _ _ rfl (Own.lit0 (w0 := w) (X := X) _ _ (Ext.rfl' w) _ rfl (fun h => Nat.lt_irrefl _ (hX _ h))) rfl ((Ext.rfl' w).alloc' _) (m := l) rfl (Sl.apartX (w0 := w) hx ((Ext.rfl' w).alloc' _) (own_lit w)) (fun h => by have := hX _ h; simp at this; omega) (by have := HN.out; simp only [List.length_nil]; omega) (by have := HN.out; simp only [List.length_nil]; omega) ?_; intro k A2 c2 w2 hk hown hxx _)
    go_ret
    have hk' : k = l := hk.out
    subst hk'
    exact RetOwnX.mk hown hxx
theorem clone_dn (x : Value) (l : List Dn) (w : World) (hl : l.length ≤ 100000) (hx : Enc.Sl dnE w noneAt x l) :
    Calls Try.prog 26 #[x] w fun e w' => RetOwn 67 dnE w w' e l := cloneX_dn noneAt w (fun _ h => h.elim) x l hl hx
end Go.Proofs.Ytggfemdgccgbpaa

/- Elements of the state's slices, as a walk meets them. -/
namespace Go.Proofs.Ytggfemdgccgbpaa
set_option linter.unusedVariables false
set_option linter.unusedSimpArgs false
set_option linter.unnecessarySimpa false
set_option maxRecDepth 100000
open Go.RowKit
section
variable {w : World} {X : Avoid} {A : Option Addr} {n c k : Nat}
theorem se_at {l : List Se} (h : Enc.Sl seE w X (.slice A n c) l) (hk : k < l.length) : ∃ ad s v, A = some ad ∧ Hid (l[k]? = some s) ∧ ad.block < w.heap.size ∧ w.cell? (ad.add (k * 3)) = some (.int .i64 s.client) ∧
    w.cell? ⟨(ad.add (k * 3)).block, (ad.add (k * 3)).off + 1, none⟩ = some (.int .u64 s.high) ∧ w.cell? ⟨(ad.add (k * 3)).block, (ad.add (k * 3)).off + 2, none⟩ = some v ∧ I64 s.client ∧ U64 s.high ∧ Enc.Sl dnE w X v s.done := by
  obtain ⟨ad, cs, rfl, hrep, hb, hcell⟩ := h.at_ hk
  obtain ⟨v, rfl, r1, r2, r3⟩ := se_rep.1 hrep
  exact ⟨ad, _, v, rfl, hide (List.getElem?_eq_getElem hk), hb, Enc.cell0 hcell rfl, Enc.cellS hcell 0 rfl, Enc.cellS hcell 1 rfl, r1, r2, r3⟩
theorem dn_at {l : List Dn} (h : Enc.Sl dnE w X (.slice A n c) l) (hk : k < l.length) : ∃ ad s, A = some ad ∧ Hid (l[k]? = some s) ∧ ad.block < w.heap.size ∧ w.cell? (ad.add (k * 3)) = some (.int .u64 s.seq) ∧
    w.cell? ⟨(ad.add (k * 3)).block, (ad.add (k * 3)).off + 1, none⟩ = some (.int .i64 s.an.err) ∧ w.cell? ⟨(ad.add (k * 3)).block, (ad.add (k * 3)).off + 2, none⟩ = some (str s.an.text) ∧ U64 s.seq ∧ I64 s.an.err ∧ s.an.text.length ≤ maxLen := by
  obtain ⟨ad, cs, rfl, hrep, hb, hcell⟩ := h.at_ hk
  obtain ⟨rfl, r1, r2, r3⟩ := dn_rep.1 hrep
  exact ⟨ad, _, rfl, hide (List.getElem?_eq_getElem hk), hb, Enc.cell0 hcell rfl, Enc.cellS hcell 0 rfl, Enc.cellS hcell 1 rfl, r1, r2, r3⟩
theorem ln_at {l : List Ln} (h : Enc.Sl lnE w X (.slice A n c) l) (hk : k < l.length) : ∃ ad s, A = some ad ∧ Hid (l[k]? = some s) ∧ ad.block < w.heap.size ∧ w.cell? (ad.add (k * 4)) = some (str s.name) ∧
    w.cell? ⟨(ad.add (k * 4)).block, (ad.add (k * 4)).off + 1, none⟩ = some (str s.url) ∧ w.cell? ⟨(ad.add (k * 4)).block, (ad.add (k * 4)).off + 2, none⟩ = some (.int .u64 s.till) ∧
    w.cell? ⟨(ad.add (k * 4)).block, (ad.add (k * 4)).off + 3, none⟩ = some (.bool s.made) ∧ s.name.length ≤ maxLen ∧ s.url.length ≤ maxLen ∧ U64 s.till := by
  obtain ⟨ad, cs, rfl, hrep, hb, hcell⟩ := h.at_ hk
  obtain ⟨rfl, r1, r2, r3⟩ := ln_rep.1 hrep
  exact ⟨ad, _, rfl, hide (List.getElem?_eq_getElem hk), hb, Enc.cell0 hcell rfl, Enc.cellS hcell 0 rfl, Enc.cellS hcell 1 rfl, Enc.cellS hcell 2 rfl, r1, r2, r3⟩
end
end Go.Proofs.Ytggfemdgccgbpaa

/- Binary searches, and comparisons. -/
namespace Go.Proofs.Ytggfemdgccgbpaa
set_option linter.unusedVariables false
set_option linter.unusedSimpArgs false
set_option linter.unnecessarySimpa false
set_option maxRecDepth 100000
open Go.RowKit
/-- how many stand below -/
def cntP {α : Type} (p : α → Bool) (l : List α) : Nat := (l.takeWhile p).length
theorem cntP_le {α : Type} (p : α → Bool) (l : List α) : cntP p l ≤ l.length := (List.takeWhile_sublist p).length_le
theorem cntP_at {α : Type} (p : α → Bool) : ∀ (l : List α) (i : Nat), i ≤ l.length → (∀ m a, m < i → l[m]? = some a → p a = true) → (∀ m a, i ≤ m → l[m]? = some a → p a = false) → cntP p l = i
  | [], i, hi, _, _ => by simp [cntP] at *; omega
  | a :: l, 0, hi, _, h2 => by simp [cntP, h2 0 a (Nat.le_refl _) rfl]
  | a :: l, i + 1, hi, h1, h2 => by
    have ih := cntP_at p l i (by simpa using hi) (fun m b hm hb => h1 (m + 1) b (by omega) (by simpa using hb)) (fun m b hm hb => h2 (m + 1) b (by omega) (by simpa using hb))
    unfold cntP at *
    rw [List.takeWhile_cons, if_pos (h1 0 a (by omega) rfl), List.length_cons, ih]
/-- once not below, never below -/
def Mono {α : Type} (p : α → Bool) (l : List α) : Prop := ∀ (i j : Nat) a b, i ≤ j → l[i]? = some a → l[j]? = some b → p b = true → p a = true



























/-- what a comparison with a target says -/
def RetCmp (lt eq : Bool) (w w' : World) (e : Ending) : Prop := ∃ r : Int, e = .returned (.int .i64 r) ∧ Hid ((r < 0 ↔ lt = true) ∧ (r = 0 ↔ eq = true)) ∧ Ext w w'






def RetAt (n : Nat) (is : Bool) (w w' : World) (e : Ending) : Prop := e = .returned (.tuple #[.int .i64 n, .bool is]) ∧ Ext w w'

































































































































































end Go.Proofs.Ytggfemdgccgbpaa

/- Rows of rows, as plain lists. -/
namespace Go.Proofs.Ytggfemdgccgbpaa
set_option linter.unusedVariables false
set_option linter.unusedSimpArgs false
set_option linter.unnecessarySimpa false
set_option maxRecDepth 100000
open Go.RowKit
/-! plain lists -/
section
variable {α : Type}
theorem flat_len (css : List (List α)) (k : Nat) (h : ∀ c ∈ css, c.length = k) : css.flatten.length = css.length * k := by
  induction css with
  | nil => simp
  | cons c css ih =>
    rw [List.flatten_cons, List.length_append, h c List.mem_cons_self, ih fun d hd => h d (List.mem_cons_of_mem _ hd), List.length_cons, Nat.succ_mul]; omega
theorem flat_take (css : List (List α)) (k i : Nat) (h : ∀ c ∈ css, c.length = k) : css.flatten.take (i * k) = (css.take i).flatten := by
  have e : css.flatten = (css.take i).flatten ++ (css.drop i).flatten := by rw [← List.flatten_append, List.take_append_drop]
  by_cases hi : i ≤ css.length
  · have hl := flat_len (css.take i) k fun c hc => h c (List.mem_of_mem_take hc)
    rw [List.length_take, Nat.min_eq_left hi] at hl
    rw [e, ← hl, List.take_left']
    rfl
  · rw [List.take_of_length_le (l := css) (by omega), List.take_of_length_le]
    rw [flat_len css k h]
    exact Nat.mul_le_mul_right _ (by omega)
theorem flat_drop (css : List (List α)) (k i : Nat) (h : ∀ c ∈ css, c.length = k) : css.flatten.drop (i * k) = (css.drop i).flatten := by
  have e := List.take_append_drop (i * k) css.flatten
  rw [flat_take css k i h] at e
  have e2 : css.flatten = (css.take i).flatten ++ (css.drop i).flatten := by rw [← List.flatten_append, List.take_append_drop]
  exact List.append_cancel_left (e.trans e2)
end
end Go.Proofs.Ytggfemdgccgbpaa

