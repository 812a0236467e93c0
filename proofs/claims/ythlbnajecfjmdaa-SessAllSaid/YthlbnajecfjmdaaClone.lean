/- slices.Clone of structs. -/
import Derived.Test.YthlbnajecfjmdaaSt0
namespace Go.Proofs.Ythlbnajecfjmdaa
set_option linter.unusedVariables false
set_option linter.unusedSimpArgs false
set_option linter.unnecessarySimpa false
set_option maxRecDepth 100000
open Go.RowKit
theorem sl_none {α : Type} {E : Enc α} {w : World} {X : Avoid} {c : Nat} {l : List α} (h : Enc.Sl E w X (.slice none l.length c) l) : l = [] := by
  obtain ⟨A, c', css, he, _, _, h3, _⟩ := h
  simp only [Value.slice.injEq] at he
  obtain ⟨rfl, _, _⟩ := he
  rcases Nat.eq_zero_or_pos l.length with h0 | h0
  · exact List.eq_nil_of_length_eq_zero h0
  · obtain ⟨_, h, _⟩ := h3.2 h0; cases h
theorem own_lit (w : World) : ∀ i, (Value.slice (some ⟨w.heap.size, 0, none⟩) 0 0).ownBlock = some i → w.heap.size ≤ i := fun i hi => Nat.le_of_eq (Option.some.inj hi)
/-- what a function returns that makes a new slice of structs -/
def RetOwnX {α : Type} (T : TypeId) (E : Enc α) (w w' : World) (X : Avoid) (e : Ending) (l : List α) : Prop := ∃ (m : List α) (A : Option Addr) (c : Nat), Hid (m = l) ∧ e = .returned (.slice A m.length c) ∧ Own T E w w' X (.slice A m.length c) m ∧ Ext w w'
abbrev RetOwn {α : Type} (T : TypeId) (E : Enc α) (w w' : World) (e : Ending) (l : List α) : Prop := RetOwnX T E w w' noneAt e l
theorem RetOwnX.mk {α : Type} {T : TypeId} {E : Enc α} {w w' : World} {X : Avoid} {y : Value} {l : List α} (h : Own T E w w' X y l) (hx : Ext w w') : RetOwnX T E w w' X (.returned y) l := by
  obtain ⟨A, c, rfl, _⟩ := h.form
  exact ⟨l, A, c, hide rfl, rfl, h, hx⟩
theorem Sl.apartX {α : Type} {E : Enc α} {w0 w : World} {X : Avoid} {v x : Value} {k : List α} (hx : Enc.Sl E w0 X x k) (hx0 : Ext w0 w) (h : ∀ i, v.ownBlock = some i → w0.heap.size ≤ i) : Enc.Sl E w (fun k => X k ∨ v.ownBlock = some k) x k :=
  (hx.mono fun i hi hm => by
    rcases hm with hm | hm
    · exact hm
    · have := h i hm; omega).ext hx0
theorem RetOwn.mk {α : Type} {T : TypeId} {E : Enc α} {w w' : World} {y : Value} {l : List α} (h : Own T E w w' noneAt y l) (hx : Ext w w') : RetOwn T E w w' (.returned y) l := by
  obtain ⟨A, c, rfl, _⟩ := h.form
  exact ⟨l, A, c, hide rfl, rfl, h, hx⟩
set_option maxHeartbeats 800000 in
theorem cloneX_ln (X : Avoid) (w : World) (hX : ∀ k, X k → k < w.heap.size) (x : Value) (l : List Ln) (hl : l.length ≤ 100000) (hx : Enc.Sl lnE w X x l) :
    Calls Try.prog 36 #[x] w fun e w' => RetOwnX 57 lnE w w' X e l := by
  obtain ⟨A, c, rfl, k1, k2⟩ := hx.form
  have q := fun (w : World) (a : Option Addr) (n c n' c' : Nat) => Lib.run_eql_slice_nil (P := Try.prog) w _ _ a n c n' c' Try.underlying23
  generalize hn : l.length = n at *
  have HN := hide hn
  clear hn
  rcases A with _ | ad
  · go_enter Try.func36, Try.ntmps36
    go_wp2
    go_ret
    have h0 : l = [] := sl_none (by rw [HN.out]; exact hx)
    subst h0
    exact RetOwnX.mk (Own.nil _ _ _ _ _) (Ext.rfl' _)
  · go_enter Try.func36, Try.ntmps36
    go_wp2_with (at_builtin; refine wpList_own elt_ln 23 Try.underlying23 rfl _ _ rfl (Own.lit0 (w0 := w) (X := X) _ _ (Ext.rfl' w) _ rfl (fun h => Nat.lt_irrefl _ (hX _ h))) rfl ((Ext.rfl' w).alloc' _) (m := l) rfl (Sl.apartX (w0 := w) hx ((Ext.rfl' w).alloc' _) (own_lit w)) (fun h => by have := hX _ h; simp at this; omega) (by have := HN.out; simp only [List.length_nil]; omega) (by have := HN.out; simp only [List.length_nil]; omega) ?_; intro k A2 c2 w2 hk hown hxx _)
    go_ret
    have hk' : k = l := hk.out
    subst hk'
    exact RetOwnX.mk hown hxx
theorem clone_ln (x : Value) (l : List Ln) (w : World) (hl : l.length ≤ 100000) (hx : Enc.Sl lnE w noneAt x l) :
    Calls Try.prog 36 #[x] w fun e w' => RetOwn 57 lnE w w' e l := cloneX_ln noneAt w (fun _ h => h.elim) x l hl hx
set_option maxHeartbeats 800000 in
theorem cloneX_lnt (X : Avoid) (w : World) (hX : ∀ k, X k → k < w.heap.size) (x : Value) (l : List Ln) (hl : l.length ≤ 100000) (hx : Enc.Sl lnE w X x l) :
    Calls Try.prog 110 #[x] w fun e w' => RetOwnX 57 lnE w w' X e l := by
  obtain ⟨A, c, rfl, k1, k2⟩ := hx.form
  have q := fun (w : World) (a : Option Addr) (n c n' c' : Nat) => Lib.run_eql_slice_nil (P := Try.prog) w _ _ a n c n' c' Try.underlying124
  generalize hn : l.length = n at *
  have HN := hide hn
  clear hn
  rcases A with _ | ad
  · go_enter Try.func110, Try.ntmps110
    go_wp2
    go_ret
    have h0 : l = [] := sl_none (by rw [HN.out]; exact hx)
    subst h0
    exact RetOwnX.mk (Own.nil _ _ _ _ _) (Ext.rfl' _)
  · go_enter Try.func110, Try.ntmps110
    go_wp2_with (at_builtin; refine wpList_own elt_ln 124 Try.underlying124 rfl _ _ rfl (Own.lit0 (w0 := w) (X := X) _ _ (Ext.rfl' w) _ rfl (fun h => Nat.lt_irrefl _ (hX _ h))) rfl ((Ext.rfl' w).alloc' _) (m := l) rfl (Sl.apartX (w0 := w) hx ((Ext.rfl' w).alloc' _) (own_lit w)) (fun h => by have := hX _ h; simp at this; omega) (by have := HN.out; simp only [List.length_nil]; omega) (by have := HN.out; simp only [List.length_nil]; omega) ?_; intro k A2 c2 w2 hk hown hxx _)
    go_ret
    have hk' : k = l := hk.out
    subst hk'
    exact RetOwnX.mk hown hxx
theorem clone_lnt (x : Value) (l : List Ln) (w : World) (hl : l.length ≤ 100000) (hx : Enc.Sl lnE w noneAt x l) :
    Calls Try.prog 110 #[x] w fun e w' => RetOwn 57 lnE w w' e l := cloneX_lnt noneAt w (fun _ h => h.elim) x l hl hx
set_option maxHeartbeats 800000 in
theorem cloneX_se (X : Avoid) (w : World) (hX : ∀ k, X k → k < w.heap.size) (x : Value) (l : List Se) (hl : l.length ≤ 100000) (hx : Enc.Sl seE w X x l) :
    Calls Try.prog 80 #[x] w fun e w' => RetOwnX 47 seE w w' X e l := by
  obtain ⟨A, c, rfl, k1, k2⟩ := hx.form
  have q := fun (w : World) (a : Option Addr) (n c n' c' : Nat) => Lib.run_eql_slice_nil (P := Try.prog) w _ _ a n c n' c' Try.underlying24
  generalize hn : l.length = n at *
  have HN := hide hn
  clear hn
  rcases A with _ | ad
  · go_enter Try.func80, Try.ntmps80
    go_wp2
    go_ret
    have h0 : l = [] := sl_none (by rw [HN.out]; exact hx)
    subst h0
    exact RetOwnX.mk (Own.nil _ _ _ _ _) (Ext.rfl' _)
  · go_enter Try.func80, Try.ntmps80
    go_wp2_with (at_builtin; refine wpList_own elt_se 24 Try.underlying24 rfl _ _ rfl (Own.lit0 (w0 := w) (X := X) _ _ (Ext.rfl' w) _ rfl (fun h => Nat.lt_irrefl _ (hX _ h))) rfl ((Ext.rfl' w).alloc' _) (m := l) rfl (Sl.apartX (w0 := w) hx ((Ext.rfl' w).alloc' _) (own_lit w)) (fun h => by have := hX _ h; simp at this; omega) (by have := HN.out; simp only [List.length_nil]; omega) (by have := HN.out; simp only [List.length_nil]; omega) ?_; intro k A2 c2 w2 hk hown hxx _)
    go_ret
    have hk' : k = l := hk.out
    subst hk'
    exact RetOwnX.mk hown hxx
theorem clone_se (x : Value) (l : List Se) (w : World) (hl : l.length ≤ 100000) (hx : Enc.Sl seE w noneAt x l) :
    Calls Try.prog 80 #[x] w fun e w' => RetOwn 47 seE w w' e l := cloneX_se noneAt w (fun _ h => h.elim) x l hl hx
set_option maxHeartbeats 800000 in
theorem cloneX_set (X : Avoid) (w : World) (hX : ∀ k, X k → k < w.heap.size) (x : Value) (l : List Se) (hl : l.length ≤ 100000) (hx : Enc.Sl seE w X x l) :
    Calls Try.prog 57 #[x] w fun e w' => RetOwnX 47 seE w w' X e l := by
  obtain ⟨A, c, rfl, k1, k2⟩ := hx.form
  have q := fun (w : World) (a : Option Addr) (n c n' c' : Nat) => Lib.run_eql_slice_nil (P := Try.prog) w _ _ a n c n' c' Try.underlying63
  generalize hn : l.length = n at *
  have HN := hide hn
  clear hn
  rcases A with _ | ad
  · go_enter Try.func57, Try.ntmps57
    go_wp2
    go_ret
    have h0 : l = [] := sl_none (by rw [HN.out]; exact hx)
    subst h0
    exact RetOwnX.mk (Own.nil _ _ _ _ _) (Ext.rfl' _)
  · go_enter Try.func57, Try.ntmps57
    go_wp2_with (at_builtin; refine wpList_own elt_se 63 Try.underlying63 rfl _ _ rfl (Own.lit0 (w0 := w) (X := X) _ _ (Ext.rfl' w) _ rfl (fun h => Nat.lt_irrefl _ (hX _ h))) rfl ((Ext.rfl' w).alloc' _) (m := l) rfl (Sl.apartX (w0 := w) hx ((Ext.rfl' w).alloc' _) (own_lit w)) (fun h => by have := hX _ h; simp at this; omega) (by have := HN.out; simp only [List.length_nil]; omega) (by have := HN.out; simp only [List.length_nil]; omega) ?_; intro k A2 c2 w2 hk hown hxx _)
    go_ret
    have hk' : k = l := hk.out
    subst hk'
    exact RetOwnX.mk hown hxx
theorem clone_set (x : Value) (l : List Se) (w : World) (hl : l.length ≤ 100000) (hx : Enc.Sl seE w noneAt x l) :
    Calls Try.prog 57 #[x] w fun e w' => RetOwn 47 seE w w' e l := cloneX_set noneAt w (fun _ h => h.elim) x l hl hx
set_option maxHeartbeats 800000 in
theorem cloneX_dn (X : Avoid) (w : World) (hX : ∀ k, X k → k < w.heap.size) (x : Value) (l : List Dn) (hl : l.length ≤ 100000) (hx : Enc.Sl dnE w X x l) :
    Calls Try.prog 31 #[x] w fun e w' => RetOwnX 59 dnE w w' X e l := by
  obtain ⟨A, c, rfl, k1, k2⟩ := hx.form
  have q := fun (w : World) (a : Option Addr) (n c n' c' : Nat) => Lib.run_eql_slice_nil (P := Try.prog) w _ _ a n c n' c' Try.underlying45
  generalize hn : l.length = n at *
  have HN := hide hn
  clear hn
  rcases A with _ | ad
  · go_enter Try.func31, Try.ntmps31
    go_wp2
    go_ret
    have h0 : l = [] := sl_none (by rw [HN.out]; exact hx)
    subst h0
    exact RetOwnX.mk (Own.nil _ _ _ _ _) (Ext.rfl' _)
  · go_enter Try.func31, Try.ntmps31
    go_wp2_with (at_builtin; refine wpList_own elt_dn 45 Try.underlying45 rfl _ _ rfl (Own.lit0 (w0 := w) (X := X) _ _ (Ext.rfl' w) _ rfl (fun h => Nat.lt_irrefl _ (hX _ h))) rfl ((Ext.rfl' w).alloc' _) (m := l) rfl (Sl.apartX (w0 := w) hx ((Ext.rfl' w).alloc' _) (own_lit w)) (fun h => by have := hX _ h; simp at this; omega) (by have := HN.out; simp only [List.length_nil]; omega) (by have := HN.out; simp only [List.length_nil]; omega) ?_; intro k A2 c2 w2 hk hown hxx _)
    go_ret
    have hk' : k = l := hk.out
    subst hk'
    exact RetOwnX.mk hown hxx
theorem clone_dn (x : Value) (l : List Dn) (w : World) (hl : l.length ≤ 100000) (hx : Enc.Sl dnE w noneAt x l) :
    Calls Try.prog 31 #[x] w fun e w' => RetOwn 59 dnE w w' e l := cloneX_dn noneAt w (fun _ h => h.elim) x l hl hx
end Go.Proofs.Ythlbnajecfjmdaa
