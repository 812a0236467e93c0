/- An element of a slice of new memory is written over. -/
import Derived.Test.YthlbnajecfjmdaaDel
namespace Go.Proofs.Ythlbnajecfjmdaa
set_option linter.unusedVariables false
set_option linter.unusedSimpArgs false
set_option linter.unnecessarySimpa false
set_option maxRecDepth 100000
open Go.RowKit
section
variable {α : Type} {T : TypeId} {E : Enc α} {w0 w w' : World} {X : Avoid} {g cap : Nat} {l : List α}
theorem Own.blk (h : Own T E w0 w X (.slice (some ⟨g, 0, none⟩) l.length cap) l) (hn : 0 < l.length) : ∃ cur css, Blk w g T cur ∧ w0.heap.size ≤ g ∧ l.length ≤ cap ∧ cap ≤ maxLen ∧ cur.size = cap * E.size ∧ cur.toList.take (l.length * E.size) = css.flatten ∧ Enc.Each E w (fun k => X k ∨ k = g) css l ∧ ¬ X g := by
  obtain ⟨g', cap', cur, css, he, h1, h2, h3, h4, h5, h6, h7, h8⟩ := h.open_ hn
  simp only [Value.slice.injEq, Option.some.injEq, Addr.mk.injEq, and_true, true_and] at he
  obtain ⟨rfl, rfl⟩ := he
  exact ⟨cur, css, h1, h2, h3, h4, h5, h6, h7, h8⟩
theorem flat_set (css : List (List Value)) (k i : Nat) (cs : List Value) (h : ∀ c ∈ css, c.length = k) (hc : cs.length = k) (hi : i < css.length) : (css.set i cs).flatten = css.flatten.take (i * k) ++ cs ++ css.flatten.drop ((i + 1) * k) := by
  rw [flat_take css k i h, flat_drop css k (i + 1) h, List.set_eq_take_append_cons_drop, if_pos hi, List.flatten_append, List.flatten_cons, List.append_assoc]
theorem Each.set {css : List (List Value)} (h : Enc.Each E w X css l) (i : Nat) {cs : List Value} {a : α} (hr : E.rep w X cs a) : Enc.Each E w X (css.set i cs) (l.set i a) := by
  refine ⟨by simp [h.1], fun k c b h1 h2 => ?_⟩
  rw [List.getElem?_set] at h1 h2
  by_cases hki : i = k
  · rw [if_pos hki] at h1 h2
    split at h1
    · rename_i hk
      rw [if_pos (by rw [← h.1]; exact hk)] at h2
      obtain rfl := Option.some.inj h1
      obtain rfl := Option.some.inj h2
      exact hr
    · cases h1
  · rw [if_neg hki] at h1 h2
    exact h.2 k c b h1 h2
/-- whatever the walk wrote: if the block holds the element's cells there, the slice reads the list with that element -/
theorem Own.put (h : Own T E w0 w X (.slice (some ⟨g, 0, none⟩) l.length cap) l) {i : Nat} (hi : i < l.length) {a : α} {cs : List Value} (hr : E.rep w (fun k => X k ∨ k = g) cs a) (hcg : Chg [g] w w')
    (hw : ∀ cur, Blk w g T cur → i * E.size + E.size ≤ cur.size → ∃ cur', Blk w' g T cur' ∧ cur'.toList = cur.toList.take (i * E.size) ++ cs ++ cur.toList.drop (i * E.size + E.size)) : Own T E w0 w' X (.slice (some ⟨g, 0, none⟩) l.length cap) (l.set i a) := by
  obtain ⟨cur, css, h1, h2, h3, h4, h5, h6, h7, h8⟩ := h.blk (by omega)
  have hil : (i + 1) * E.size ≤ l.length * E.size := Nat.mul_le_mul_right _ hi
  have hic : l.length * E.size ≤ cap * E.size := Nat.mul_le_mul_right _ h3
  have e0 : (i + 1) * E.size = i * E.size + E.size := Nat.succ_mul _ _
  obtain ⟨cur', k1, k2⟩ := hw cur h1 (by rw [h5]; omega)
  have hcl := E.len hr
  have hct : cur.toList.length = cap * E.size := by rw [Array.length_toList, h5]
  have hfl := flat_len css E.size h7.lens
  rw [h7.1] at hfl
  have hl2 : (l.set i a).length = l.length := by simp
  have hm := Own.mk (T := T) (E := E) (w0 := w0) (w := w') (X := X) (g := g) (cap := cap) (l := l.set i a) cur' (css.set i cs) k1 h2 (by rw [hl2]; exact h3) h4 ?_ ?_ ((Each.set h7 i hr).chg hcg fun k hk _ => .inr (by simpa using hk)) h8
  · rw [hl2] at hm; exact hm
  · rw [← Array.length_toList, k2]
    simp only [List.length_append, List.length_take, List.length_drop, hct, hcl]
    omega
  · rw [hl2, k2, flat_set css E.size i cs h7.lens hcl (by rw [h7.1]; exact hi), ← h6]
    rw [List.take_take, Nat.min_eq_left (by omega), e0]
    rw [List.take_append, List.length_append, List.length_take, hcl, hct, Nat.min_eq_left (by omega)]
    rw [List.take_of_length_le (by rw [List.length_append, List.length_take, hcl, hct]; omega)]
    congr 1
    rw [List.drop_take]
end
theorem put3_cells {W : World} {g o : Nat} {T : TypeId} {cur : Array Value} {a b c : Value} (h : Blk W g T cur) (ho : o + 3 ≤ cur.size) :
    ∃ cur', Blk (((W.setCell ⟨g, o, none⟩ a).setCell ⟨g, o + 1, none⟩ b).setCell ⟨g, o + 2, none⟩ c) g T cur' ∧ cur'.toList = cur.toList.take o ++ [a, b, c] ++ cur.toList.drop (o + 3) :=
  ⟨_, h.st3 o a b c, by simp only [Array.toList_setIfInBounds]; exact set3 _ _ _ _ _ (by rw [Array.length_toList]; exact ho)⟩
theorem put4_cells {W : World} {g o : Nat} {T : TypeId} {cur : Array Value} {a b c d : Value} (h : Blk W g T cur) (ho : o + 4 ≤ cur.size) :
    ∃ cur', Blk ((((W.setCell ⟨g, o, none⟩ a).setCell ⟨g, o + 1, none⟩ b).setCell ⟨g, o + 2, none⟩ c).setCell ⟨g, o + 3, none⟩ d) g T cur' ∧ cur'.toList = cur.toList.take o ++ [a, b, c, d] ++ cur.toList.drop (o + 4) :=
  ⟨_, h.st4 o a b c d, by simp only [Array.toList_setIfInBounds]; exact set4 _ _ _ _ _ _ (by rw [Array.length_toList]; exact ho)⟩
/-- the last of an element's three cells is written over -/
theorem Own.third {α : Type} {T : TypeId} {E : Enc α} {w0 w : World} {X : Avoid} {g cap : Nat} {l : List α} (h : Own T E w0 w X (.slice (some ⟨g, 0, none⟩) l.length cap) l) (hE : E.size = 3) {i : Nat} (hi : i < l.length) {a : α} {c0 c1 v : Value}
    (e0 : w.cell? ⟨g, i * 3, none⟩ = some c0) (e1 : w.cell? ⟨g, i * 3 + 1, none⟩ = some c1) (hr : E.rep w (fun k => X k ∨ k = g) [c0, c1, v] a) : Own T E w0 (w.setCell ⟨g, i * 3 + 2, none⟩ v) X (.slice (some ⟨g, 0, none⟩) l.length cap) (l.set i a) := by
  refine h.put hi hr ((Chg.refl _ _).set (by simp) v) fun cur hB ho => ⟨_, hB.set_ (i * 3 + 2) v, ?_⟩
  rw [hE] at ho ⊢
  rw [hB.cell] at e0 e1
  have ho' : i * 3 + 3 ≤ cur.toList.length := by rw [Array.length_toList]; exact ho
  simp only [Array.toList_setIfInBounds]
  rw [← set3 cur.toList (i * 3) c0 c1 v ho']
  congr 1
  rw [← Array.getElem?_toList] at e0 e1
  obtain ⟨h0, e0⟩ := List.getElem?_eq_some_iff.1 e0
  obtain ⟨h1, e1⟩ := List.getElem?_eq_some_iff.1 e1
  rw [← e0, ← e1]
  apply List.ext_getElem?
  intro j
  simp only [List.getElem?_set, List.length_set]
  by_cases hj1 : i * 3 + 1 = j
  · subst hj1; have h1' : i * 3 + 1 < cur.size := by simpa using h1
    simp [h1']
  · by_cases hj0 : i * 3 = j
    · subst hj0; have h0' : i * 3 < cur.size := by simpa using h0
      simp [h0']
    · simp [hj0, hj1]
end Go.Proofs.Ythlbnajecfjmdaa
