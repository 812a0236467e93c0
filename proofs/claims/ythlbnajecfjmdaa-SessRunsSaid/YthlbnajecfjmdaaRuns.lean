/- Plain: what SessRuns keeps. -/
import Derived.Test.YthlbnajecfjmdaaSess10
namespace Go.Proofs.Ythlbnajecfjmdaa
set_option linter.unusedVariables false
set_option linter.unusedSimpArgs false
set_option linter.unnecessarySimpa false
set_option maxRecDepth 100000
open Go.RowKit
theorem riseD_ins {l : List Dn} (h : RiseD l) {x : Dn} (hne : ∀ (i : Nat) (y : Dn), l[i]? = some y → y.seq ≠ x.seq) : RiseD (l.take (cntP (ltQ x.seq) l) ++ x :: l.drop (cntP (ltQ x.seq) l)) := by
  have hn := cntP_le (ltQ x.seq) l
  unfold RiseD
  rw [List.pairwise_iff_getElem]
  intro a b ha hb hab
  have h1 := (ins_at hn).1 (List.getElem?_eq_getElem ha)
  have h2 := (ins_at hn).1 (List.getElem?_eq_getElem hb)
  have lo : ∀ (j : Nat) (y : Dn), j < cntP (ltQ x.seq) l → l[j]? = some y → y.seq < x.seq := fun j y hj hy => by simpa using cntP_true _ l j y hj hy
  have hi : ∀ (j : Nat) (y : Dn), cntP (ltQ x.seq) l ≤ j → l[j]? = some y → x.seq < y.seq := fun j y hj hy => by
    have h3 := (h.mono x.seq).stop hj hy
    have h4 := hne j y hy
    simp at h3
    omega
  generalize (l.take (cntP (ltQ x.seq) l) ++ x :: l.drop (cntP (ltQ x.seq) l))[a] = A at *
  generalize (l.take (cntP (ltQ x.seq) l) ++ x :: l.drop (cntP (ltQ x.seq) l))[b] = B at *
  generalize cntP (ltQ x.seq) l = n at *
  rcases h1 with ⟨e1, e2⟩ | ⟨e1, e2⟩ | ⟨e1, e2⟩ <;> rcases h2 with ⟨f1, f2⟩ | ⟨f1, f2⟩ | ⟨f1, f2⟩
  · exact pw_at h hab e2 f2
  · rw [f2]; exact lo _ _ e1 e2
  · exact pw_at h (by omega) e2 f2
  · omega
  · omega
  · rw [e2]; exact hi _ _ (by omega) f2
  · omega
  · omega
  · exact pw_at h (by omega) e2 f2
theorem dput_rise {d : List Dn} (h : RiseD d) {x : Dn} (hne : ∀ y ∈ d, y.seq ≠ x.seq) : RiseD (dput d x) := riseD_ins h fun _ y hy => hne y (List.mem_of_getElem? hy)
theorem dput_mem {d : List Dn} {x y : Dn} (h : y ∈ dput d x) : y = x ∨ y ∈ d := by
  unfold dput at h
  rcases List.mem_append.1 h with h | h
  · exact .inr (List.mem_of_mem_take h)
  · rcases List.mem_cons.1 h with h | h
    · exact .inl h
    · exact .inr (List.mem_of_mem_drop h)
theorem swith_mem {l : List Se} {x y : Se} (h : y ∈ swith l x) : y = x ∨ y ∈ l := by
  unfold swith at h
  split at h
  · rcases List.mem_or_eq_of_mem_set h with h | h
    · exact .inr h
    · exact .inl h
  · rcases List.mem_append.1 h with h | h
    · exact .inr (List.mem_of_mem_take h)
    · rcases List.mem_cons.1 h with h | h
      · exact .inl h
      · exact .inr (List.mem_of_mem_drop h)
/-- a session whose kept ones lie in the window -/
def InWin (x : Se) : Prop := RiseD x.done ∧ ∀ d ∈ x.done, 1 ≤ d.seq ∧ x.high - 4 < d.seq ∧ d.seq ≤ x.high
theorem InWin.len {x : Se} (h : InWin x) : x.done.length ≤ 4 := by
  rcases Nat.lt_or_ge 4 x.done.length with h1 | h1
  · have g : ∀ (i : Nat) (hi : i < x.done.length), x.done[i]? = some x.done[i] := fun i hi => List.getElem?_eq_getElem hi
    have e1 := pw_at h.1 (show 0 < 1 by decide) (g 0 (by omega)) (g 1 (by omega))
    have e2 := pw_at h.1 (show 1 < 2 by decide) (g 1 (by omega)) (g 2 (by omega))
    have e3 := pw_at h.1 (show 2 < 3 by decide) (g 2 (by omega)) (g 3 (by omega))
    have e4 := pw_at h.1 (show 3 < 4 by decide) (g 3 (by omega)) (g 4 (by omega))
    have f0 := (h.2 x.done[0] (List.getElem_mem _)).2.1
    have f4 := (h.2 x.done[4] (List.getElem_mem _)).2.2
    omega
  · exact h1
theorem sown_win {l : List Se} (h : ∀ x ∈ l, InWin x) (c : Int) : InWin (sown l c) := by
  unfold sown
  split
  · rename_i s hs
    split
    · exact h s (List.mem_of_getElem? hs)
    · exact ⟨List.Pairwise.nil, by simp⟩
  · exact ⟨List.Pairwise.nil, by simp⟩
theorem skeep_win {own : Se} {q : Int} {a : An} (h : InWin own) (hq : 1 ≤ q) (hs : stale q own.high = false) : InWin (skeep own q a) := by
  have hH : stale q (max own.high q) = false := by
    unfold stale at *
    simp at *
    omega
  constructor
  · refine dput_rise (h.1.filter _) fun y hy => ?_
    have := (List.mem_filter.1 hy).2
    intro e
    simp only at e
    simp [e] at this
  · intro d hd
    show 1 ≤ d.seq ∧ max own.high q - 4 < d.seq ∧ d.seq ≤ max own.high q
    rcases dput_mem hd with rfl | hd
    · refine ⟨hq, ?_, by show q ≤ _; omega⟩
      show max own.high q - 4 < q
      unfold stale at hH
      simp at hH
      omega
    · obtain ⟨h1, h2⟩ := List.mem_filter.1 hd
      obtain ⟨k1, k2, k3⟩ := h.2 d h1
      have h3 : stale d.seq (max own.high q) = false := by simp at h2; exact h2.2
      refine ⟨k1, ?_, by omega⟩
      unfold stale at h3
      simp at h3
      omega
/-- what SessRuns keeps: the highest of each, and which were asked -/
structure InvR (s : St) (hi : Int → Int) (dn : Int → Int → Bool) : Prop where
  rise : RiseS s.sess
  win : ∀ x ∈ s.sess, InWin x
  high : ∀ w, (sown s.sess w).high = hi w
  kept : ∀ w q, 1 ≤ q → kept (sown s.sess w).done q = if dn w q = true ∧ stale q (hi w) = false then some ⟨0, tx w q⟩ else none
theorem InvR.start : InvR ⟨0, 0, [], []⟩ (fun _ => 0) (fun _ _ => false) := ⟨List.Pairwise.nil, by simp, fun w => rfl, fun w q _ => by simp; rfl⟩
def upd1 (f : Int → Int) (w v : Int) : Int → Int := fun x => if x = w then v else f x
def upd2 (f : Int → Int → Bool) (w q : Int) : Int → Int → Bool := fun x y => if x = w ∧ y = q then true else f x y
theorem InvR.step {s : St} {hi : Int → Int} {dn : Int → Int → Bool} (h : InvR s hi dn) {w q : Int} (hq : 1 ≤ q) (hs : stale q (hi w) = false) :
    InvR (keep s w q ⟨0, tx w q⟩) (upd1 hi w (max (hi w) q)) (upd2 dn w q) := by
  have hsess : (keep s w q ⟨0, tx w q⟩).sess = swith s.sess (skeep (sown s.sess w) q ⟨0, tx w q⟩) := rfl
  have hcl : (skeep (sown s.sess w) q ⟨0, tx w q⟩).client = w := sown_client s.sess w
  have hs2 : stale q (sown s.sess w).high = false := by rw [h.high]; exact hs
  refine ⟨swith_rise h.rise _, fun x hx => ?_, fun w' => ?_, fun w' q' hq' => ?_⟩
  · rcases swith_mem hx with rfl | hx
    · exact skeep_win (sown_win h.win w) hq hs2
    · exact h.win x hx
  · rw [hsess, swith_own h.rise, hcl]
    unfold upd1
    by_cases hw : w' = w
    · rw [if_pos hw, if_pos hw]
      show max (sown s.sess w).high q = _
      rw [h.high]
    · rw [if_neg hw, if_neg hw, h.high]
  · rw [hsess, swith_own h.rise, hcl]
    unfold upd1 upd2
    by_cases hw : w' = w
    · subst hw
      rw [if_pos rfl, kept_skeep, h.high]
      by_cases hqq : q' = q
      · subst hqq
        have hH : stale q' (max (hi w') q') = false := by
          unfold stale at *
          simp at *
          omega
        simp [hH]
      · simp only [hqq, if_false, and_false, true_and, if_true]
        rw [h.kept w' q' hq']
        by_cases hst : stale q' (max (hi w') q) = true
        · simp [hst]
        · have h4 : stale q' (hi w') = false := by
            cases h5 : stale q' (hi w') with
            | false => rfl
            | true => exact absurd (stale_mono (by omega) h5) hst
          simp [hst, h4]
    · simp only [hw, if_false, false_and]
      exact h.kept w' q' hq'
/-- what is answered -/
theorem InvR.ask {s : St} {hi : Int → Int} {dn : Int → Int → Bool} (h : InvR s hi dn) {w q : Int} (h0 : 0 ≤ w) (h4 : w < 4) (hq : 1 ≤ q) :
    ask s w q = if stale q (hi w) = true then (⟨14, []⟩, true) else if dn w q = true then (⟨0, tx w q⟩, true) else (⟨0, []⟩, false) := by
  unfold Go.Proofs.Ythlbnajecfjmdaa.ask
  rw [if_neg (by omega), h.kept w q hq, h.high]
  cases stale q (hi w) <;> cases dn w q <;> simp
end Go.Proofs.Ythlbnajecfjmdaa
