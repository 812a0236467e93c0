/- Plain laws: how the document's Keep builds a session's list. -/
import Derived.Test.YthlbnajecfjmdaaRefS2
namespace Go.Proofs.Ythlbnajecfjmdaa
set_option linter.unusedVariables false
set_option linter.unusedSimpArgs false
set_option linter.unnecessarySimpa false
set_option maxRecDepth 100000
open Go.RowKit
abbrev keepQ (seq H : Int) (d : Dn) : Bool := !(decide (d.seq = seq) || stale d.seq H)
theorem cntP_snoc {α : Type} (p : α → Bool) (F : List α) (d : α) (hd : p d = false) : cntP p (F ++ [d]) = cntP p F := by
  induction F with
  | nil => simp [cntP, hd]
  | cons a F ih =>
    unfold cntP at *
    rw [List.cons_append, List.takeWhile_cons, List.takeWhile_cons]
    split
    · simpa using ih
    · rfl
theorem dput_snoc (F : List Dn) (d x : Dn) (hd : ¬ d.seq < x.seq) : dput (F ++ [d]) x = dput F x ++ [d] := by
  have h1 : ltQ x.seq d = false := by simpa using Int.not_lt.1 hd
  have h2 := cntP_le (ltQ x.seq) F
  unfold dput
  rw [cntP_snoc _ F d h1, List.take_append_of_le_length h2, List.drop_append_of_le_length h2]
  simp
theorem cntP_all {α : Type} (p : α → Bool) (F : List α) (h : ∀ y ∈ F, p y = true) : cntP p F = F.length := by
  induction F with
  | nil => rfl
  | cons a F ih =>
    unfold cntP at *
    rw [List.takeWhile_cons, if_pos (h a (by simp))]
    simpa using ih fun y hy => h y (by simp [hy])
theorem dput_last (F : List Dn) (x : Dn) (h : ∀ y ∈ F, y.seq < x.seq) : dput F x = F ++ [x] := by
  unfold dput
  rw [cntP_all _ F fun y hy => by simpa using h y hy]
  simp
/-- what the loop has built of the first k -/
structure KInv (done : List Dn) (seq H : Int) (a : An) (k : Nat) (l : List Dn) (put : Bool) : Prop where
  no : put = false → l = (done.take k).filter (keepQ seq H) ∧ ∀ (j : Nat) (d : Dn), j < k → done[j]? = some d → d.seq ≤ seq
  yes : put = true → l = dput ((done.take k).filter (keepQ seq H)) ⟨seq, a⟩ ∧ ∀ (j : Nat) (d : Dn), k ≤ j → done[j]? = some d → seq < d.seq
theorem KInv.start (done : List Dn) (seq H : Int) (a : An) : KInv done seq H a 0 [] false := ⟨fun _ => ⟨by simp, fun j d h => by omega⟩, (fun h => by cases h)⟩
theorem take_snoc {done : List Dn} {k : Nat} {d : Dn} (hd : done[k]? = some d) : done.take (k + 1) = done.take k ++ [d] := by
  rw [List.take_add_one, hd]
  rfl
theorem filter_lt {done : List Dn} {seq H : Int} {k : Nat} (h : ∀ (j : Nat) (d : Dn), j < k → done[j]? = some d → d.seq ≤ seq) : ∀ y ∈ (done.take k).filter (keepQ seq H), y.seq < seq := by
  intro y hy
  obtain ⟨h1, h2⟩ := List.mem_filter.1 hy
  obtain ⟨j, hj⟩ := List.mem_iff_getElem?.1 h1
  have hjk : j < k := by
    have := (List.getElem?_eq_some_iff.1 hj).1
    simp at this
    omega
  rw [List.getElem?_take_of_lt hjk] at hj
  have h3 := h j y hjk hj
  have h4 : ¬ y.seq = seq := fun e => by simp [keepQ, e] at h2
  omega
/-- the first of the two steps: l's value and put's, ahead of the element itself -/
theorem KInv.mid {done : List Dn} {seq H : Int} {a : An} {k : Nat} {l : List Dn} {put : Bool} {d : Dn} (h : KInv done seq H a k l put) (hr : RiseD done) (hd : done[k]? = some d) (hs : seq < d.seq) (hp : put = false) :
    KInv done seq H a k (l ++ [⟨seq, a⟩]) true :=
  ⟨(fun h => by cases h), fun _ => ⟨by rw [(h.no hp).1]; exact (dput_last ((done.take k).filter (keepQ seq H)) ⟨seq, a⟩ (filter_lt (h.no hp).2)).symm, fun j x hj hx => by
    rcases Nat.lt_or_ge k j with h1 | h1
    · have := pw_at hr h1 hd hx; omega
    · obtain rfl : j = k := by omega
      rw [hd] at hx
      cases hx
      exact hs⟩⟩
theorem KInv.step {done : List Dn} {seq H : Int} {a : An} {k : Nat} {l : List Dn} {put : Bool} {d : Dn} (h : KInv done seq H a k l put) (hd : done[k]? = some d) (hs : put = false → d.seq ≤ seq) :
    KInv done seq H a (k + 1) (if keepQ seq H d = true then l ++ [d] else l) put := by
  have ht := take_snoc hd
  constructor
  · intro hp
    obtain ⟨h1, h2⟩ := h.no hp
    refine ⟨?_, fun j x hj hx => ?_⟩
    · rw [ht, List.filter_append, h1]
      by_cases hk : keepQ seq H d = true
      · rw [if_pos hk, List.filter_cons_of_pos hk, List.filter_nil]
      · rw [if_neg hk, List.filter_cons_of_neg hk, List.filter_nil, List.append_nil]
    · by_cases hjk : j = k
      · subst hjk
        rw [hd] at hx
        cases hx
        exact hs hp
      · exact h2 j x (by omega) hx
  · intro hp
    obtain ⟨h1, h2⟩ := h.yes hp
    refine ⟨?_, fun j x hj hx => h2 j x (by omega) hx⟩
    rw [ht, List.filter_append, h1]
    by_cases hk : keepQ seq H d = true
    · rw [if_pos hk, List.filter_cons_of_pos hk, List.filter_nil, dput_snoc]
      have := h2 k d (Nat.le_refl _) hd
      simp
      omega
    · rw [if_neg hk, List.filter_cons_of_neg hk, List.filter_nil, List.append_nil]
/-- what is built in the end -/
theorem KInv.done {done : List Dn} {seq H : Int} {a : An} {l : List Dn} {put : Bool} (h : KInv done seq H a done.length l put) : (if put = true then l else l ++ [⟨seq, a⟩]) = dput (done.filter (keepQ seq H)) ⟨seq, a⟩ := by
  cases put with
  | true =>
    rw [if_pos rfl, (h.yes rfl).1, List.take_length]
  | false =>
    rw [if_neg (by simp), (h.no rfl).1]
    have := filter_lt (H := H) (h.no rfl).2
    rw [List.take_length] at this ⊢
    exact (dput_last (done.filter (keepQ seq H)) ⟨seq, a⟩ this).symm
theorem skeep_done (own : Se) (seq : Int) (a : An) : (skeep own seq a).done = dput (own.done.filter (keepQ seq (max own.high seq))) ⟨seq, a⟩ := rfl
end Go.Proofs.Ythlbnajecfjmdaa
