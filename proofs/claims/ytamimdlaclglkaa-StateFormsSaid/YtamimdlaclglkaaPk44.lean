import Derived.Test.YtamimdlaclglkaaPk38
/- Plain laws of sessions. -/
namespace Go.Proofs.Ytamimdlaclglkaa
set_option linter.unusedVariables false
set_option linter.unusedSimpArgs false
set_option linter.unnecessarySimpa false
set_option maxRecDepth 100000
open Go.RowKit
theorem cnt_lt {l : List Se} (h : RiseS l) {i : Nat} {x : Se} (hx : l[i]? = some x) : cntP (ltC x.client) l = i := by
  refine cntP_at _ l i (by have := (List.getElem?_eq_some_iff.1 hx).1; omega) (fun m a hm ha => ?_) (fun m a hm ha => ?_)
  · have := pw_at h hm ha hx
    simpa using this
  · rcases Nat.lt_or_ge i m with h1 | h1
    · have := pw_at h h1 hx ha
      simp; omega
    · obtain rfl : i = m := by omega
      rw [hx] at ha
      cases ha
      simp
theorem sown_some {l : List Se} (h : RiseS l) {i : Nat} {x : Se} (hx : l[i]? = some x) : sown l x.client = x := by
  unfold sown
  rw [cnt_lt h hx, hx]
  simp
theorem sown_none {l : List Se} {c : Int} (h : ∀ (i : Nat) (x : Se), l[i]? = some x → x.client ≠ c) : sown l c = ⟨c, 0, []⟩ := by
  unfold sown
  cases hx : l[cntP (ltC c) l]? with
  | none => rfl
  | some x => simp [h _ x hx]
theorem sown_client (l : List Se) (c : Int) : (sown l c).client = c := by
  unfold sown
  split
  · split
    · assumption
    · rfl
  · rfl
theorem sat_some {l : List Se} (h : RiseS l) {i : Nat} {x : Se} (hx : l[i]? = some x) : sat l x.client = (i, true) := by
  unfold sat
  rw [cnt_lt h hx, hx]
  simp
theorem sat_none {l : List Se} {c : Int} (h : ∀ (i : Nat) (x : Se), l[i]? = some x → x.client ≠ c) : sat l c = (cntP (ltC c) l, false) := by
  unfold sat
  cases hx : l[cntP (ltC c) l]? with
  | none => rfl
  | some x => simp [h _ x hx]
/-- a client has a session, or none -/
theorem has_or (l : List Se) (c : Int) : (∃ (i : Nat) (x : Se), l[i]? = some x ∧ x.client = c) ∨ ∀ (i : Nat) (x : Se), l[i]? = some x → x.client ≠ c := by
  by_cases h : ∃ (i : Nat) (x : Se), l[i]? = some x ∧ x.client = c
  · exact .inl h
  · exact .inr fun i x hx he => h ⟨i, x, hx, he⟩
theorem set_at {l : List Se} {i j : Nat} {x y : Se} (hi : i < l.length) : (l.set i x)[j]? = some y ↔ (j = i ∧ y = x) ∨ (j ≠ i ∧ l[j]? = some y) := by
  rw [List.getElem?_set]
  by_cases h : i = j
  · subst h
    simp [hi, eq_comm]
  · simp [h, Ne.symm h]
theorem rise_set {l : List Se} (h : RiseS l) {i : Nat} {x y : Se} (hx : l[i]? = some x) (hc : y.client = x.client) : RiseS (l.set i y) := by
  have hi := (List.getElem?_eq_some_iff.1 hx).1
  unfold RiseS
  rw [List.pairwise_iff_getElem]
  intro a b ha hb hab
  have h1 := List.getElem?_eq_getElem ha
  have h2 := List.getElem?_eq_getElem hb
  rcases (set_at hi).1 h1 with ⟨e1, e2⟩ | ⟨e1, e2⟩
  · rcases (set_at hi).1 h2 with ⟨f1, f2⟩ | ⟨f1, f2⟩
    · omega
    · subst e1
      have := pw_at h hab hx f2
      rw [e2, hc]
      exact this
  · rcases (set_at hi).1 h2 with ⟨f1, f2⟩ | ⟨f1, f2⟩
    · subst f1
      have := pw_at h hab e2 hx
      rw [f2, hc]
      exact this
    · exact pw_at h hab e2 f2
theorem ins_at {α : Type} {l : List α} {n j : Nat} {x y : α} (hn : n ≤ l.length) : (l.take n ++ x :: l.drop n)[j]? = some y ↔ (j < n ∧ l[j]? = some y) ∨ (j = n ∧ y = x) ∨ (n < j ∧ l[j - 1]? = some y) := by
  have hl : (l.take n).length = n := by simp; omega
  rcases Nat.lt_trichotomy j n with h | h | h
  · rw [List.getElem?_append_left (by omega), List.getElem?_take_of_lt h]
    constructor
    · exact fun h1 => .inl ⟨h, h1⟩
    · rintro (⟨_, h1⟩ | ⟨h1, _⟩ | ⟨h1, _⟩)
      · exact h1
      · omega
      · omega
  · subst h
    rw [List.getElem?_append_right (by omega), hl, Nat.sub_self]
    simp [eq_comm]
  · rw [List.getElem?_append_right (by omega), hl, show j - n = (j - n - 1) + 1 by omega, List.getElem?_cons_succ, List.getElem?_drop, show n + (j - n - 1) = j - 1 by omega]
    constructor
    · exact fun h1 => .inr (.inr ⟨h, h1⟩)
    · rintro (⟨h1, _⟩ | ⟨h1, _⟩ | ⟨_, h1⟩)
      · omega
      · omega
      · exact h1
theorem cntP_true {α : Type} (p : α → Bool) : ∀ (l : List α) (i : Nat) (x : α), i < cntP p l → l[i]? = some x → p x = true
  | [], _, _, _, h => by simp at h
  | a :: l, i, x, hi, hx => by
    unfold cntP at hi
    by_cases ha : p a = true
    · rw [List.takeWhile_cons, if_pos ha] at hi
      cases i with
      | zero => simp at hx; subst hx; exact ha
      | succ i => exact cntP_true p l i x (by unfold cntP; simpa using hi) (by simpa using hx)
    · rw [List.takeWhile_cons, if_neg ha] at hi
      simp at hi
theorem cntP_stop {α : Type} (p : α → Bool) : ∀ (l : List α) (x : α), l[cntP p l]? = some x → p x = false
  | [], _, h => by simp at h
  | a :: l, x, hx => by
    unfold cntP at hx
    by_cases ha : p a = true
    · rw [List.takeWhile_cons, if_pos ha] at hx
      exact cntP_stop p l x (by unfold cntP; simpa using hx)
    · rw [List.takeWhile_cons, if_neg ha] at hx
      simp at hx
      subst hx
      simpa using ha
theorem Mono.stop {α : Type} {p : α → Bool} {l : List α} (h : Mono p l) {i : Nat} {x : α} (hi : cntP p l ≤ i) (hx : l[i]? = some x) : p x = false := by
  cases hp : p x with
  | false => rfl
  | true =>
    have h1 := (List.getElem?_eq_some_iff.1 hx).1
    have h2 := List.getElem?_eq_getElem (show cntP p l < l.length by omega)
    have := h _ _ _ _ hi h2 hx hp
    rw [cntP_stop p l _ h2] at this
    cases this
theorem rise_ins {l : List Se} (h : RiseS l) {x : Se} (hne : ∀ (i : Nat) (y : Se), l[i]? = some y → y.client ≠ x.client) : RiseS (l.take (cntP (ltC x.client) l) ++ x :: l.drop (cntP (ltC x.client) l)) := by
  have hn := cntP_le (ltC x.client) l
  unfold RiseS
  rw [List.pairwise_iff_getElem]
  intro a b ha hb hab
  have h1 := (ins_at hn).1 (List.getElem?_eq_getElem ha)
  have h2 := (ins_at hn).1 (List.getElem?_eq_getElem hb)
  have lo : ∀ (j : Nat) (y : Se), j < cntP (ltC x.client) l → l[j]? = some y → y.client < x.client := fun j y hj hy => by simpa using cntP_true _ l j y hj hy
  have hi : ∀ (j : Nat) (y : Se), cntP (ltC x.client) l ≤ j → l[j]? = some y → x.client < y.client := fun j y hj hy => by
    have h3 := (h.mono x.client).stop hj hy
    have h4 := hne j y hy
    simp at h3
    omega
  generalize (l.take (cntP (ltC x.client) l) ++ x :: l.drop (cntP (ltC x.client) l))[a] = A at *
  generalize (l.take (cntP (ltC x.client) l) ++ x :: l.drop (cntP (ltC x.client) l))[b] = B at *
  generalize cntP (ltC x.client) l = n at *
  rcases h1 with ⟨e1, e2⟩ | ⟨e1, e2⟩ | ⟨e1, e2⟩ <;> rcases h2 with ⟨f1, f2⟩ | ⟨f1, f2⟩ | ⟨f1, f2⟩
  · exact pw_at h hab e2 f2
  · rw [f2]; exact lo _ _ e1 e2
  · exact pw_at h (by omega) e2 f2
  · omega
  · omega
  · rw [e2]; exact hi _ _ (by omega) f2
  · omega
  · omega
  · exact pw_at h (by omega) e2 f2
theorem swith_rise {l : List Se} (h : RiseS l) (x : Se) : RiseS (swith l x) := by
  unfold swith
  rcases has_or l x.client with ⟨i, y, hy, hc⟩ | hn
  · rw [← hc, sat_some h hy]
    exact rise_set h hy hc.symm
  · rw [sat_none hn]
    exact rise_ins h hn
theorem swith_own {l : List Se} (h : RiseS l) (x : Se) (c : Int) : sown (swith l x) c = if c = x.client then x else sown l c := by
  have hr := swith_rise h x
  have key : ∀ (l' : List Se), RiseS l' → (∀ (y : Se), (∃ i : Nat, l'[i]? = some y) ↔ y = x ∨ (y.client ≠ x.client ∧ ∃ i : Nat, l[i]? = some y)) → sown l' c = if c = x.client then x else sown l c := by
    intro l' hl' hm
    split
    · rename_i hc
      obtain ⟨i, hi⟩ := (hm x).2 (.inl rfl)
      rw [hc]
      exact sown_some hl' hi
    · rename_i hc
      rcases has_or l c with ⟨i, y, hy, hyc⟩ | hn
      · obtain ⟨j, hj⟩ := (hm y).2 (.inr ⟨by rw [hyc]; exact hc, i, hy⟩)
        rw [← hyc, sown_some h hy, sown_some hl' hj]
      · rw [sown_none hn, sown_none]
        intro i y hy
        rcases (hm y).1 ⟨i, hy⟩ with rfl | ⟨_, j, hj⟩
        · exact fun e => hc e.symm
        · exact hn j y hj
  refine key _ hr fun y => ?_
  unfold swith
  rcases has_or l x.client with ⟨i, z, hz, hc⟩ | hn
  · rw [← hc, sat_some h hz]
    have hi := (List.getElem?_eq_some_iff.1 hz).1
    show (∃ j : Nat, (l.set i x)[j]? = some y) ↔ _
    constructor
    · rintro ⟨j, hj⟩
      rcases (set_at hi).1 hj with ⟨_, rfl⟩ | ⟨h1, h2⟩
      · exact .inl rfl
      · refine .inr ⟨fun e => ?_, j, h2⟩
        rcases Nat.lt_or_ge j i with h3 | h3
        · have := pw_at h h3 h2 hz; omega
        · have := pw_at h (show i < j by omega) hz h2; omega
    · rintro (rfl | ⟨h1, j, hj⟩)
      · exact ⟨i, (set_at hi).2 (.inl ⟨rfl, rfl⟩)⟩
      · refine ⟨j, (set_at hi).2 (.inr ⟨fun e => ?_, hj⟩)⟩
        subst e
        rw [hz] at hj
        cases hj
        exact h1 rfl
  · rw [sat_none hn]
    have hle := cntP_le (ltC x.client) l
    show (∃ j : Nat, (l.take (cntP (ltC x.client) l) ++ x :: l.drop (cntP (ltC x.client) l))[j]? = some y) ↔ _
    constructor
    · rintro ⟨j, hj⟩
      rcases (ins_at hle).1 hj with ⟨_, h2⟩ | ⟨_, rfl⟩ | ⟨_, h2⟩
      · exact .inr ⟨hn _ _ h2, _, h2⟩
      · exact .inl rfl
      · exact .inr ⟨hn _ _ h2, _, h2⟩
    · rintro (rfl | ⟨h1, j, hj⟩)
      · exact ⟨_, (ins_at hle).2 (.inr (.inl ⟨rfl, rfl⟩))⟩
      · rcases Nat.lt_or_ge j (cntP (ltC x.client) l) with h2 | h2
        · exact ⟨j, (ins_at hle).2 (.inl ⟨h2, hj⟩)⟩
        · exact ⟨j + 1, (ins_at hle).2 (.inr (.inr ⟨by omega, by simpa using hj⟩))⟩
theorem kept_dput (d : List Dn) (x : Dn) (q : Int) (hne : ∀ y ∈ d, y.seq ≠ x.seq) : kept (dput d x) q = if q = x.seq then some x.an else kept d q := by
  unfold kept dput
  generalize cntP (ltQ x.seq) d = n
  have hd : d.take n ++ d.drop n = d := List.take_append_drop n d
  rw [List.find?_append, List.find?_cons]
  by_cases hq : q = x.seq
  · subst hq
    rw [if_pos rfl]
    have h1 : (d.take n).find? (fun y => decide (y.seq = x.seq)) = none := List.find?_eq_none.2 fun y hy => by simpa using hne y (List.mem_of_mem_take hy)
    simp [h1]
  · rw [if_neg hq]
    have h1 : decide (x.seq = q) = false := by simpa using fun e => hq e.symm
    rw [h1]
    conv => rhs; rw [← hd, List.find?_append]
theorem kept_filter (d : List Dn) (p : Int → Bool) (q : Int) : kept (d.filter fun y => p y.seq) q = if p q = true then kept d q else none := by
  unfold kept
  rw [List.find?_filter]
  by_cases hp : p q = true
  · rw [if_pos hp]
    congr 2
    funext y
    by_cases hy : y.seq = q
    · simp [hy, hp]
    · simp [hy]
  · rw [if_neg hp, List.find?_eq_none.2, Option.map_none]
    intro y _
    by_cases hy : y.seq = q
    · simp [hy]
      simpa using hp
    · simp [hy]
theorem kept_skeep (own : Se) (seq : Int) (a : An) (q : Int) : kept (skeep own seq a).done q = if q = seq then some a else if stale q (max own.high seq) = true then none else kept own.done q := by
  unfold skeep
  rw [kept_dput _ _ _ (by
    intro y hy
    have := (List.mem_filter.1 hy).2
    intro e
    simp only at e
    simp [e] at this)]
  by_cases hq : q = seq
  · simp [hq]
  · rw [if_neg hq, if_neg hq]
    refine (kept_filter own.done (fun s => !(decide (s = seq) || stale s (max own.high seq))) q).trans ?_
    simp only [hq, decide_false, Bool.false_or]
    cases stale q (max own.high seq) <;> simp
theorem stale_mono {q h1 h2 : Int} (h : h1 ≤ h2) (hs : stale q h1 = true) : stale q h2 = true := by
  unfold stale at *
  simp at *
  omega
/-- what is known once an answer is kept -/
theorem ask_keep (s : St) (hr : RiseS s.sess) (c seq : Int) (a : An) (c' q : Int) : ask (keep s c seq a) c' q =
    if c' < 0 ∨ 4 ≤ c' ∨ q = 0 then (⟨1, []⟩, true)
    else if c' = c then (if q = seq then (a, true) else if stale q (max (sown s.sess c).high seq) = true then (⟨14, []⟩, true) else ask s c q)
    else ask s c' q := by
  unfold ask
  by_cases hb : c' < 0 ∨ 4 ≤ c' ∨ q = 0
  · rw [if_pos hb, if_pos hb]
  · rw [if_neg hb, if_neg hb]
    have h1 : (keep s c seq a).sess = swith s.sess (skeep (sown s.sess c) seq a) := rfl
    have h2 : (skeep (sown s.sess c) seq a).client = c := sown_client s.sess c
    rw [h1, swith_own hr, h2]
    by_cases hc : c' = c
    · subst hc
      rw [if_pos rfl, if_pos rfl, kept_skeep]
      by_cases hq : q = seq
      · rw [if_pos hq, if_pos hq]
      · rw [if_neg hq, if_neg hq]
        have h3 : (skeep (sown s.sess c') seq a).high = max (sown s.sess c').high seq := rfl
        rw [h3]
        by_cases hs : stale q (max (sown s.sess c').high seq) = true
        · rw [if_pos hs, if_pos hs]
          simp [hs]
        · rw [if_neg hs, if_neg hs, if_neg hb]
          have h4 : ¬ stale q (sown s.sess c').high = true := fun h => hs (stale_mono (by omega) h)
          cases kept (sown s.sess c').done q with
          | some b => simp [hs]
          | none => simp [hs, h4]
    · rw [if_neg hc, if_neg hc, if_neg hb]
theorem ask_bad {s : St} {c q : Int} (h : c < 0 ∨ 4 ≤ c ∨ q = 0) : ask s c q = (⟨1, []⟩, true) := by unfold ask; rw [if_pos h]
theorem ask_ok {s : St} {c q : Int} {x : An} (h : ask s c q = (x, false)) : ¬ (c < 0 ∨ 4 ≤ c ∨ q = 0) := fun hb => by rw [ask_bad hb] at h; cases h
end Go.Proofs.Ytamimdlaclglkaa

/- Plain: sessions whose kept answers lie in the window. -/
namespace Go.Proofs.Ytamimdlaclglkaa
set_option linter.unusedVariables false
set_option linter.unusedSimpArgs false
set_option linter.unnecessarySimpa false
set_option maxRecDepth 100000
open Go.RowKit
theorem riseD_ins {l : List Dn} (h : RiseD l) {x : Dn} (hne : ∀ (i : Nat) (y : Dn), l[i]? = some y → y.seq ≠ x.seq) : RiseD (l.take (cntP (ltQ x.seq) l) ++ x :: l.drop (cntP (ltQ x.seq) l)) := by
  have hn := cntP_le (ltQ x.seq) l
  unfold RiseD
  rw [List.pairwise_iff_getElem]
  intro a b ha hb hab
  have h1 := (ins_at hn).1 (List.getElem?_eq_getElem ha)
  have h2 := (ins_at hn).1 (List.getElem?_eq_getElem hb)
  have lo : ∀ (j : Nat) (y : Dn), j < cntP (ltQ x.seq) l → l[j]? = some y → y.seq < x.seq := fun j y hj hy => by simpa using cntP_true _ l j y hj hy
  have hi : ∀ (j : Nat) (y : Dn), cntP (ltQ x.seq) l ≤ j → l[j]? = some y → x.seq < y.seq := fun j y hj hy => by
    have h3 := (h.mono x.seq).stop hj hy
    have h4 := hne j y hy
    simp at h3
    omega
  generalize (l.take (cntP (ltQ x.seq) l) ++ x :: l.drop (cntP (ltQ x.seq) l))[a] = A at *
  generalize (l.take (cntP (ltQ x.seq) l) ++ x :: l.drop (cntP (ltQ x.seq) l))[b] = B at *
  generalize cntP (ltQ x.seq) l = n at *
  rcases h1 with ⟨e1, e2⟩ | ⟨e1, e2⟩ | ⟨e1, e2⟩ <;> rcases h2 with ⟨f1, f2⟩ | ⟨f1, f2⟩ | ⟨f1, f2⟩
  · exact pw_at h hab e2 f2
  · rw [f2]; exact lo _ _ e1 e2
  · exact pw_at h (by omega) e2 f2
  · omega
  · omega
  · rw [e2]; exact hi _ _ (by omega) f2
  · omega
  · omega
  · exact pw_at h (by omega) e2 f2
theorem dput_rise {d : List Dn} (h : RiseD d) {x : Dn} (hne : ∀ y ∈ d, y.seq ≠ x.seq) : RiseD (dput d x) := riseD_ins h fun _ y hy => hne y (List.mem_of_getElem? hy)
theorem dput_mem {d : List Dn} {x y : Dn} (h : y ∈ dput d x) : y = x ∨ y ∈ d := by
  unfold dput at h
  rcases List.mem_append.1 h with h | h
  · exact .inr (List.mem_of_mem_take h)
  · rcases List.mem_cons.1 h with h | h
    · exact .inl h
    · exact .inr (List.mem_of_mem_drop h)
theorem swith_mem {l : List Se} {x y : Se} (h : y ∈ swith l x) : y = x ∨ y ∈ l := by
  unfold swith at h
  split at h
  · rcases List.mem_or_eq_of_mem_set h with h | h
    · exact .inr h
    · exact .inl h
  · rcases List.mem_append.1 h with h | h
    · exact .inr (List.mem_of_mem_take h)
    · rcases List.mem_cons.1 h with h | h
      · exact .inl h
      · exact .inr (List.mem_of_mem_drop h)
/-- a session whose kept ones lie in the window -/
def InWin (x : Se) : Prop := RiseD x.done ∧ ∀ d ∈ x.done, 1 ≤ d.seq ∧ x.high - 4 < d.seq ∧ d.seq ≤ x.high
theorem InWin.len {x : Se} (h : InWin x) : x.done.length ≤ 4 := by
  rcases Nat.lt_or_ge 4 x.done.length with h1 | h1
  · have g : ∀ (i : Nat) (hi : i < x.done.length), x.done[i]? = some x.done[i] := fun i hi => List.getElem?_eq_getElem hi
    have e1 := pw_at h.1 (show 0 < 1 by decide) (g 0 (by omega)) (g 1 (by omega))
    have e2 := pw_at h.1 (show 1 < 2 by decide) (g 1 (by omega)) (g 2 (by omega))
    have e3 := pw_at h.1 (show 2 < 3 by decide) (g 2 (by omega)) (g 3 (by omega))
    have e4 := pw_at h.1 (show 3 < 4 by decide) (g 3 (by omega)) (g 4 (by omega))
    have f0 := (h.2 x.done[0] (List.getElem_mem _)).2.1
    have f4 := (h.2 x.done[4] (List.getElem_mem _)).2.2
    omega
  · exact h1
theorem sown_win {l : List Se} (h : ∀ x ∈ l, InWin x) (c : Int) : InWin (sown l c) := by
  unfold sown
  split
  · rename_i s hs
    split
    · exact h s (List.mem_of_getElem? hs)
    · exact ⟨List.Pairwise.nil, by simp⟩
  · exact ⟨List.Pairwise.nil, by simp⟩
theorem skeep_win {own : Se} {q : Int} {a : An} (h : InWin own) (hq : 1 ≤ q) (hs : stale q own.high = false) : InWin (skeep own q a) := by
  have hH : stale q (max own.high q) = false := by
    unfold stale at *
    simp at *
    omega
  constructor
  · refine dput_rise (h.1.filter _) fun y hy => ?_
    have := (List.mem_filter.1 hy).2
    intro e
    simp only at e
    simp [e] at this
  · intro d hd
    show 1 ≤ d.seq ∧ max own.high q - 4 < d.seq ∧ d.seq ≤ max own.high q
    rcases dput_mem hd with rfl | hd
    · refine ⟨hq, ?_, by show q ≤ _; omega⟩
      show max own.high q - 4 < q
      unfold stale at hH
      simp at hH
      omega
    · obtain ⟨h1, h2⟩ := List.mem_filter.1 hd
      obtain ⟨k1, k2, k3⟩ := h.2 d h1
      have h3 : stale d.seq (max own.high q) = false := by simp at h2; exact h2.2
      refine ⟨k1, ?_, by omega⟩
      unfold stale at h3
      simp at h3
      omega
end Go.Proofs.Ytamimdlaclglkaa

