/- A part of the proof of 'StateBytes'. -/
import Derived.Test.YtamimdlaclglkaaGreatB31
import Derived.Test.YtamimdlaclglkaaGreatB27
import Derived.Test.YtamimdlaclglkaaGreatB18
import Derived.Laws.Cover1
import Derived.RegionTactic
import Derived.ChangeAlike
import Derived.Test.YtamimdlaclglkaaGreatB25
namespace Go.Proofs.YtamimdlaclglkaaGreat
set_option linter.unusedVariables false
set_option linter.unusedSimpArgs false
set_option linter.unnecessarySimpa false
set_option maxRecDepth 100000
open Go.RowKit
theorem cnt_lt {l : List Se} (h : RiseS l) {i : Nat} {x : Se} (hx : l[i]? = some x) : cntP (ltC x.client) l = i := by
  refine cntP_at _ l i (by have := (List.getElem?_eq_some_iff.1 hx).1; omega) (fun m a hm ha => ?_) (fun m a hm ha => ?_)
  · have := pw_at h hm ha hx
    simpa using this
  · rcases Nat.lt_or_ge i m with h1 | h1
    · have := pw_at h h1 hx ha
      simp; omega
    · obtain rfl : i = m := by omega
      rw [hx] at ha
      cases ha
      simp
theorem sown_client (l : List Se) (c : Int) : (sown l c).client = c := by
  unfold sown
  split
  · split
    · assumption
    · rfl
  · rfl
theorem sat_some {l : List Se} (h : RiseS l) {i : Nat} {x : Se} (hx : l[i]? = some x) : sat l x.client = (i, true) := by
  unfold sat
  rw [cnt_lt h hx, hx]
  simp
theorem sat_none {l : List Se} {c : Int} (h : ∀ (i : Nat) (x : Se), l[i]? = some x → x.client ≠ c) : sat l c = (cntP (ltC c) l, false) := by
  unfold sat
  cases hx : l[cntP (ltC c) l]? with
  | none => rfl
  | some x => simp [h _ x hx]
/-- a client has a session, or none -/
theorem has_or (l : List Se) (c : Int) : (∃ (i : Nat) (x : Se), l[i]? = some x ∧ x.client = c) ∨ ∀ (i : Nat) (x : Se), l[i]? = some x → x.client ≠ c := by
  by_cases h : ∃ (i : Nat) (x : Se), l[i]? = some x ∧ x.client = c
  · exact .inl h
  · exact .inr fun i x hx he => h ⟨i, x, hx, he⟩
theorem set_at {l : List Se} {i j : Nat} {x y : Se} (hi : i < l.length) : (l.set i x)[j]? = some y ↔ (j = i ∧ y = x) ∨ (j ≠ i ∧ l[j]? = some y) := by
  rw [List.getElem?_set]
  by_cases h : i = j
  · subst h
    simp [hi, eq_comm]
  · simp [h, Ne.symm h]
theorem rise_set {l : List Se} (h : RiseS l) {i : Nat} {x y : Se} (hx : l[i]? = some x) (hc : y.client = x.client) : RiseS (l.set i y) := by
  have hi := (List.getElem?_eq_some_iff.1 hx).1
  unfold RiseS
  rw [List.pairwise_iff_getElem]
  intro a b ha hb hab
  have h1 := List.getElem?_eq_getElem ha
  have h2 := List.getElem?_eq_getElem hb
  rcases (set_at hi).1 h1 with ⟨e1, e2⟩ | ⟨e1, e2⟩
  · rcases (set_at hi).1 h2 with ⟨f1, f2⟩ | ⟨f1, f2⟩
    · omega
    · subst e1
      have := pw_at h hab hx f2
      rw [e2, hc]
      exact this
  · rcases (set_at hi).1 h2 with ⟨f1, f2⟩ | ⟨f1, f2⟩
    · subst f1
      have := pw_at h hab e2 hx
      rw [f2, hc]
      exact this
    · exact pw_at h hab e2 f2
theorem ins_at {α : Type} {l : List α} {n j : Nat} {x y : α} (hn : n ≤ l.length) : (l.take n ++ x :: l.drop n)[j]? = some y ↔ (j < n ∧ l[j]? = some y) ∨ (j = n ∧ y = x) ∨ (n < j ∧ l[j - 1]? = some y) := by
  have hl : (l.take n).length = n := by simp; omega
  rcases Nat.lt_trichotomy j n with h | h | h
  · rw [List.getElem?_append_left (by omega), List.getElem?_take_of_lt h]
    constructor
    · exact fun h1 => .inl ⟨h, h1⟩
    · rintro (⟨_, h1⟩ | ⟨h1, _⟩ | ⟨h1, _⟩)
      · exact h1
      · omega
      · omega
  · subst h
    rw [List.getElem?_append_right (by omega), hl, Nat.sub_self]
    simp [eq_comm]
  · rw [List.getElem?_append_right (by omega), hl, show j - n = (j - n - 1) + 1 by omega, List.getElem?_cons_succ, List.getElem?_drop, show n + (j - n - 1) = j - 1 by omega]
    constructor
    · exact fun h1 => .inr (.inr ⟨h, h1⟩)
    · rintro (⟨h1, _⟩ | ⟨h1, _⟩ | ⟨_, h1⟩)
      · omega
      · omega
      · exact h1
theorem cntP_true {α : Type} (p : α → Bool) : ∀ (l : List α) (i : Nat) (x : α), i < cntP p l → l[i]? = some x → p x = true
  | [], _, _, _, h => by simp at h
  | a :: l, i, x, hi, hx => by
    unfold cntP at hi
    by_cases ha : p a = true
    · rw [List.takeWhile_cons, if_pos ha] at hi
      cases i with
      | zero => simp at hx; subst hx; exact ha
      | succ i => exact cntP_true p l i x (by unfold cntP; simpa using hi) (by simpa using hx)
    · rw [List.takeWhile_cons, if_neg ha] at hi
      simp at hi
theorem cntP_stop {α : Type} (p : α → Bool) : ∀ (l : List α) (x : α), l[cntP p l]? = some x → p x = false
  | [], _, h => by simp at h
  | a :: l, x, hx => by
    unfold cntP at hx
    by_cases ha : p a = true
    · rw [List.takeWhile_cons, if_pos ha] at hx
      exact cntP_stop p l x (by unfold cntP; simpa using hx)
    · rw [List.takeWhile_cons, if_neg ha] at hx
      simp at hx
      subst hx
      simpa using ha
theorem Mono.stop {α : Type} {p : α → Bool} {l : List α} (h : Mono p l) {i : Nat} {x : α} (hi : cntP p l ≤ i) (hx : l[i]? = some x) : p x = false := by
  cases hp : p x with
  | false => rfl
  | true =>
    have h1 := (List.getElem?_eq_some_iff.1 hx).1
    have h2 := List.getElem?_eq_getElem (show cntP p l < l.length by omega)
    have := h _ _ _ _ hi h2 hx hp
    rw [cntP_stop p l _ h2] at this
    cases this
theorem rise_ins {l : List Se} (h : RiseS l) {x : Se} (hne : ∀ (i : Nat) (y : Se), l[i]? = some y → y.client ≠ x.client) : RiseS (l.take (cntP (ltC x.client) l) ++ x :: l.drop (cntP (ltC x.client) l)) := by
  have hn := cntP_le (ltC x.client) l
  unfold RiseS
  rw [List.pairwise_iff_getElem]
  intro a b ha hb hab
  have h1 := (ins_at hn).1 (List.getElem?_eq_getElem ha)
  have h2 := (ins_at hn).1 (List.getElem?_eq_getElem hb)
  have lo : ∀ (j : Nat) (y : Se), j < cntP (ltC x.client) l → l[j]? = some y → y.client < x.client := fun j y hj hy => by simpa using cntP_true _ l j y hj hy
  have hi : ∀ (j : Nat) (y : Se), cntP (ltC x.client) l ≤ j → l[j]? = some y → x.client < y.client := fun j y hj hy => by
    have h3 := (h.mono x.client).stop hj hy
    have h4 := hne j y hy
    simp at h3
    omega
  generalize (l.take (cntP (ltC x.client) l) ++ x :: l.drop (cntP (ltC x.client) l))[a] = A at *
  generalize (l.take (cntP (ltC x.client) l) ++ x :: l.drop (cntP (ltC x.client) l))[b] = B at *
  generalize cntP (ltC x.client) l = n at *
  rcases h1 with ⟨e1, e2⟩ | ⟨e1, e2⟩ | ⟨e1, e2⟩ <;> rcases h2 with ⟨f1, f2⟩ | ⟨f1, f2⟩ | ⟨f1, f2⟩
  · exact pw_at h hab e2 f2
  · rw [f2]; exact lo _ _ e1 e2
  · exact pw_at h (by omega) e2 f2
  · omega
  · omega
  · rw [e2]; exact hi _ _ (by omega) f2
  · omega
  · omega
  · exact pw_at h (by omega) e2 f2
theorem swith_rise {l : List Se} (h : RiseS l) (x : Se) : RiseS (swith l x) := by
  unfold swith
  rcases has_or l x.client with ⟨i, y, hy, hc⟩ | hn
  · rw [← hc, sat_some h hy]
    exact rise_set h hy hc.symm
  · rw [sat_none hn]
    exact rise_ins h hn
end Go.Proofs.YtamimdlaclglkaaGreat
namespace Go.Proofs.YtamimdlaclglkaaGreat
set_option linter.unusedVariables false
set_option linter.unusedSimpArgs false
set_option linter.unnecessarySimpa false
set_option maxRecDepth 100000
open Go.RowKit
theorem riseD_ins {l : List Dn} (h : RiseD l) {x : Dn} (hne : ∀ (i : Nat) (y : Dn), l[i]? = some y → y.seq ≠ x.seq) : RiseD (l.take (cntP (ltQ x.seq) l) ++ x :: l.drop (cntP (ltQ x.seq) l)) := by
  have hn := cntP_le (ltQ x.seq) l
  unfold RiseD
  rw [List.pairwise_iff_getElem]
  intro a b ha hb hab
  have h1 := (ins_at hn).1 (List.getElem?_eq_getElem ha)
  have h2 := (ins_at hn).1 (List.getElem?_eq_getElem hb)
  have lo : ∀ (j : Nat) (y : Dn), j < cntP (ltQ x.seq) l → l[j]? = some y → y.seq < x.seq := fun j y hj hy => by simpa using cntP_true _ l j y hj hy
  have hi : ∀ (j : Nat) (y : Dn), cntP (ltQ x.seq) l ≤ j → l[j]? = some y → x.seq < y.seq := fun j y hj hy => by
    have h3 := (h.mono x.seq).stop hj hy
    have h4 := hne j y hy
    simp at h3
    omega
  generalize (l.take (cntP (ltQ x.seq) l) ++ x :: l.drop (cntP (ltQ x.seq) l))[a] = A at *
  generalize (l.take (cntP (ltQ x.seq) l) ++ x :: l.drop (cntP (ltQ x.seq) l))[b] = B at *
  generalize cntP (ltQ x.seq) l = n at *
  rcases h1 with ⟨e1, e2⟩ | ⟨e1, e2⟩ | ⟨e1, e2⟩ <;> rcases h2 with ⟨f1, f2⟩ | ⟨f1, f2⟩ | ⟨f1, f2⟩
  · exact pw_at h hab e2 f2
  · rw [f2]; exact lo _ _ e1 e2
  · exact pw_at h (by omega) e2 f2
  · omega
  · omega
  · rw [e2]; exact hi _ _ (by omega) f2
  · omega
  · omega
  · exact pw_at h (by omega) e2 f2
theorem dput_rise {d : List Dn} (h : RiseD d) {x : Dn} (hne : ∀ y ∈ d, y.seq ≠ x.seq) : RiseD (dput d x) := riseD_ins h fun _ y hy => hne y (List.mem_of_getElem? hy)
theorem dput_mem {d : List Dn} {x y : Dn} (h : y ∈ dput d x) : y = x ∨ y ∈ d := by
  unfold dput at h
  rcases List.mem_append.1 h with h | h
  · exact .inr (List.mem_of_mem_take h)
  · rcases List.mem_cons.1 h with h | h
    · exact .inl h
    · exact .inr (List.mem_of_mem_drop h)
theorem swith_mem {l : List Se} {x y : Se} (h : y ∈ swith l x) : y = x ∨ y ∈ l := by
  unfold swith at h
  split at h
  · rcases List.mem_or_eq_of_mem_set h with h | h
    · exact .inr h
    · exact .inl h
  · rcases List.mem_append.1 h with h | h
    · exact .inr (List.mem_of_mem_take h)
    · rcases List.mem_cons.1 h with h | h
      · exact .inl h
      · exact .inr (List.mem_of_mem_drop h)
/-- a session whose kept ones lie in the window -/
def InWin (x : Se) : Prop := RiseD x.done ∧ ∀ d ∈ x.done, 1 ≤ d.seq ∧ x.high - 4 < d.seq ∧ d.seq ≤ x.high
theorem InWin.len {x : Se} (h : InWin x) : x.done.length ≤ 4 := by
  rcases Nat.lt_or_ge 4 x.done.length with h1 | h1
  · have g : ∀ (i : Nat) (hi : i < x.done.length), x.done[i]? = some x.done[i] := fun i hi => List.getElem?_eq_getElem hi
    have e1 := pw_at h.1 (show 0 < 1 by decide) (g 0 (by omega)) (g 1 (by omega))
    have e2 := pw_at h.1 (show 1 < 2 by decide) (g 1 (by omega)) (g 2 (by omega))
    have e3 := pw_at h.1 (show 2 < 3 by decide) (g 2 (by omega)) (g 3 (by omega))
    have e4 := pw_at h.1 (show 3 < 4 by decide) (g 3 (by omega)) (g 4 (by omega))
    have f0 := (h.2 x.done[0] (List.getElem_mem _)).2.1
    have f4 := (h.2 x.done[4] (List.getElem_mem _)).2.2
    omega
  · exact h1
theorem sown_win {l : List Se} (h : ∀ x ∈ l, InWin x) (c : Int) : InWin (sown l c) := by
  unfold sown
  split
  · rename_i s hs
    split
    · exact h s (List.mem_of_getElem? hs)
    · exact ⟨List.Pairwise.nil, by simp⟩
  · exact ⟨List.Pairwise.nil, by simp⟩
theorem skeep_win {own : Se} {q : Int} {a : An} (h : InWin own) (hq : 1 ≤ q) (hs : stale q own.high = false) : InWin (skeep own q a) := by
  have hH : stale q (max own.high q) = false := by
    unfold stale at *
    simp at *
    omega
  constructor
  · refine dput_rise (h.1.filter _) fun y hy => ?_
    have := (List.mem_filter.1 hy).2
    intro e
    simp only at e
    simp [e] at this
  · intro d hd
    show 1 ≤ d.seq ∧ max own.high q - 4 < d.seq ∧ d.seq ≤ max own.high q
    rcases dput_mem hd with rfl | hd
    · refine ⟨hq, ?_, by show q ≤ _; omega⟩
      show max own.high q - 4 < q
      unfold stale at hH
      simp at hH
      omega
    · obtain ⟨h1, h2⟩ := List.mem_filter.1 hd
      obtain ⟨k1, k2, k3⟩ := h.2 d h1
      have h3 : stale d.seq (max own.high q) = false := by simp at h2; exact h2.2
      refine ⟨k1, ?_, by omega⟩
      unfold stale at h3
      simp at h3
      omega
end Go.Proofs.YtamimdlaclglkaaGreat
namespace Go.Proofs.YtamimdlaclglkaaGreat
set_option linter.unusedVariables false
set_option linter.unusedSimpArgs false
set_option linter.unnecessarySimpa false
set_option maxRecDepth 100000
open Go.RowKit
end Go.Proofs.YtamimdlaclglkaaGreat
namespace Go.Proofs.YtamimdlaclglkaaGreat
set_option linter.unusedVariables false
set_option linter.unusedSimpArgs false
set_option linter.unnecessarySimpa false
set_option maxRecDepth 100000
open Go.RowKit
end Go.Proofs.YtamimdlaclglkaaGreat
namespace Go.Proofs.YtamimdlaclglkaaGreat
set_option linter.unusedVariables false
set_option linter.unusedSimpArgs false
set_option linter.unnecessarySimpa false
set_option maxRecDepth 100000
open Go.RowKit
end Go.Proofs.YtamimdlaclglkaaGreat
namespace Go.Proofs.YtamimdlaclglkaaGreat
set_option linter.unusedVariables false
set_option linter.unusedSimpArgs false
set_option linter.unnecessarySimpa false
set_option maxRecDepth 100000
open Go.RowKit
theorem RetDo.at {X : Avoid} {w w' : World} {e : Ending} {t : St} {a : An} (h : RetDo X w w' e (t, a)) : ∃ (At : Option Addr) (ct : Nat) (Au : Option Addr) (cu : Nat),
    e = .returned (.tuple #[.agg #[.int .u64 t.now, .int .u64 t.count, .slice At t.links.length ct, .slice Au t.sess.length cu], .agg #[.int .i64 a.err, str a.text]]) ∧
    stE.rep w' X [.int .u64 t.now, .int .u64 t.count, .slice At t.links.length ct, .slice Au t.sess.length cu] t ∧ Ext w w' := by
  obtain ⟨t', a', A1, c1, A2, c2, h1, h2, h3, h4⟩ := h
  obtain ⟨rfl, rfl⟩ := Prod.mk.inj h1.out
  exact ⟨A1, c1, A2, c2, h2, h3, h4⟩
/-! plain laws -/
theorem LInv.name_len {s : St} (h : LInv s) {x : Ln} (hx : x ∈ s.links) : x.name.length ≤ 12 := by
  rcases h.names x hx with ⟨k, -, -, e⟩ | ⟨-, e⟩
  · rw [e, code3_len]; omega
  · exact e
end Go.Proofs.YtamimdlaclglkaaGreat
namespace Go.Proofs.YtamimdlaclglkaaGreat
set_option linter.unusedVariables false
set_option linter.unusedSimpArgs false
set_option linter.unnecessarySimpa false
set_option maxRecDepth 100000
open Go.RowKit
def sapply (s : St) (c : Cm) : St × An :=
  if c.kind = 0 then (s, ⟨0, []⟩)
  else if (ask s c.client c.seq).2 = true then (s, (ask s c.client c.seq).1)
  else (keep (ldo s c).1 c.client c.seq (ldo s c).2, (ldo s c).2)
def sall (s : St) : List Cm → St × List An
  | [] => (s, [])
  | c :: l => ((sall (sapply s c).1 l).1, (sapply s c).2 :: (sall (sapply s c).1 l).2)
theorem sall_snoc (s : St) (c : Cm) : ∀ l : List Cm, ∀ s, sall s (l ++ [c]) = ((sapply (sall s l).1 c).1, (sall s l).2 ++ [(sapply (sall s l).1 c).2])
  | [], s => rfl
  | d :: l, s => by
    rw [List.cons_append]
    unfold sall
    rw [sall_snoc s c l]
    rfl
/-- states that commands leave -/
structure SInv (s : St) : Prop where
  links : LInv s
  rise : RiseS s.sess
  win : ∀ x ∈ s.sess, InWin x ∧ 0 ≤ x.client ∧ x.client < 4 ∧ 0 ≤ x.high ∧ x.high ≤ 18446744073709551615
  texts : ∀ x ∈ s.sess, ∀ d ∈ x.done, d.an.text.length ≤ 1000000 ∧ 0 ≤ d.an.err ∧ d.an.err ≤ 16
theorem sinv0 : SInv ⟨0, 0, [], []⟩ := ⟨linv0, List.Pairwise.nil, by simp, by simp⟩
theorem SInv.len {s : St} (h : SInv s) : s.sess.length ≤ 4 := by
  rcases Nat.lt_or_ge 4 s.sess.length with h1 | h1
  · have g : ∀ (i : Nat) (hi : i < s.sess.length), s.sess[i]? = some s.sess[i] := fun i hi => List.getElem?_eq_getElem hi
    have e1 := pw_at h.rise (show 0 < 1 by decide) (g 0 (by omega)) (g 1 (by omega))
    have e2 := pw_at h.rise (show 1 < 2 by decide) (g 1 (by omega)) (g 2 (by omega))
    have e3 := pw_at h.rise (show 2 < 3 by decide) (g 2 (by omega)) (g 3 (by omega))
    have e4 := pw_at h.rise (show 3 < 4 by decide) (g 3 (by omega)) (g 4 (by omega))
    have f0 := (h.win s.sess[0] (List.getElem_mem _)).2.1
    have f4 := (h.win s.sess[4] (List.getElem_mem _)).2.2.1
    omega
  · exact h1
theorem SInv.done {s : St} (h : SInv s) : ∀ x ∈ s.sess, RiseD x.done ∧ x.done.length ≤ 4 := fun x hx => ⟨(h.win x hx).1.1, (h.win x hx).1.len⟩
theorem LInv.sess {s : St} (h : LInv s) (l : List Se) : LInv ⟨s.now, s.count, s.links, l⟩ := ⟨h.rise, h.names, h.urls, h.tills, h.len, h.now0, h.now1, h.count0, h.count1⟩
theorem ldo_an {s : St} (h : LInv s) {c : Cm} (hn : c.name.length ≤ 1000000) : (ldo s c).2.text.length ≤ 1000000 ∧ 0 ≤ (ldo s c).2.err ∧ (ldo s c).2.err ≤ 16 := by
  have hm : 0 ≤ lmay c s.now ∧ lmay c s.now ≤ 16 := by unfold lmay; repeat' split <;> omega
  have hx : ∀ x ∈ s.links, x.name.length ≤ 1000000 ∧ x.url.length ≤ 1000000 := fun x hx => ⟨Nat.le_trans (h.name_len hx) (by decide), Nat.le_trans (h.urls x hx) (by decide)⟩
  unfold ldo ldoW
  split
  · unfold ltime; split <;> simp
  · split
    · unfold lmakeW
      split
      · simp; omega
      · split
        · rename_i x hf
          exact ⟨(hx x (find_map_eq hf).1).1, by simp, by simp⟩
        · split
          · simp
          · simp [code3_len]
    · split
      · unfold lnameW
        split
        · simp
        · split
          · simp; omega
          · split
            · split
              · exact ⟨hn, by simp, by simp⟩
              · simp
            · split
              · simp
              · exact ⟨hn, by simp, by simp⟩
      · split
        · unfold lfindW
          split
          · rename_i x hf
            exact ⟨(hx x (lfind_mem hf)).2, by simp, by simp⟩
          · simp
        · simp
theorem ask_new {s : St} {c q : Int} (h : (ask s c q).2 = false) : 0 ≤ c ∧ c < 4 ∧ q ≠ 0 ∧ stale q (sown s.sess c).high = false ∧ kept (sown s.sess c).done q = none := by
  unfold ask at h
  split at h
  · cases h
  · rename_i h0
    split at h
    · cases h
    · rename_i hk
      split at h
      · cases h
      · rename_i hs
        exact ⟨by omega, by omega, by omega, by simpa using hs, hk⟩
theorem sown_mem {l : List Se} {c : Int} {x : Se} (h : x = sown l c) : x ∈ l ∨ x = ⟨c, 0, []⟩ := by
  unfold sown at h
  split at h
  · rename_i s hs
    split at h
    · exact .inl (h ▸ List.mem_of_getElem? hs)
    · exact .inr h
  · exact .inr h
theorem SInv.step {s : St} (h : SInv s) {c : Cm} (ht : 0 ≤ c.till) (hq : 0 ≤ c.seq ∧ c.seq ≤ 18446744073709551615) (hn : c.name.length ≤ 1000000) : SInv (sapply s c).1 := by
  unfold sapply
  split
  · exact h
  · split
    · exact h
    · rename_i ha
      obtain ⟨h0, h4, hq0, hst, -⟩ := ask_new (by simpa using ha)
      have hs : (ldo s c).1.sess = s.sess := ldo_sess s c
      have han := ldo_an h.links (c := c) hn
      refine ⟨?_, ?_, ?_, ?_⟩
      · exact (h.links.step ht).sess _
      · show RiseS (swith (ldo s c).1.sess _)
        rw [hs]
        exact swith_rise h.rise _
      · intro x hx
        have hx' : x ∈ swith s.sess (skeep (sown s.sess c.client) c.seq (ldo s c).2) := by rw [← hs]; exact hx
        rcases swith_mem hx' with rfl | hx'
        · have hc := sown_client s.sess c.client
          have hh : 0 ≤ (sown s.sess c.client).high ∧ (sown s.sess c.client).high ≤ 18446744073709551615 := by
            rcases sown_mem (l := s.sess) (c := c.client) rfl with h1 | h1
            · exact (h.win _ h1).2.2.2
            · rw [h1]; simp
          refine ⟨skeep_win (sown_win (fun x hx => (h.win x hx).1) _) (by omega) hst, ?_, ?_, ?_, ?_⟩
          · show 0 ≤ (sown s.sess c.client).client; omega
          · show (sown s.sess c.client).client < 4; omega
          · show 0 ≤ max _ _; omega
          · show max _ _ ≤ _; omega
        · exact h.win x hx'
      · intro x hx d hd
        have hx' : x ∈ swith s.sess (skeep (sown s.sess c.client) c.seq (ldo s c).2) := by rw [← hs]; exact hx
        rcases swith_mem hx' with rfl | hx'
        · rcases dput_mem hd with rfl | hd
          · exact han
          · have hd' := (List.mem_filter.1 hd).1
            rcases sown_mem (l := s.sess) (c := c.client) rfl with h1 | h1
            · exact h.texts _ h1 d hd'
            · rw [h1] at hd'; cases hd'
        · exact h.texts x hx' d hd
end Go.Proofs.YtamimdlaclglkaaGreat
namespace Go.Proofs.YtamimdlaclglkaaGreat
set_option linter.unusedVariables false
set_option linter.unusedSimpArgs false
set_option linter.unnecessarySimpa false
set_option maxRecDepth 100000
open Go.RowKit
abbrev XQ (X : Avoid) (g : Nat) : Avoid := fun k => X k ∨ (g ≤ k ∧ k ≤ g + 1 + 1 + 1)
theorem four_al (W : World) (T1 T2 T3 T4 : TypeId) (c1 c2 c3 c4 : Array Value) : Blk ((((W.alloc (.cells c1 T1)).alloc (.cells c2 T2)).alloc (.cells c3 T3)).alloc (.cells c4 T4)) W.heap.size T1 c1 ∧ Blk ((((W.alloc (.cells c1 T1)).alloc (.cells c2 T2)).alloc (.cells c3 T3)).alloc (.cells c4 T4)) (W.heap.size + 1) T2 c2 ∧
    Blk ((((W.alloc (.cells c1 T1)).alloc (.cells c2 T2)).alloc (.cells c3 T3)).alloc (.cells c4 T4)) (W.heap.size + 1 + 1) T3 c3 ∧ Blk ((((W.alloc (.cells c1 T1)).alloc (.cells c2 T2)).alloc (.cells c3 T3)).alloc (.cells c4 T4)) (W.heap.size + 1 + 1 + 1) T4 c4 ∧ Ext W ((((W.alloc (.cells c1 T1)).alloc (.cells c2 T2)).alloc (.cells c3 T3)).alloc (.cells c4 T4)) := by
  obtain ⟨h1, h2, h3, hx⟩ := three_al W T1 T2 T3 c1 c2 c3
  have h4 := Blk.new (((W.alloc (.cells c1 T1)).alloc (.cells c2 T2)).alloc (.cells c3 T3)) T4 c4
  rw [show (((W.alloc (.cells c1 T1)).alloc (.cells c2 T2)).alloc (.cells c3 T3)).heap.size = W.heap.size + 1 + 1 + 1 by simp] at h4
  exact ⟨h1.alloc _, h2.alloc _, h3.alloc _, h4, hx.alloc' _⟩
theorem fin_do {X : Avoid} {w W : World} {g : Nat} {s : St} {v0 v1 v2 v3 : Value} {e : Int} {tx : Bytes} (hR : Blk W (g + 1 + 1) 28 #[.int .u64 0, .int .u64 0, .slice none 0 0, .slice none 0 0]) (hA : Blk W (g + 1 + 1 + 1) 33 #[.int .i64 0, str []])
    (hx : Ext w W) (hg : w.heap.size ≤ g) (hr : stE.rep W (XQ X g) [v0, v1, v2, v3] s) :
    Blk ((((((W.setCell ⟨g + 1 + 1, 0, none⟩ v0).setCell ⟨g + 1 + 1, 1, none⟩ v1).setCell ⟨g + 1 + 1, 2, none⟩ v2).setCell ⟨g + 1 + 1, 3, none⟩ v3).setCell ⟨g + 1 + 1 + 1, 0, none⟩ (.int .i64 e)).setCell ⟨g + 1 + 1 + 1, 1, none⟩ (str tx)) (g + 1 + 1) 28 #[v0, v1, v2, v3] ∧
    Blk ((((((W.setCell ⟨g + 1 + 1, 0, none⟩ v0).setCell ⟨g + 1 + 1, 1, none⟩ v1).setCell ⟨g + 1 + 1, 2, none⟩ v2).setCell ⟨g + 1 + 1, 3, none⟩ v3).setCell ⟨g + 1 + 1 + 1, 0, none⟩ (.int .i64 e)).setCell ⟨g + 1 + 1 + 1, 1, none⟩ (str tx)) (g + 1 + 1 + 1) 33 #[.int .i64 e, str tx] ∧
    stE.rep ((((((W.setCell ⟨g + 1 + 1, 0, none⟩ v0).setCell ⟨g + 1 + 1, 1, none⟩ v1).setCell ⟨g + 1 + 1, 2, none⟩ v2).setCell ⟨g + 1 + 1, 3, none⟩ v3).setCell ⟨g + 1 + 1 + 1, 0, none⟩ (.int .i64 e)).setCell ⟨g + 1 + 1 + 1, 1, none⟩ (str tx)) X [v0, v1, v2, v3] s ∧
    Ext w ((((((W.setCell ⟨g + 1 + 1, 0, none⟩ v0).setCell ⟨g + 1 + 1, 1, none⟩ v1).setCell ⟨g + 1 + 1, 2, none⟩ v2).setCell ⟨g + 1 + 1, 3, none⟩ v3).setCell ⟨g + 1 + 1 + 1, 0, none⟩ (.int .i64 e)).setCell ⟨g + 1 + 1 + 1, 1, none⟩ (str tx)) := by
  have h1 := Blk.four hR v0 v1 v2 v3
  have hcg : Chg [g + 1 + 1] W _ := (Chg.refl [g + 1 + 1] W).four (g := g + 1 + 1) (by simp) v0 v1 v2 v3
  have h2 := Blk.two_ (hA.chg hcg (by simp)) (.int .i64 e) (str tx)
  have hc2 : Chg [g + 1 + 1 + 1] _ _ := (Chg.refl [g + 1 + 1 + 1] ((((W.setCell ⟨g + 1 + 1, 0, none⟩ v0).setCell ⟨g + 1 + 1, 1, none⟩ v1).setCell ⟨g + 1 + 1, 2, none⟩ v2).setCell ⟨g + 1 + 1, 3, none⟩ v3)).two_ (g := g + 1 + 1 + 1) (by simp) (.int .i64 e) (str tx)
  exact ⟨h1.chg hc2 (by simp), h2, stE.mono (stE.chg (stE.chg hr hcg (fun j hj _ => by have := List.mem_singleton.1 hj; exact .inr (by omega))) hc2 (fun j hj _ => by have := List.mem_singleton.1 hj; exact .inr (by omega))) (fun _ _ h => .inl h), (hx.then_ hcg (by simp; omega)).then_ hc2 (by simp; omega)⟩
end Go.Proofs.YtamimdlaclglkaaGreat
