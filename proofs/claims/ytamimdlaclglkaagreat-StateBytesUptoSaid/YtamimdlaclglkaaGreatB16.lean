/- A part of the proof of 'StateBytes'. -/
import Derived.Test.YtamimdlaclglkaaGreatB15
import Derived.Deep.QuietTactic
import Derived.BigQuiet
import Derived.Test.YtamimdlaclglkaaGreatB5
import Derived.Test.YtamimdlaclglkaaGreatB10
import Derived.Sort.Walk0
namespace Go.Proofs.YtamimdlaclglkaaGreat
set_option linter.unusedVariables false
set_option linter.unusedSimpArgs false
set_option linter.unnecessarySimpa false
set_option maxRecDepth 100000
open Go.RowKit
theorem dig_sg : ∀ d : Nat, d < 62 → dig (sg d) = (d : Int) := by decide +kernel
def code3 (n : Nat) : Bytes := [sg (n / 3844 % 62), sg (n / 62 % 62), sg (n % 62)]
theorem ocode_lt (n : Nat) (h : n < 238328) : ocode n = (code3 n, 0) := by unfold ocode; rw [if_neg (by omega)]; rfl
theorem onfold_code3 (n : Nat) (h : n < 238328) : onfold (code3 n) 0 = some (n : Int) := by
  have h1 : n / 3844 % 62 < 62 := Nat.mod_lt _ (by omega)
  have h2 : n / 62 % 62 < 62 := Nat.mod_lt _ (by omega)
  have h3 : n % 62 < 62 := Nat.mod_lt _ (by omega)
  simp only [code3, onfold, dig_sg _ h1, dig_sg _ h2, dig_sg _ h3]
  rw [if_neg (by omega), if_neg (by omega), if_neg (by omega)]
  congr 1
  omega
theorem onum_code3 (n : Nat) (h : n < 238328) : onum (code3 n) = ((n : Int), 0) := by
  unfold onum
  rw [onfold_code3 n h]
  exact if_pos rfl
end Go.Proofs.YtamimdlaclglkaaGreat
namespace Go.Proofs.YtamimdlaclglkaaGreat
set_option linter.unusedVariables false
set_option linter.unusedSimpArgs false
set_option linter.unnecessarySimpa false
set_option maxRecDepth 100000
open Go.RowKit
abbrev ltN (n : Bytes) (l : Ln) : Bool := Op.bytesLess l.name n
def lfind (l : List Ln) (n : Bytes) : Option Ln := match l[cntP (ltN n) l]? with
  | some x => if x.name = n then some x else none
  | none => none
def lkput (l : List Ln) (x : Ln) : List Ln := l.take (cntP (ltN x.name) l) ++ x :: l.drop (cntP (ltN x.name) l)
def lwith (l : List Ln) (x : Ln) : List Ln := if (lfind l x.name).isSome = true then l.set (cntP (ltN x.name) l) x else lkput l x
def live (now : Int) (x : Ln) : Bool := decide (x.till = 0) || decide (now < x.till)
def lmay (c : Cm) (now : Int) : Int := if c.url = [] ∨ 400 < c.url.length ∨ 1099511627776 < c.till then 1 else if c.till ≠ 0 ∧ c.till ≤ now then 13 else 0
def lown (c : Cm) (x : Ln) : Bool := decide (x.url = c.url) && decide (x.till = c.till)
def isAlias (n : Bytes) : Bool := alias ⟨n.toArray⟩
/-- parts that the program and the document share; W: how a link is put -/
def lmakeW (W : List Ln → Ln → List Ln) (s : St) (c : Cm) : St × An :=
  if lmay c s.now ≠ 0 then (s, ⟨lmay c s.now, []⟩)
  else match s.links.find? (fun x => x.made && lown c x) with
    | some x => (s, ⟨0, x.name⟩)
    | none => if 238328 ≤ s.count ∨ 40 ≤ s.links.length then (s, ⟨12, []⟩)
      else (⟨s.now, s.count + 1, W s.links ⟨code3 s.count.toNat, c.url, c.till, true⟩, s.sess⟩, ⟨0, code3 s.count.toNat⟩)
def lnameW (F : List Ln → Bytes → Option Ln) (W : List Ln → Ln → List Ln) (s : St) (c : Cm) : St × An :=
  if isAlias c.name = false then (s, ⟨9, []⟩)
  else if lmay c s.now ≠ 0 then (s, ⟨lmay c s.now, []⟩)
  else match F s.links c.name with
    | some x => if lown c x = true then (s, ⟨0, c.name⟩) else (s, ⟨11, []⟩)
    | none => if 40 ≤ s.links.length then (s, ⟨12, []⟩) else (⟨s.now, s.count, W s.links ⟨c.name, c.url, c.till, false⟩, s.sess⟩, ⟨0, c.name⟩)
def ltime (s : St) (c : Cm) : St × An := if 1099511627776 < c.till then (s, ⟨1, []⟩) else (⟨max s.now c.till, s.count, s.links.filter (live (max s.now c.till)), s.sess⟩, ⟨0, []⟩)
def lfindW (F : List Ln → Bytes → Option Ln) (s : St) (c : Cm) : St × An := match F s.links c.name with
  | some x => (s, ⟨0, x.url⟩)
  | none => (s, ⟨10, []⟩)
def ldoW (F : List Ln → Bytes → Option Ln) (W : List Ln → Ln → List Ln) (s : St) (c : Cm) : St × An :=
  if c.kind = 4 then ltime s c else if c.kind = 1 then lmakeW W s c else if c.kind = 2 then lnameW F W s c else if c.kind = 3 then lfindW F s c else (s, ⟨1, []⟩)
/-- the program -/
abbrev ldo := ldoW lfind lwith
/-! order of names -/
theorem bl_irr (a : Bytes) : Op.bytesLess a a = false := by rw [bytesLess_eq]; simp
theorem bl_trans {a b c : Bytes} (h : Op.bytesLess a b = true) (k : Op.bytesLess b c = true) : Op.bytesLess a c = true := by
  rw [bytesLess_eq, decide_eq_true_eq] at *
  exact List.lt_trans h k
theorem bl_tri (a b : Bytes) : Op.bytesLess a b = true ∨ a = b ∨ Op.bytesLess b a = true := by
  simp only [bytesLess_eq, decide_eq_true_eq]
  by_cases h1 : a < b
  · exact .inl h1
  · by_cases h2 : b < a
    · exact .inr (.inr h2)
    · exact .inr (.inl (List.le_antisymm (List.not_lt.1 h2) (List.not_lt.1 h1)))
def RiseL (l : List Ln) : Prop := l.Pairwise fun a b => Op.bytesLess a.name b.name = true
theorem RiseL.mono {l : List Ln} (h : RiseL l) (n : Bytes) : Mono (ltN n) l := by
  intro i j a b hij ha hb hp
  rcases Nat.lt_or_ge i j with hlt | hge
  · exact bl_trans (pw_at h hlt ha hb) hp
  · obtain rfl : i = j := by omega
    rw [ha] at hb
    obtain rfl := Option.some.inj hb
    exact hp
theorem cntP_lo {α : Type} (p : α → Bool) : ∀ (l : List α) (m : Nat) (a : α), m < cntP p l → l[m]? = some a → p a = true
  | [], m, a, h, _ => by simp [cntP] at h
  | b :: l, m, a, h, ha => by
    unfold cntP at h
    rw [List.takeWhile_cons] at h
    split at h
    · rename_i hb
      cases m with
      | zero => simp at ha; rw [← ha]; exact hb
      | succ m => exact cntP_lo p l m a (by simpa [cntP] using h) (by simpa using ha)
    · simp at h
theorem cntP_at0 {α : Type} (p : α → Bool) : ∀ (l : List α) (a : α), l[cntP p l]? = some a → p a = false
  | [], a, h => by simp [cntP] at h
  | b :: l, a, h => by
    unfold cntP at h
    rw [List.takeWhile_cons] at h
    split at h
    · exact cntP_at0 p l a (by simpa [cntP] using h)
    · rename_i hb
      simp at h
      rw [← h]
      simpa using hb
theorem cntP_hi {α : Type} {p : α → Bool} {l : List α} (hm : Mono p l) (m : Nat) (a : α) (h : cntP p l ≤ m) (ha : l[m]? = some a) : p a = false := by
  have hl : cntP p l < l.length := Nat.lt_of_le_of_lt h (List.getElem?_eq_some_iff.1 ha).1
  have h0 := cntP_at0 p l _ (List.getElem?_eq_getElem hl)
  rcases Bool.eq_false_or_eq_true (p a) with h1 | h1
  · have h2 := hm _ _ _ _ h (List.getElem?_eq_getElem hl) ha h1
    rw [h2] at h0; cases h0
  · exact h1
theorem lfind_some {l : List Ln} {n : Bytes} {x : Ln} (h : lfind l n = some x) : x.name = n ∧ l[cntP (ltN n) l]? = some x := by
  unfold lfind at h
  split at h
  · rename_i y hy
    split at h
    · obtain rfl := Option.some.inj h
      exact ⟨by assumption, hy⟩
    · cases h
  · cases h
theorem lfind_mem {l : List Ln} {n : Bytes} {x : Ln} (h : lfind l n = some x) : x ∈ l := List.mem_of_getElem? (lfind_some h).2
theorem lfind_of {l : List Ln} (hr : RiseL l) {x : Ln} (hx : x ∈ l) : lfind l x.name = some x := by
  obtain ⟨m, hm⟩ := List.mem_iff_getElem?.1 hx
  have hlt : ¬ m < cntP (ltN x.name) l := fun h => by
    have := cntP_lo _ l m x h hm
    rw [ltN, bl_irr] at this; cases this
  have he : ¬ cntP (ltN x.name) l < m := fun h => by
    have hl : cntP (ltN x.name) l < l.length := Nat.lt_trans h (List.getElem?_eq_some_iff.1 hm).1
    have h1 := pw_at hr h (List.getElem?_eq_getElem hl) hm
    have h0 := cntP_at0 _ l _ (List.getElem?_eq_getElem hl)
    rw [ltN, h1] at h0; cases h0
  obtain rfl : m = cntP (ltN x.name) l := by omega
  unfold lfind
  rw [hm]
  simp
theorem lfind_none {l : List Ln} (hr : RiseL l) {n : Bytes} : lfind l n = none ↔ ∀ x ∈ l, x.name ≠ n := by
  constructor
  · intro h x hx e
    have := lfind_of hr hx
    rw [e, h] at this; cases this
  · intro h
    cases hf : lfind l n with
    | none => rfl
    | some x => exact absurd (lfind_some hf).1 (h x (lfind_mem hf))
theorem lwith_new {l : List Ln} {x : Ln} (h : lfind l x.name = none) : lwith l x = lkput l x := by unfold lwith; rw [h]; rfl
theorem lkput_mem {l : List Ln} {x y : Ln} : y ∈ lkput l x ↔ y = x ∨ y ∈ l := by
  unfold lkput
  rw [List.mem_append, List.mem_cons]
  constructor
  · rintro (h | h | h)
    · exact .inr (List.mem_of_mem_take h)
    · exact .inl h
    · exact .inr (List.mem_of_mem_drop h)
  · rintro (h | h)
    · exact .inr (.inl h)
    · rw [← List.take_append_drop (cntP (ltN x.name) l) l] at h
      rcases List.mem_append.1 h with h | h
      · exact .inl h
      · exact .inr (.inr h)
theorem lkput_rise {l : List Ln} (hr : RiseL l) {x : Ln} (h : lfind l x.name = none) : RiseL (lkput l x) := by
  unfold RiseL lkput
  rw [List.pairwise_append, List.pairwise_cons]
  refine ⟨hr.take, ⟨fun y hy => ?_, hr.drop⟩, fun a ha b hb => ?_⟩
  · obtain ⟨m, hm⟩ := List.mem_iff_getElem?.1 hy
    rw [List.getElem?_drop] at hm
    have h1 := cntP_hi (hr.mono x.name) _ y (Nat.le_add_right _ m) hm
    rcases bl_tri y.name x.name with h2 | h2 | h2
    · rw [ltN, h2] at h1; cases h1
    · exact absurd h2 ((lfind_none hr).1 h y (List.mem_of_getElem? hm))
    · exact h2
  · have h1 : Op.bytesLess a.name x.name = true := by
      obtain ⟨m, hm⟩ := List.mem_iff_getElem?.1 ha
      rw [List.getElem?_take] at hm
      split at hm
      · exact cntP_lo _ l m a (by assumption) hm
      · cases hm
    rcases List.mem_cons.1 hb with rfl | hb
    · exact h1
    · obtain ⟨m, hm⟩ := List.mem_iff_getElem?.1 hb
      rw [List.getElem?_drop] at hm
      have h2 := cntP_hi (hr.mono x.name) _ b (Nat.le_add_right _ m) hm
      rcases bl_tri b.name x.name with h3 | h3 | h3
      · rw [ltN, h3] at h2; cases h2
      · rw [h3]; exact h1
      · exact bl_trans h1 h3
theorem lkput_len (l : List Ln) (x : Ln) : (lkput l x).length = l.length + 1 := by
  unfold lkput
  have := cntP_le (ltN x.name) l
  simp
  omega
/-! states that commands leave -/
structure LInv (s : St) : Prop where
  rise : RiseL s.links
  names : ∀ x ∈ s.links, (∃ k : Nat, k < s.count.toNat ∧ k < 238328 ∧ x.name = code3 k) ∨ (4 ≤ x.name.length ∧ x.name.length ≤ 12)
  urls : ∀ x ∈ s.links, x.url.length ≤ 400
  tills : ∀ x ∈ s.links, 0 ≤ x.till ∧ x.till ≤ 1099511627776
  len : s.links.length ≤ 40
  now0 : 0 ≤ s.now
  now1 : s.now ≤ 1099511627776
  count0 : 0 ≤ s.count
  count1 : s.count ≤ 238328
theorem alias_len {n : Bytes} (h : isAlias n = true) : 4 ≤ n.length ∧ n.length ≤ 12 := by
  unfold isAlias alias at h
  obtain ⟨h4, h12, -⟩ := of_decide_eq_true h
  exact ⟨h4, h12⟩
theorem code3_len (k : Nat) : (code3 k).length = 3 := rfl
theorem code3_inj {a b : Nat} (ha : a < 238328) (hb : b < 238328) (h : code3 a = code3 b) : a = b := by
  have h1 := onum_code3 a ha
  rw [h, onum_code3 b hb] at h1
  have := congrArg Prod.fst h1
  simp only at this
  omega
theorem LInv.fresh {s : St} (h : LInv s) (hc : s.count < 238328) : lfind s.links (code3 s.count.toNat) = none := by
  rw [lfind_none h.rise]
  intro x hx e
  rcases h.names x hx with ⟨k, hk, hk2, hn⟩ | ⟨h4, -⟩
  · have := code3_inj (a := k) (b := s.count.toNat) hk2 (by have := h.count0; omega) (hn.symm.trans e)
    omega
  · rw [e, code3_len] at h4; omega
theorem lmay_zero {c : Cm} {now : Int} (h : lmay c now = 0) : c.url ≠ [] ∧ c.url.length ≤ 400 ∧ c.till ≤ 1099511627776 ∧ (c.till = 0 ∨ now < c.till) := by
  unfold lmay at h
  split at h
  · cases h
  · rename_i h1
    rw [not_or, not_or] at h1
    split at h
    · cases h
    · rename_i h2
      exact ⟨h1.1, by omega, by omega, by omega⟩
theorem find_map_eq {α : Type} {l : List α} {p : α → Bool} {x : α} (h : l.find? p = some x) : x ∈ l ∧ p x = true := ⟨List.mem_of_find?_eq_some h, List.find?_some h⟩
/-- a link more -/
theorem LInv.more {s : St} (h : LInv s) {x : Ln} {ct : Int} (hf : lfind s.links x.name = none) (hl : s.links.length < 40) (hc : s.count ≤ ct) (hc1 : ct ≤ 238328)
    (hn : (∃ k : Nat, k < ct.toNat ∧ k < 238328 ∧ x.name = code3 k) ∨ (4 ≤ x.name.length ∧ x.name.length ≤ 12)) (hu : x.url.length ≤ 400) (ht : 0 ≤ x.till ∧ x.till ≤ 1099511627776) : LInv ⟨s.now, ct, lkput s.links x, s.sess⟩ where
  rise := lkput_rise h.rise hf
  names y hy := by
    rcases lkput_mem.1 hy with rfl | hy
    · exact hn
    · rcases h.names y hy with ⟨k, hk, hk2, e⟩ | e
      · exact .inl ⟨k, by show k < ct.toNat; omega, hk2, e⟩
      · exact .inr e
  urls y hy := by
    rcases lkput_mem.1 hy with rfl | hy
    · exact hu
    · exact h.urls y hy
  tills y hy := by
    rcases lkput_mem.1 hy with rfl | hy
    · exact ht
    · exact h.tills y hy
  len := by show (lkput s.links x).length ≤ 40; rw [lkput_len]; omega
  now0 := h.now0
  now1 := h.now1
  count0 := by have := h.count0; show 0 ≤ ct; omega
  count1 := hc1
theorem LInv.time {s : St} (h : LInv s) {now : Int} (h0 : s.now ≤ now) (h1 : now ≤ 1099511627776) (p : Ln → Bool) : LInv ⟨now, s.count, s.links.filter p, s.sess⟩ where
  rise := List.Pairwise.filter p h.rise
  names y hy := h.names y (List.mem_filter.1 hy).1
  urls y hy := h.urls y (List.mem_filter.1 hy).1
  tills y hy := h.tills y (List.mem_filter.1 hy).1
  len := Nat.le_trans (List.length_filter_le _ _) h.len
  now0 := Int.le_trans h.now0 h0
  now1 := h1
  count0 := h.count0
  count1 := h.count1
theorem lmakeW_new (W : List Ln → Ln → List Ln) {s : St} {c : Cm} (h0 : lmay c s.now = 0) (h1 : s.links.find? (fun x => x.made && lown c x) = none) (h2 : ¬ (238328 ≤ s.count ∨ 40 ≤ s.links.length)) :
    lmakeW W s c = (⟨s.now, s.count + 1, W s.links ⟨code3 s.count.toNat, c.url, c.till, true⟩, s.sess⟩, ⟨0, code3 s.count.toNat⟩) := by
  unfold lmakeW
  rw [if_neg (by simpa using h0), h1]
  simp only
  rw [if_neg h2]
theorem LInv.step {s : St} (h : LInv s) {c : Cm} (hc : 0 ≤ c.till) : LInv (ldo s c).1 := by
  unfold ldo ldoW
  split
  · unfold ltime
    split
    · exact h
    · have := h.now1
      exact h.time (Int.le_max_left _ _) (by omega) _
  · split
    · unfold lmakeW
      split
      · exact h
      · rename_i hm
        obtain ⟨m1, m2, m3, m4⟩ := lmay_zero (Classical.not_not.1 hm)
        split
        · exact h
        · split
          · exact h
          · rename_i hn
            have hfr := h.fresh (by omega)
            have := h.count0
            rw [lwith_new hfr]
            exact h.more hfr (by omega) (by omega) (by omega) (.inl ⟨s.count.toNat, by omega, by omega, rfl⟩) m2 ⟨hc, m3⟩
    · split
      · unfold lnameW
        split
        · exact h
        · rename_i ha
          split
          · exact h
          · rename_i hm
            obtain ⟨m1, m2, m3, m4⟩ := lmay_zero (Classical.not_not.1 hm)
            split
            · split <;> exact h
            · split
              · exact h
              · rename_i hf hn
                rw [lwith_new hf]
                exact h.more hf (by omega) (Int.le_refl _) h.count1 (.inr (alias_len (by simpa using ha))) m2 ⟨hc, m3⟩
      · split
        · unfold lfindW
          split <;> exact h
        · exact h
theorem ldo_sess (s : St) (c : Cm) : (ldo s c).1.sess = s.sess := by
  unfold ldo ldoW ltime lmakeW lnameW lfindW
  repeat' split
  all_goals rfl
theorem linv0 : LInv ⟨0, 0, [], []⟩ := ⟨.nil, by simp, by simp, by simp, by simp, by simp, by simp, by simp, by simp⟩
end Go.Proofs.YtamimdlaclglkaaGreat
