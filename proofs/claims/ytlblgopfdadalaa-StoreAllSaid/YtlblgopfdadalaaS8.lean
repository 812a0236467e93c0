/- A part of the proof of 'StoreAll'. -/
import Derived.Orders
import Derived.Eval
import Derived.Tactics
namespace Go.Proofs.Ytlblgopfdadalaa.Rg
set_option linter.unusedVariables false
set_option linter.unusedSimpArgs false
set_option linter.unnecessarySimpa false
set_option maxRecDepth 100000
open Go
abbrev Spec := Value → World → Prop
def ev (ρ : Tmp → Value) : Operand → Value
  | .tmp t => ρ t
  | .const v => v
  | .global g => .pointer (some ⟨g, 0, none⟩)
  | .func f => .func (.func f) #[] #[]
theorem eval_ev (a : Act) : a.eval = ev (fun t => a.tmps.getD t undef) := by
  funext x
  cases x <;> rfl
/-- does the operation run? -/
def wants (ops : Array Oper) (o : Oper) (ρ : Tmp → Value) : Bool :=
  match o.guard with
  | none => true
  | some (j, b) =>
    match (ops[j]?).bind (·.dst) with
    | some t => match ρ t with
      | .bool x => x == b
      | _ => false
    | none => false
theorem wants_eq (ops : Array Oper) (o : Oper) (a : Act) : Region.wanted o (yielded ops a.tmps) = wants ops o (fun t => a.tmps.getD t undef) := by
  unfold Region.wanted wants
  cases o.guard with
  | none => rfl
  | some g =>
    obtain ⟨j, b⟩ := g
    simp only [yielded]
    cases (ops[j]?).bind (·.dst) with
    | none => rfl
    | some t =>
      simp only [Option.bind_some, Array.getD_eq_getD_getElem?]
      cases h : a.tmps[t]? with
      | none => simp [undef]
      | some v => cases v <;> simp
/-- one operation, by what its operands hold -/
def Step (P : Program) (ops : Array Oper) (o : Oper) (ρ : Tmp → Value) (W : World) (K : Value → World → Prop) : Prop :=
  if wants ops o ρ then
    match (execOp (ev ρ) o).run P W with
    | .ok (.value v) W' => K v W'
    | .ok .skip W' => K undef W'
    | .ok (.enter f args) W' => Calls P f args W' fun e W'' => ∃ v, e = .returned v ∧ K v W''
    | _ => False
  else K undef W
theorem Step.wpOp {P : Program} {ops : Array Oper} {o : Oper} {k : Nat} {a : Act} {W : World} {K' : Value → World → Prop} {K : Act → World → Prop} {Q : Exit → Act → World → Prop}
    (ho : ops[k]? = some o) (h : Step P ops o (fun t => a.tmps.getD t undef) W K') (hK : ∀ v W', K' v W' → K (a.put o.dst v) W') : wpOp P ops Q k K a W := by
  unfold Go.wpOp
  simp only [ho, wants_eq]
  unfold Step at h
  split at h
  · rename_i hw
    rw [if_pos hw]
    left
    unfold Oper.wp
    rw [eval_ev]
    revert h
    generalize (execOp (ev fun t => a.tmps.getD t undef) o).run P W = r
    intro h
    cases r with
    | halt x w => exact h.elim
    | ok n w =>
      cases n with
      | value v => exact hK _ _ h
      | skip => exact hK _ _ h
      | enter f args =>
        refine Calls.mono h ?_
        rintro e W'' ⟨v, rfl, hv⟩
        exact hK _ _ hv
      | _ => exact h.elim
  · rename_i hw
    rw [if_neg hw]
    exact hK _ _ h
section
variable (P : Program) (ops : Array Oper) (R : World → Prop) (G : World → World → Prop)
def isW (i t : Nat) : Prop := (ops[i]?).bind (·.dst) = some t
instance (i t : Nat) : Decidable (isW ops i t) := by unfold isW; infer_instance
def upd (E : Tmp → Spec) (d : Option Tmp) (s : Spec) : Tmp → Spec :=
  match d with
  | none => E
  | some d => fun t => if t = d then s else E t
def At (o : Oper) (s : Spec) (E : Tmp → Spec) : Prop :=
  ∀ ρ W, R W → (∀ t ∈ o.looksAt ops, E t (ρ t) W) → Step P ops o ρ W (fun v W' => s v W' ∧ R W' ∧ G W W')
/-- each operation, in the text's order -/
def Obl : List Oper → List Spec → (Tmp → Spec) → Prop
  | o :: os, s :: ss, E => At P ops R G o s E ∧ Obl os ss (upd E o.dst s)
  | [], [], _ => True
  | _, _, _ => False
/-- what is known at the end -/
def envN : List Oper → List Spec → (Tmp → Spec) → (Tmp → Spec)
  | o :: os, s :: ss, E => envN os ss (upd E o.dst s)
  | _, _, E => E
def sp (ss : List Spec) (i : Nat) : Spec := ss.getD i (fun _ _ => True)
def lastW (k t : Nat) : Option Nat := (List.range k).reverse.find? fun i => decide (isW ops i t)
def know (ss : List Spec) (E : Tmp → Spec) (k : Nat) (t : Tmp) : Spec :=
  match lastW ops k t with
  | some i => sp ss i
  | none => E t
theorem lastW_succ (k t : Nat) : lastW ops (k + 1) t = if isW ops k t then some k else lastW ops k t := by
  unfold lastW
  rw [List.range_succ, List.reverse_append, List.reverse_singleton, List.singleton_append, List.find?_cons]
  by_cases h : isW ops k t <;> simp [h]
theorem know_succ (ss : List Spec) (E : Tmp → Spec) (k : Nat) (o : Oper) (s : Spec) (ho : ops[k]? = some o) (hs : ss[k]? = some s) : know ops ss E (k + 1) = upd (know ops ss E k) o.dst s := by
  funext t
  unfold know
  rw [lastW_succ]
  have hsp : sp ss k = s := by simp [sp, hs]
  have hw : isW ops k t ↔ o.dst = some t := by unfold isW; rw [ho]; rfl
  by_cases h : o.dst = some t
  · rw [if_pos (hw.2 h)]
    simp [upd, h, hsp]
  · rw [if_neg (fun h' => h (hw.1 h'))]
    unfold upd
    cases hd : o.dst with
    | none => rfl
    | some d =>
      have hne : t ≠ d := fun e => h (by rw [hd, e])
      simp only [hne, if_false]
theorem obl_at (ss : List Spec) (E : Tmp → Spec) : ∀ (os : List Oper) (ls : List Spec) (k : Nat), (∀ j, os[j]? = ops[k + j]?) → (∀ j, ls[j]? = ss[k + j]?) → Obl P ops R G os ls (know ops ss E k) →
    (∀ j o, os[j]? = some o → At P ops R G o (sp ss (k + j)) (know ops ss E (k + j))) ∧ envN os ls (know ops ss E k) = know ops ss E (k + os.length) := by
  intro os
  induction os with
  | nil =>
    intro ls k _ _ h
    refine ⟨fun j o h => by simp at h, ?_⟩
    cases ls <;> simp [envN]
  | cons o os ih =>
    intro ls k h1 h2 h
    cases ls with
    | nil => exact h.elim
    | cons s ls =>
      have ho : ops[k]? = some o := by simpa using (h1 0).symm
      have hs : ss[k]? = some s := by simpa using (h2 0).symm
      obtain ⟨hat, hrest⟩ := h
      rw [← know_succ ops ss E k o s ho hs] at hrest
      obtain ⟨i1, i2⟩ := ih ls (k + 1) (fun j => by have := h1 (j + 1); simpa [Nat.add_assoc, Nat.add_comm 1 j] using this) (fun j => by have := h2 (j + 1); simpa [Nat.add_assoc, Nat.add_comm 1 j] using this) hrest
      refine ⟨fun j o' hj => ?_, ?_⟩
      · rcases j with _ | j
        · simp at hj
          subst hj
          have hsp : sp ss k = s := by simp [sp, hs]
          simpa [hsp] using hat
        · have := i1 j o' (by simpa using hj)
          rwa [show k + 1 + j = k + (j + 1) by omega] at this
      · simp only [envN, List.length_cons]
        rw [← know_succ ops ss E k o s ho hs, i2, show k + 1 + os.length = k + (os.length + 1) by omega]
end
/-- what the kernel asks of the region's text -/
def befOk (ops : Array Oper) (b : Array Nat) : Bool := (List.range ops.size).all fun k =>
  match ops[k]? with
  | none => false
  | some o => o.after.all (fun e => !Region.binds .any e || decide (e.on < k)) &&
    (List.range ops.size).all fun i => !(b.getD k 0).testBit i || o.after.any fun e => Region.binds .any e && (e.on == i || (decide (e.on < k) && (b.getD e.on 0).testBit i))
def namesOk (ops : Array Oper) (b : Array Nat) (n : Nat) : Bool := (List.range ops.size).all fun i =>
  match (ops[i]?).bind (·.dst) with
  | none => true
  | some d => decide (d < n) && (List.range ops.size).all fun k =>
    i == k || (match ops[k]? with
      | none => true
      | some o => !(o.dst == some d || (o.looksAt ops).contains d)) || (if i < k then (b.getD k 0).testBit i else (b.getD i 0).testBit k)
def ok (ops : Array Oper) (n : Nat) : Bool := befOk ops (Region.before ops) && namesOk ops (Region.before ops) n
def unl (n : Nat) (listed : Array Bool) : Nat := ((List.range n).filter fun i => !listed.getD i true).length
theorem filter_set (p q : Nat → Bool) (i : Nat) (hq : ∀ j, q j = if j = i then true else p j) (hp : p i = false) :
    ∀ l : List Nat, (l.filter fun j => !q j).length ≤ (l.filter fun j => !p j).length ∧ (i ∈ l → (l.filter fun j => !q j).length < (l.filter fun j => !p j).length) := by
  intro l
  induction l with
  | nil => exact ⟨Nat.le_refl _, fun h => by cases h⟩
  | cons x l ih =>
    obtain ⟨h1, h2⟩ := ih
    simp only [List.filter_cons, hq x]
    by_cases hx : x = i
    · subst hx
      simp only [if_true, Bool.not_true, Bool.false_eq_true, if_false, hp, Bool.not_false]
      simp only [List.length_cons]
      exact ⟨by omega, fun _ => by omega⟩
    · simp only [hx, if_false]
      refine ⟨?_, fun hm => ?_⟩
      · split <;> (try simp only [List.length_cons]) <;> omega
      · have hm' : i ∈ l := by
          cases hm with
          | head => exact absurd rfl hx
          | tail _ h => exact h
        have := h2 hm'
        split <;> (try simp only [List.length_cons]) <;> omega
theorem unl_lt (n i : Nat) (listed : Array Bool) (hi : i < n) (hu : listed.getD i true = false) : unl n (listed.setIfInBounds i true) < unl n listed := by
  have hsz : i < listed.size := by
    rcases Nat.lt_or_ge i listed.size with h | h
    · exact h
    · simp [Array.getElem?_eq_none h] at hu
  have hset : ∀ j, (listed.setIfInBounds i true).getD j true = if j = i then true else listed.getD j true := by
    intro j
    by_cases h : j = i
    · subst h; simp [hsz]
    · rw [getD_set_ne true (Ne.symm h), if_neg h]
  exact (filter_set (fun j => listed.getD j true) (fun j => (listed.setIfInBounds i true).getD j true) i hset hu _).2 (by simpa using hi)
section
variable {P : Program} {ops : Array Oper} {R : World → Prop} {G : World → World → Prop} {ss : List Spec} {a0 : Act} {n : Nat}
structure Inv (ops : Array Oper) (R : World → Prop) (ss : List Spec) (a0 : Act) (listed : Array Bool) (a : Act) (W : World) : Prop where
  size : listed.size = ops.size
  world : R W
  defers : a.defers = a0.defers
  tsize : a.tmps.size = a0.tmps.size
  closed : ∀ k o, ops[k]? = some o → listed.getD k false = true → ∀ e ∈ o.after, Region.binds .any e = true → listed.getD e.on false = true
  new : ∀ t i, isW ops i t → listed.getD i false = true → (∀ j, isW ops j t → listed.getD j false = true → j ≤ i) → sp ss i (a.tmps.getD t undef) W
  old : ∀ t, (∀ i, isW ops i t → listed.getD i false = false) → a.tmps.getD t undef = a0.tmps.getD t undef
theorem bef_listed (hb : befOk ops (Region.before ops) = true) {listed : Array Bool}
    (hc : ∀ k o, ops[k]? = some o → listed.getD k false = true → ∀ e ∈ o.after, Region.binds .any e = true → listed.getD e.on false = true) :
    ∀ k, k < ops.size → listed.getD k false = true → ∀ i, i < ops.size → ((Region.before ops).getD k 0).testBit i = true → listed.getD i false = true := by
  intro k
  induction k using Nat.strongRecOn with
  | _ k ih =>
    intro hk hl i hi ht
    have h1 := List.all_eq_true.1 hb k (by simpa using hk)
    have ho : ops[k]? = some ops[k] := Array.getElem?_eq_getElem hk
    rw [ho] at h1
    simp only [Bool.and_eq_true, List.all_eq_true, List.mem_range, Bool.or_eq_true, Bool.not_eq_true'] at h1
    have h2 := (h1.2 i hi).resolve_left (by rw [ht]; simp)
    obtain ⟨e, he, h3⟩ := Array.any_eq_true'.1 h2
    simp only [Bool.and_eq_true, Bool.or_eq_true, beq_iff_eq, decide_eq_true_eq] at h3
    have hle := hc k _ ho hl e he h3.1
    rcases h3.2 with h4 | ⟨h4, h5⟩
    · rw [← h4]; exact hle
    · exact ih e.on h4 (by omega) hle i hi h5
theorem isW_lt {i t : Nat} (h : isW ops i t) : i < ops.size := by
  unfold isW at h
  rcases Nat.lt_or_ge i ops.size with hlt | hge
  · exact hlt
  · rw [Array.getElem?_eq_none hge] at h; cases h
theorem names (hn : namesOk ops (Region.before ops) n = true) {i t : Nat} (hi : isW ops i t) : t < n ∧ ∀ k o, ops[k]? = some o → k ≠ i → (o.dst = some t ∨ t ∈ o.looksAt ops) →
    (i < k → ((Region.before ops).getD k 0).testBit i = true) ∧ (k < i → ((Region.before ops).getD i 0).testBit k = true) := by
  have h1 := List.all_eq_true.1 hn i (by simpa using isW_lt hi)
  unfold isW at hi
  rw [hi] at h1
  simp only [Bool.and_eq_true, decide_eq_true_eq, List.all_eq_true, List.mem_range] at h1
  refine ⟨h1.1, fun k o ho hne hnm => ?_⟩
  have hk : k < ops.size := (Array.getElem?_eq_some_iff.1 ho).1
  have h2 := h1.2 k hk
  rw [ho] at h2
  simp only [Bool.or_eq_true, beq_iff_eq, Bool.not_eq_true', Bool.or_eq_false_iff] at h2
  rcases h2 with (h2 | h2) | h2
  · exact absurd h2.symm hne
  · rcases hnm with h | h
    · simp [h] at h2
    · have := h2.2
      simp [h] at this
  · constructor
    · intro hlt; rw [if_pos hlt] at h2; exact h2
    · intro hlt; rw [if_neg (by omega)] at h2; exact h2
theorem lastW_some {k t i : Nat} (h : lastW ops k t = some i) : isW ops i t ∧ i < k ∧ ∀ j, isW ops j t → j < k → j ≤ i := by
  induction k with
  | zero => simp [lastW] at h
  | succ k ih =>
    rw [lastW_succ] at h
    by_cases hw : isW ops k t
    · rw [if_pos hw] at h
      cases h
      exact ⟨hw, by omega, fun j _ hj => by omega⟩
    · rw [if_neg hw] at h
      obtain ⟨h1, h2, h3⟩ := ih h
      refine ⟨h1, by omega, fun j hj hlt => ?_⟩
      by_cases hjk : j = k
      · subst hjk; exact absurd hj hw
      · exact h3 j hj (by omega)
theorem lastW_none {k t : Nat} (h : lastW ops k t = none) : ∀ j, isW ops j t → k ≤ j := by
  induction k with
  | zero => intro j _; omega
  | succ k ih =>
    rw [lastW_succ] at h
    by_cases hw : isW ops k t
    · rw [if_pos hw] at h; cases h
    · rw [if_neg hw] at h
      intro j hj
      have := ih h j hj
      by_cases hjk : j = k
      · subst hjk; exact absurd hj hw
      · omega
/-- In whatever state, what an operation looks at is what it would be in the text's order. -/
theorem Inv.looks {listed : Array Bool} {a : Act} {W : World} (h : Inv ops R ss a0 listed a W) (hb : befOk ops (Region.before ops) = true) (hn : namesOk ops (Region.before ops) n = true)
    {k : Nat} {o : Oper} (ho : ops[k]? = some o) (hk : listed.getD k false = false) (hp : ∀ e ∈ o.after, Region.binds .any e = true → listed.getD e.on false = true) {t : Nat} (ht : t ∈ o.looksAt ops) :
    know ops ss (fun t v _ => v = a0.tmps.getD t undef) k t (a.tmps.getD t undef) W := by
  have hks : k < ops.size := (Array.getElem?_eq_some_iff.1 ho).1
  have hl := bef_listed hb h.closed
  -- what stands ahead of k is listed
  have hahead : ∀ i, i < ops.size → ((Region.before ops).getD k 0).testBit i = true → listed.getD i false = true := by
    intro i hi hbit
    have h1 := List.all_eq_true.1 hb k (by simpa using hks)
    rw [ho] at h1
    simp only [Bool.and_eq_true, List.all_eq_true, List.mem_range, Bool.or_eq_true, Bool.not_eq_true'] at h1
    have h2 := (h1.2 i hi).resolve_left (by rw [hbit]; simp)
    obtain ⟨e, he, h3⟩ := Array.any_eq_true'.1 h2
    simp only [Bool.and_eq_true, Bool.or_eq_true, beq_iff_eq, decide_eq_true_eq] at h3
    have hle := hp e he h3.1
    rcases h3.2 with h4 | ⟨h4, h5⟩
    · rw [← h4]; exact hle
    · exact hl e.on (by omega) hle i hi h5
  -- whoever writes t behind k is not listed
  have hbehind : ∀ j, isW ops j t → k < j → listed.getD j false = false := by
    intro j hj hlt
    cases hlj : listed.getD j false with
    | false => rfl
    | true =>
      have hbit := ((names hn hj).2 k o ho (by omega) (.inr ht)).2 hlt
      have := hl j (isW_lt hj) hlj k hks hbit
      rw [hk] at this
      cases this
  unfold know
  cases hw : lastW ops k t with
  | some i =>
    obtain ⟨h1, h2, h3⟩ := lastW_some hw
    have hbit := ((names hn h1).2 k o ho (by omega) (.inr ht)).1 h2
    refine h.new t i h1 (hahead i (isW_lt h1) hbit) fun j hj hlj => ?_
    by_cases hjk : j < k
    · exact h3 j hj hjk
    · by_cases hjk' : j = k
      · subst hjk'; rw [hk] at hlj; cases hlj
      · have := hbehind j hj (by omega)
        rw [hlj] at this
        cases this
  | none =>
    have h1 := lastW_none hw
    refine h.old t fun j hj => ?_
    by_cases hjk : j = k
    · subst hjk; exact hk
    · exact hbehind j hj (by have := h1 j hj; omega)
theorem getD_put (a : Act) (d : Option Tmp) (v : Value) (t : Tmp) (hd : ∀ x, d = some x → x < a.tmps.size) :
    (a.put d v).tmps.getD t undef = if d = some t then v else a.tmps.getD t undef := by
  cases d with
  | none => simp [Act.put]
  | some x =>
    have hx := hd x rfl
    by_cases h : x = t
    · subst h
      simp [Act.put, hx]
    · have hne : ¬ (some x = some t) := fun e => h (Option.some.inj e)
      rw [if_neg hne]
      simp [Act.put, Array.getElem?_setIfInBounds_ne h]
theorem Inv.step {listed : Array Bool} {a : Act} {W W' : World} {v : Value} (h : Inv ops R ss a0 listed a W) (hb : befOk ops (Region.before ops) = true) (hn : namesOk ops (Region.before ops) n = true)
    (hsz : a0.tmps.size = n) (hst : ∀ i v W W', sp ss i v W → G W W' → sp ss i v W')
    {k : Nat} {o : Oper} (ho : ops[k]? = some o) (hk : listed.getD k false = false) (hp : ∀ e ∈ o.after, Region.binds .any e = true → listed.getD e.on false = true)
    (hs : sp ss k v W') (hR : R W') (hG : G W W') : Inv ops R ss a0 (listed.setIfInBounds k true) (a.put o.dst v) W' := by
  have hks : k < ops.size := (Array.getElem?_eq_some_iff.1 ho).1
  have hset : ∀ j, (listed.setIfInBounds k true).getD j false = if j = k then true else listed.getD j false := by
    intro j
    by_cases hj : j = k
    · subst hj; simp [h.size, hks]
    · rw [getD_set_ne false (Ne.symm hj), if_neg hj]
  have hwk : ∀ t, isW ops k t ↔ o.dst = some t := by intro t; unfold isW; rw [ho]; rfl
  have hput := getD_put a o.dst v (hd := fun x hx => by rw [h.tsize, hsz]; exact (names hn ((hwk x).2 hx)).1)
  have hl := bef_listed hb h.closed
  -- whoever writes k's slot behind k is not listed
  have hbehind : ∀ t j, o.dst = some t → isW ops j t → k < j → listed.getD j false = false := by
    intro t j hd hj hlt
    cases hlj : listed.getD j false with
    | false => rfl
    | true =>
      have hbit := ((names hn hj).2 k o ho (by omega) (.inl hd)).2 hlt
      have := hl j (isW_lt hj) hlj k hks hbit
      rw [hk] at this
      cases this
  refine ⟨by simpa using h.size, hR, ?_, ?_, ?_, ?_, ?_⟩
  · rw [← h.defers]; cases o.dst <;> rfl
  · rw [← h.tsize]; cases o.dst <;> simp [Act.put]
  · intro j oj hoj hlj e he hbn
    rw [hset] at hlj ⊢
    by_cases hj : j = k
    · subst hj
      rw [ho] at hoj
      cases hoj
      have h9 := hp e he hbn
      by_cases hek : e.on = j
      · rw [if_pos hek]
      · rw [if_neg hek]; exact h9
    · rw [if_neg hj] at hlj
      have h9 := h.closed j oj hoj hlj e he hbn
      by_cases hek : e.on = k
      · rw [if_pos hek]
      · rw [if_neg hek]; exact h9
  · intro t i hi hli hmax
    rw [hput t]
    by_cases hd : o.dst = some t
    · rw [if_pos hd]
      have hik : i = k := by
        have h1 : k ≤ i := hmax k ((hwk t).2 hd) (by rw [hset, if_pos rfl])
        by_cases hlt : k < i
        · rw [hset, if_neg (by omega), hbehind t i hd hi hlt] at hli
          cases hli
        · omega
      subst hik
      exact hs
    · rw [if_neg hd]
      have hik : i ≠ k := fun e => hd ((hwk t).1 (e ▸ hi))
      rw [hset, if_neg hik] at hli
      exact hst i _ W W' (h.new t i hi hli fun j hj hlj => hmax j hj (by rw [hset]; by_cases hjk : j = k <;> simp [hjk, hlj])) hG
  · intro t ht
    rw [hput t]
    have hd : ¬ o.dst = some t := by
      intro hd
      have := ht k ((hwk t).2 hd)
      rw [hset, if_pos rfl] at this
      cases this
    rw [if_neg hd]
    refine h.old t fun i hi => ?_
    have h9 := ht i hi
    rw [hset] at h9
    by_cases hik : i = k
    · rw [if_pos hik] at h9; cases h9
    · rw [if_neg hik] at h9; exact h9
theorem rg_any {Q : Exit → Act → World → Prop} (hb : befOk ops (Region.before ops) = true) (hn : namesOk ops (Region.before ops) n = true)
    (hsz : a0.tmps.size = n) (hst : ∀ i v W W', sp ss i v W → G W W' → sp ss i v W')
    (hob : ∀ k o, ops[k]? = some o → At P ops R G o (sp ss k) (know ops ss (fun t v _ => v = a0.tmps.getD t undef) k))
    (hend : ∀ a W, R W → a.defers = a0.defers → a.tmps.size = a0.tmps.size → (∀ t, know ops ss (fun t v _ => v = a0.tmps.getD t undef) ops.size t (a.tmps.getD t undef) W) → Q .normal a W) :
    ∀ (fuel : Nat) (listed : Array Bool) (a : Act) (W : World), unl ops.size listed ≤ fuel → Inv ops R ss a0 listed a W → wpAny P .any ops Q fuel listed a W := by
  -- where nothing may come up any more, all is done
  have hall : ∀ listed a W, Inv ops R ss a0 listed a W → Region.ready .any ops listed = [] → ∀ k, k < ops.size → listed.getD k false = true := by
    intro listed a W hI hr k
    induction k using Nat.strongRecOn with
    | _ k ih =>
      intro hk
      cases hlk : listed.getD k false with
      | true => rfl
      | false =>
        have ho : ops[k]? = some ops[k] := Array.getElem?_eq_getElem hk
        have h1 := List.all_eq_true.1 hb k (by simpa using hk)
        rw [ho] at h1
        simp only [Bool.and_eq_true, Array.all_eq_true_iff_forall_mem, Bool.or_eq_true, Bool.not_eq_true', decide_eq_true_eq] at h1
        have hm : k ∈ Region.ready .any ops listed := by
          rw [mem_ready]
          have hks : k < listed.size := by rw [hI.size]; exact hk
          refine ⟨by simp only [Array.getD_eq_getD_getElem?, Array.getElem?_eq_getElem hks, Option.getD_some] at hlk ⊢; exact hlk, _, ho, fun e he hbn => ?_⟩
          have hlt := (h1.1 e he).resolve_left (by rw [hbn]; simp)
          exact ih e.on hlt (by omega)
        rw [hr] at hm
        cases hm
  have hfin : ∀ listed a W, Inv ops R ss a0 listed a W → Region.ready .any ops listed = [] → Q .normal a W := by
    intro listed a W hI hr
    have hA := hall listed a W hI hr
    refine hend a W hI.world hI.defers hI.tsize fun t => ?_
    unfold know
    cases hw : lastW ops ops.size t with
    | some i =>
      obtain ⟨h1, h2, h3⟩ := lastW_some hw
      exact hI.new t i h1 (hA i h2) fun j hj _ => h3 j hj (isW_lt hj)
    | none =>
      have h1 := lastW_none hw
      exact hI.old t fun i hi => by have := h1 i hi; have := isW_lt hi; omega
  intro fuel
  induction fuel with
  | zero =>
    intro listed a W hu hI
    have hr : Region.ready .any ops listed = [] := by
      cases hr : Region.ready .any ops listed with
      | nil => rfl
      | cons x xs =>
        have hx : x ∈ Region.ready .any ops listed := by rw [hr]; exact List.mem_cons_self
        obtain ⟨h1, o, ho, _⟩ := mem_ready.1 hx
        have := unl_lt ops.size x listed (Array.getElem?_eq_some_iff.1 ho).1 h1
        omega
    exact ⟨hr, hfin listed a W hI hr⟩
  | succ fuel ih =>
    intro listed a W hu hI
    refine ⟨hfin listed a W hI, fun k hk => ?_⟩
    obtain ⟨h1, o, ho, hp⟩ := mem_ready.1 hk
    have hks : k < ops.size := (Array.getElem?_eq_some_iff.1 ho).1
    have h1' : listed.getD k false = false := by
      have hks' : k < listed.size := by rw [hI.size]; exact hks
      simp only [Array.getD_eq_getD_getElem?, Array.getElem?_eq_getElem hks', Option.getD_some] at h1 ⊢
      exact h1
    have hlt := unl_lt ops.size k listed hks h1
    have hat := hob k o ho (fun t => a.tmps.getD t undef) W hI.world fun t ht => hI.looks hb hn ho h1' hp ht
    exact hat.wpOp ho fun v W' ⟨hs, hR, hG⟩ => ih _ _ _ (by omega) (hI.step hb hn hsz hst ho h1' hp hs hR hG)
/-- THE RULE. -/
theorem region {Q : Exit → Act → World → Prop} {id : Nat} {W0 : World} (hm : P.follows .mixedOrders = true) (n : Nat) (hck : ok ops n = true) (ss : List Spec) (R : World → Prop) (G : World → World → Prop)
    (hsz : a0.tmps.size = n) (hst : ∀ s ∈ ss, ∀ v W W', s v W → G W W' → s v W') (hR : R W0.drew)
    (hob : Obl P ops R G ops.toList ss (fun t v _ => v = a0.tmps.getD t undef))
    (hend : ∀ a W, R W → a.defers = a0.defers → a.tmps.size = n → (∀ t, envN ops.toList ss (fun t v _ => v = a0.tmps.getD t undef) t (a.tmps.getD t undef) W) → Q .normal a W) :
    (Code.region id ops true).wp P Q a0 W0 := by
  simp only [ok, Bool.and_eq_true] at hck
  have hk0 : know ops ss (fun t v _ => v = a0.tmps.getD t undef) 0 = fun t v _ => v = a0.tmps.getD t undef := rfl
  obtain ⟨h1, h2⟩ := obl_at P ops R G ss (fun t v _ => v = a0.tmps.getD t undef) ops.toList ss 0 (by simp) (by simp) (by rw [hk0]; exact hob)
  rw [hk0] at h2
  have hst' : ∀ i v W W', sp ss i v W → G W W' → sp ss i v W' := by
    intro i v W W' h hG
    unfold sp at *
    cases hi : ss[i]? with
    | none => simp [hi]
    | some s =>
      simp only [List.getD_eq_getElem?_getD, hi, Option.getD_some] at h ⊢
      exact hst s (List.mem_of_getElem? hi) v W W' h hG
  refine wp_region_any hm (rg_any hck.1 hck.2 hsz hst' (fun k o ho => ?_) (fun a W hRW hd hs hkn => hend a W hRW hd (hs.trans hsz) ?_) ops.size _ a0 _ ?_ ?_)
  · have := h1 k o (by simpa using ho)
    simpa using this
  · rw [h2]
    intro t
    have := hkn t
    simpa using this
  · unfold unl
    exact Nat.le_trans (List.length_filter_le _ _) (by simp)
  · refine ⟨by simp, hR, rfl, rfl, ?_, ?_, fun _ _ => rfl⟩
    · intro k o _ hl
      simp only [Array.getD_eq_getD_getElem?, Array.getElem?_replicate] at hl
      split at hl <;> simp at hl
    · intro t i _ hl
      simp only [Array.getD_eq_getD_getElem?, Array.getElem?_replicate] at hl
      split at hl <;> simp at hl
end
/-! ### in use -/
/-- each specification lasts -/
def Lasts (G : World → World → Prop) : List Spec → Prop
  | [] => True
  | s :: l => (∀ v W W', s v W → G W W' → s v W') ∧ Lasts G l
theorem lasts_all {G : World → World → Prop} : ∀ {l : List Spec}, Lasts G l → ∀ s ∈ l, ∀ v W W', s v W → G W W' → s v W'
  | [], _, s, hs => by cases hs
  | a :: l, h, s, hs => by
    cases hs with
    | head => exact h.1
    | tail _ hs => exact lasts_all h.2 s hs
def Facts (E : Tmp → Spec) (ρ : Tmp → Value) (W : World) : List Tmp → Prop
  | [] => True
  | t :: l => E t (ρ t) W ∧ Facts E ρ W l
theorem facts_of {E : Tmp → Spec} {ρ : Tmp → Value} {W : World} : ∀ (l : List Tmp), (∀ t ∈ l, E t (ρ t) W) → Facts E ρ W l
  | [], _ => trivial
  | t :: l, h => ⟨h t List.mem_cons_self, facts_of l fun u hu => h u (List.mem_cons_of_mem _ hu)⟩
/-- what an operation comes to, its guard left out -/
def Run (P : Program) (o : Oper) (ρ : Tmp → Value) (W : World) (K : Value → World → Prop) : Prop :=
  match (execOp (ev ρ) o).run P W with
  | .ok (.value v) W' => K v W'
  | .ok .skip W' => K undef W'
  | .ok (.enter f args) W' => Calls P f args W' fun e W'' => ∃ v, e = .returned v ∧ K v W''
  | _ => False
theorem at_run {P : Program} {ops : Array Oper} {R : World → Prop} {G : World → World → Prop} {o : Oper} {s : Spec} {E : Tmp → Spec} (l : List Tmp) (hl : o.looksAt ops = l)
    (h : ∀ ρ W, R W → Facts E ρ W l → wants ops o ρ = true ∧ Run P o ρ W (fun v W' => s v W' ∧ R W' ∧ G W W')) : At P ops R G o s E := by
  subst hl
  intro ρ W hR hE
  obtain ⟨h1, h2⟩ := h ρ W hR (facts_of _ hE)
  unfold Step
  rw [if_pos h1]
  exact h2
theorem at_skip {P : Program} {ops : Array Oper} {R : World → Prop} {G : World → World → Prop} {o : Oper} {s : Spec} {E : Tmp → Spec} (l : List Tmp) (hl : o.looksAt ops = l)
    (h : ∀ ρ W, R W → Facts E ρ W l → wants ops o ρ = false ∧ s undef W ∧ G W W) : At P ops R G o s E := by
  subst hl
  intro ρ W hR hE
  obtain ⟨h1, h2, h3⟩ := h ρ W hR (facts_of _ hE)
  unfold Step
  rw [h1]
  exact ⟨h2, hR, h3⟩
theorem run_ok {P : Program} {o : Oper} {ρ : Tmp → Value} {W W' : World} {K : Value → World → Prop} {v : Value} (h : (execOp (ev ρ) o).run P W = .ok (.value v) W') (hK : K v W') : Run P o ρ W K := by
  unfold Run; rw [h]; exact hK
theorem run_skip {P : Program} {o : Oper} {ρ : Tmp → Value} {W W' : World} {K : Value → World → Prop} (h : (execOp (ev ρ) o).run P W = .ok .skip W') (hK : K undef W') : Run P o ρ W K := by
  unfold Run; rw [h]; exact hK
theorem run_enter {P : Program} {o : Oper} {ρ : Tmp → Value} {W W' : World} {K : Value → World → Prop} {f : FuncId} {args : Array Value} (h : (execOp (ev ρ) o).run P W = .ok (.enter f args) W')
    (hK : Calls P f args W' fun e W'' => ∃ v, e = .returned v ∧ K v W'') : Run P o ρ W K := by
  unfold Run; rw [h]; exact hK
end Go.Proofs.Ytlblgopfdadalaa.Rg
