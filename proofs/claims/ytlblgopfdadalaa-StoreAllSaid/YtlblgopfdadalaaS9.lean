/- A part of the proof of 'StoreAll'. -/
import Derived.Test.YtlblgopfdadalaaS8
import Derived.StillTail
namespace Go.Proofs.Ytlblgopfdadalaa.Rg
set_option linter.unusedVariables false
set_option linter.unusedSimpArgs false
set_option linter.unnecessarySimpa false
set_option maxRecDepth 100000
open Go
theorem cons_of {l : List Value} {n : Nat} (h : l.length = n + 1) : ∃ u t, l = u :: t ∧ t.length = n := by
  cases l with
  | nil => cases h
  | cons u t => exact ⟨u, t, rfl, by simpa using h⟩
section
variable {P : Program} {ops : Array Oper} {R : World → Prop} {G : World → World → Prop} {ss : List Spec} {a0 : Act} {n m : Nat}
/-- all but the first m stand behind the first m -/
def tailOk (ops : Array Oper) (b : Array Nat) (m : Nat) : Bool := (List.range ops.size).all fun t => decide (t < m) || (List.range m).all fun i => (b.getD t 0).testBit i
def headDone (k m : Nat) : Array Bool := ((List.range k).map fun i => decide (i < m)).toArray
def okT (ops : Array Oper) (n m : Nat) : Bool := ok ops n && decide (m ≤ ops.size) && tailOk ops (Region.before ops) m && Region.seqB .any ops (ops.size - m) m (headDone ops.size m)
theorem headDone_getD (k m j : Nat) (d : Bool) : (headDone k m).getD j d = if j < k then decide (j < m) else d := by
  unfold headDone
  by_cases h : j < k
  · simp [h]
  · simp [h]
theorem unl_set (k i : Nat) (listed : Array Bool) (hi : i < k) (hs : listed.size = ops.size) (hk : k ≤ ops.size) (hu : listed.getD i true = false) : unl k (listed.setIfInBounds i true) + 1 = unl k listed := by
  have hset : ∀ j, (listed.setIfInBounds i true).getD j true = if j = i then true else listed.getD j true := by
    intro j
    by_cases h : j = i
    · subst h
      have : j < listed.size := by omega
      simp [this]
    · rw [getD_set_ne true (Ne.symm h), if_neg h]
  unfold unl
  have : ∀ l : List Nat, l.Nodup → (l.filter fun j => !(listed.setIfInBounds i true).getD j true).length + (if i ∈ l then 1 else 0) = (l.filter fun j => !listed.getD j true).length := by
    intro l
    induction l with
    | nil => intro _; rfl
    | cons x l ih =>
      intro hn
      have h1 := ih (List.nodup_cons.1 hn).2
      have hx := (List.nodup_cons.1 hn).1
      simp only [List.filter_cons, hset x]
      by_cases hxi : x = i
      · subst hxi
        rw [if_neg hx] at h1
        simp [hu]
        simpa using h1
      · have e1 : (i ∈ x :: l) ↔ (i ∈ l) := by simp [Ne.symm hxi]
        have e2 : (if i ∈ x :: l then 1 else 0) = if i ∈ l then 1 else 0 := by simp only [e1]
        rw [e2]
        rw [if_neg hxi]
        split <;> (try simp only [List.length_cons]) <;> omega
  have h2 := this (List.range k) List.nodup_range
  have h3 : i ∈ List.range k := List.mem_range.2 hi
  rw [if_pos h3] at h2
  exact h2
theorem unl_zero (k : Nat) (listed : Array Bool) (h : unl k listed = 0) : ∀ i, i < k → listed.getD i true = true := by
  intro i hi
  unfold unl at h
  have h1 := List.eq_nil_of_length_eq_zero h
  have h2 := List.filter_eq_nil_iff.1 h1 i (List.mem_range.2 hi)
  simpa using h2
theorem unl_pos (k : Nat) (listed : Array Bool) (h : 0 < unl k listed) : ∃ i, i < k ∧ listed.getD i true = false := by
  unfold unl at h
  obtain ⟨i, hi⟩ := List.exists_mem_of_length_pos h
  obtain ⟨h1, h2⟩ := List.mem_filter.1 hi
  exact ⟨i, List.mem_range.1 h1, by simpa using h2⟩
theorem listed_false {listed : Array Bool} {i : Nat} (h : i < listed.size) (ht : listed.getD i true = true) : listed.getD i false = true := by
  simp [h] at ht ⊢
  exact ht
theorem rg_tail {Q : Exit → Act → World → Prop} (hb : befOk ops (Region.before ops) = true) (hn : namesOk ops (Region.before ops) n = true)
    (hm : m ≤ ops.size) (ht : tailOk ops (Region.before ops) m = true) (hq : Region.seqB .any ops (ops.size - m) m (headDone ops.size m) = true)
    (hsz : a0.tmps.size = n) (hst : ∀ i v W W', sp ss i v W → G W W' → sp ss i v W')
    (hob : ∀ k o, k < m → ops[k]? = some o → At P ops R G o (sp ss k) (know ops ss (fun t v _ => v = a0.tmps.getD t undef) k))
    (hend : ∀ a W, R W → a.defers = a0.defers → a.tmps.size = a0.tmps.size → (∀ t, know ops ss (fun t v _ => v = a0.tmps.getD t undef) m t (a.tmps.getD t undef) W) → wpList P ops Q (ops.toList.drop m) a W) :
    ∀ (fuel : Nat) (listed : Array Bool) (a : Act) (W : World), unl m listed = fuel → Inv ops R ss a0 listed a W → (∀ t, m ≤ t → listed.getD t false = false) → wpAny P .any ops Q (fuel + (ops.size - m)) listed a W := by
  intro fuel
  induction fuel with
  | zero =>
    intro listed a W hu hI htl
    have hall := unl_zero m listed hu
    have hl : listed = headDone ops.size m := by
      apply Array.ext
      · rw [hI.size]; simp [headDone]
      · intro i h1 h2
        have e1 : listed.getD i false = listed[i] := by simp [h1]
        have e2 : (headDone ops.size m).getD i false = (headDone ops.size m)[i] := by simp [h2]
        rw [← e1, ← e2, headDone_getD, if_pos (by rw [← hI.size]; exact h1)]
        by_cases him : i < m
        · have := hall i him
          simp [h1] at this
          simp [h1, this, him]
        · rw [htl i (by omega)]
          simp [him]
    have hw := hend a W hI.world hI.defers hI.tsize fun t => by
      unfold know
      cases hw : lastW ops m t with
      | some i =>
        obtain ⟨h1, h2, h3⟩ := lastW_some hw
        refine hI.new t i h1 (listed_false (by have := hI.size; omega) (hall i h2)) fun j hj hlj => ?_
        by_cases hjm : j < m
        · exact h3 j hj hjm
        · rw [htl j (by omega)] at hlj; cases hlj
      | none =>
        have h1 := lastW_none hw
        exact hI.old t fun i hi => htl i (h1 i hi)
    rw [hl]
    have hlen : (ops.toList.drop m).length = ops.size - m := by simp
    have := wpAny_of_seq (P := P) (md := .any) (Q' := Q) (ops.toList.drop m) m (headDone ops.size m) a W (fun j => by simp [List.getElem?_drop]) (by rw [hlen]; exact hq) hw
    rw [hlen] at this
    rw [Nat.zero_add]
    exact this
  | succ fuel ih =>
    intro listed a W hu hI htl
    obtain ⟨i, him, hui⟩ := unl_pos m listed (by omega)
    rw [show fuel + 1 + (ops.size - m) = (fuel + (ops.size - m)) + 1 by omega]
    -- of the first m, one is ready
    have hready : ∀ k, k < m → listed.getD k true = false → ∃ j, j < m ∧ j ∈ Region.ready .any ops listed := by
      intro k
      induction k using Nat.strongRecOn with
      | _ k ihk =>
        intro hk huk
        have hks : k < ops.size := by omega
        have ho : ops[k]? = some ops[k] := Array.getElem?_eq_getElem hks
        have h1 := List.all_eq_true.1 hb k (by simpa using hks)
        rw [ho] at h1
        simp only [Bool.and_eq_true, Array.all_eq_true_iff_forall_mem, Bool.or_eq_true, Bool.not_eq_true', decide_eq_true_eq] at h1
        by_cases hall : ∀ e ∈ ops[k].after, Region.binds .any e = true → listed.getD e.on false = true
        · exact ⟨k, hk, mem_ready.2 ⟨huk, _, ho, hall⟩⟩
        · have ⟨e, he⟩ : ∃ e, ¬ (e ∈ ops[k].after → Region.binds .any e = true → listed.getD e.on false = true) := Classical.not_forall.1 hall
          have he1 : e ∈ ops[k].after := Classical.byContradiction fun hc => he fun h => absurd h hc
          have he2 : Region.binds .any e = true := Classical.byContradiction fun hc => he fun _ h => absurd h hc
          have he3 : ¬ listed.getD e.on false = true := fun hc => he fun _ _ => hc
          have hlt := (h1.1 e he1).resolve_left (by rw [he2]; simp)
          refine ihk e.on hlt (by omega) ?_
          have : e.on < listed.size := by rw [hI.size]; omega
          simp [this] at he3 ⊢
          exact he3
    obtain ⟨j0, hj0, hj0r⟩ := hready i him hui
    refine ⟨fun h => (by rw [h] at hj0r; cases hj0r), fun k hk => ?_⟩
    obtain ⟨h1, o, ho, hp⟩ := mem_ready.1 hk
    have hks : k < ops.size := (Array.getElem?_eq_some_iff.1 ho).1
    have h1' : listed.getD k false = false := by
      have hks' : k < listed.size := by rw [hI.size]; exact hks
      simp only [Array.getD_eq_getD_getElem?, Array.getElem?_eq_getElem hks', Option.getD_some] at h1 ⊢
      exact h1
    have hkm : k < m := by
      rcases Nat.lt_or_ge k m with h | h
      · exact h
      · exfalso
        have h2 := List.all_eq_true.1 ht k (by simpa using hks)
        simp only [Bool.or_eq_true, decide_eq_true_eq, List.all_eq_true, List.mem_range] at h2
        have h3 := (h2.resolve_left (by omega)) i him
        -- what stands ahead of k is listed
        have hl := bef_listed hb hI.closed
        have h4 := List.all_eq_true.1 hb k (by simpa using hks)
        rw [ho] at h4
        simp only [Bool.and_eq_true, List.all_eq_true, List.mem_range, Bool.or_eq_true, Bool.not_eq_true'] at h4
        have h5 := (h4.2 i (by omega)).resolve_left (by rw [h3]; simp)
        obtain ⟨e, he, h6⟩ := Array.any_eq_true'.1 h5
        simp only [Bool.and_eq_true, Bool.or_eq_true, beq_iff_eq, decide_eq_true_eq] at h6
        have hle := hp e he h6.1
        have hli : listed.getD i false = true := by
          rcases h6.2 with h7 | ⟨h7, h8⟩
          · rw [← h7]; exact hle
          · exact hl e.on (by omega) hle i (by omega) h8
        have : i < listed.size := by rw [hI.size]; omega
        simp [this] at hli hui
        rw [hli] at hui
        cases hui
    have hat := hob k o hkm ho (fun t => a.tmps.getD t undef) W hI.world fun t htt => hI.looks hb hn ho h1' hp htt
    refine hat.wpOp ho fun v W' ⟨hs, hR, hG⟩ => ih _ _ _ ?_ (hI.step hb hn hsz hst ho h1' hp hs hR hG) fun t htm => ?_
    · have := unl_set (ops := ops) m k listed hkm hI.size hm h1
      omega
    · rw [getD_set_ne false (by omega)]
      exact htl t htm
theorem obl_pre (ss : List Spec) (E : Tmp → Spec) (R : World → Prop) (G : World → World → Prop) (m : Nat) (hm : m ≤ ops.size) (hl : ss.length = m) (h : Obl P ops R G (ops.toList.take m) ss (know ops ss E 0)) :
    (∀ k o, k < m → ops[k]? = some o → At P ops R G o (sp ss k) (know ops ss E k)) ∧ envN (ops.toList.take m) ss (know ops ss E 0) = know ops ss E m := by
  have key : ∀ (d k : Nat), k + d = m → Obl P ops R G ((ops.toList.take m).drop k) (ss.drop k) (know ops ss E k) →
      (∀ j o, k ≤ j → j < m → ops[j]? = some o → At P ops R G o (sp ss j) (know ops ss E j)) ∧ envN ((ops.toList.take m).drop k) (ss.drop k) (know ops ss E k) = know ops ss E m := by
    intro d
    induction d with
    | zero =>
      intro k hk _
      have : k = m := by omega
      subst this
      refine ⟨fun j o h1 h2 => by omega, ?_⟩
      have e1 : (ops.toList.take k).drop k = [] := by simp
      rw [e1]
      cases ss.drop k <;> rfl
    | succ d ih =>
      intro k hk hO
      have hkm : k < m := by omega
      have hks : k < ops.size := by omega
      have e1 : (ops.toList.take m).drop k = ops[k] :: (ops.toList.take m).drop (k + 1) := by
        rw [List.drop_eq_getElem_cons (by simp; omega)]
        simp
      have hkl : k < ss.length := by omega
      have e2 : ss.drop k = ss[k] :: ss.drop (k + 1) := List.drop_eq_getElem_cons hkl
      rw [e1, e2] at hO
      obtain ⟨hA, hO'⟩ := hO
      have ho : ops[k]? = some ops[k] := Array.getElem?_eq_getElem hks
      have hs : ss[k]? = some ss[k] := List.getElem?_eq_getElem hkl
      rw [← know_succ ops ss E k ops[k] ss[k] ho hs] at hO'
      obtain ⟨i1, i2⟩ := ih (k + 1) (by omega) hO'
      refine ⟨fun j o h1 h2 hj => ?_, ?_⟩
      · by_cases hjk : j = k
        · subst hjk
          rw [ho] at hj
          cases hj
          have hsp : sp ss j = ss[j] := by simp [sp, hs]
          rw [hsp]
          exact hA
        · exact i1 j o (by omega) h2 hj
      · rw [e1, e2]
        simp only [envN]
        rw [← know_succ ops ss E k ops[k] ss[k] ho hs]
        exact i2
  have := key m 0 (by omega) (by simpa using h)
  refine ⟨fun k o h1 h2 => this.1 k o (Nat.zero_le _) h1 h2, ?_⟩
  simpa using this.2
/-- THE RULE. -/
theorem regionT {Q : Exit → Act → World → Prop} {id : Nat} {W0 : World} (hmx : P.follows .mixedOrders = true) (n m : Nat) (hck : okT ops n m = true) (ss : List Spec) (R : World → Prop) (G : World → World → Prop)
    (hsz : a0.tmps.size = n) (hdf : a0.defers = []) (hl : ss.length = m) (hst : Lasts G ss) (hR : R W0.drew)
    (hob : Obl P ops R G (ops.toList.take m) ss (fun t v _ => v = a0.tmps.getD t undef))
    (hend : ∀ tm W, R W → tm.size = n → (∀ t, envN (ops.toList.take m) ss (fun t v _ => v = a0.tmps.getD t undef) t (tm.getD t undef) W) → wpList P ops Q (ops.toList.drop m) ⟨tm, []⟩ W) :
    (Code.region id ops true).wp P Q a0 W0 := by
  simp only [okT, ok, Bool.and_eq_true, decide_eq_true_eq] at hck
  obtain ⟨⟨⟨⟨c1, c2⟩, c3⟩, c4⟩, c5⟩ := hck
  have hk0 : know ops ss (fun t v _ => v = a0.tmps.getD t undef) 0 = fun t v _ => v = a0.tmps.getD t undef := rfl
  obtain ⟨h1, h2⟩ := obl_pre ss (fun t v _ => v = a0.tmps.getD t undef) R G m c3 hl (by rw [hk0]; exact hob)
  rw [hk0] at h2
  have hst' : ∀ i v W W', sp ss i v W → G W W' → sp ss i v W' := by
    intro i v W W' h hG
    unfold sp at *
    cases hi : ss[i]? with
    | none => simp [hi]
    | some s =>
      simp only [List.getD_eq_getElem?_getD, hi, Option.getD_some] at h ⊢
      exact lasts_all hst s (List.mem_of_getElem? hi) v W W' h hG
  refine wp_region_any hmx ?_
  have hu : unl m (Array.replicate ops.size false) = m := by
    unfold unl
    have : (List.range m).filter (fun i => !(Array.replicate ops.size false).getD i true) = List.range m := by
      apply List.filter_eq_self.2
      intro i hi
      have := List.mem_range.1 hi
      have h9 : i < ops.size := by omega
      simp [h9]
    rw [this]; simp
  have := rg_tail (P := P) (Q := Q) (R := R) (G := G) (ss := ss) (a0 := a0) c1 c2 c3 c4 c5 hsz hst' h1 (fun a W hRW hd hs hkn => by
    obtain ⟨tm, df⟩ := a
    simp only at hd hs
    rw [hdf] at hd
    subst hd
    refine hend tm W hRW (hs.trans hsz) ?_
    rw [h2]
    exact hkn) m (Array.replicate ops.size false) a0 W0.drew hu ?_ (fun t _ => by simp only [Array.getD_eq_getD_getElem?, Array.getElem?_replicate]; split <;> rfl)
  · rw [show m + (ops.size - m) = ops.size by omega] at this
    exact this
  · refine ⟨by simp, hR, rfl, rfl, ?_, ?_, fun _ _ => rfl⟩
    · intro k o _ hl
      simp only [Array.getD_eq_getD_getElem?, Array.getElem?_replicate] at hl
      split at hl <;> simp at hl
    · intro t i _ hl
      simp only [Array.getD_eq_getD_getElem?, Array.getElem?_replicate] at hl
      split at hl <;> simp at hl
end
theorem nil_list {P : Program} {ops : Array Oper} {Q : Exit → Act → World → Prop} {a : Act} {W : World} (h : Q .normal a W) : wpList P ops Q [] a W := h
/-! ### the frame behind the region: what stood there ahead, and what the region wrote -/
def putAll (f : Tmp → Value) : List Tmp → Array Value → Array Value
  | [], tm => tm
  | d :: ds, tm => putAll f ds (tm.setIfInBounds d (f d))
theorem putAll_size (f : Tmp → Value) : ∀ (ds : List Tmp) (tm : Array Value), (putAll f ds tm).size = tm.size
  | [], _ => rfl
  | d :: ds, tm => by rw [putAll, putAll_size f ds]; simp
theorem getD_set_other (tm : Array Value) (d t : Nat) (v : Value) (h : d ≠ t) : (tm.setIfInBounds d v).getD t undef = tm.getD t undef := by
  simp only [Array.getD_eq_getD_getElem?, Array.getElem?_setIfInBounds_ne h]
theorem getD_at (tm : Array Value) (t : Nat) (h : t < tm.size) : tm[t] = tm.getD t undef := by simp [h]
theorem putAll_get (f : Tmp → Value) (t : Nat) : ∀ (ds : List Tmp) (tm : Array Value), t < tm.size → (putAll f ds tm).getD t undef = if t ∈ ds then f t else tm.getD t undef
  | [], tm, _ => by simp [putAll]
  | d :: ds, tm, h => by
    rw [putAll, putAll_get f t ds _ (by simpa using h)]
    by_cases hm : t ∈ ds
    · simp [hm]
    · rw [if_neg hm]
      by_cases hd : t = d
      · subst hd
        simp [h]
      · rw [if_neg (by simp [hm, hd]), getD_set_other _ _ _ _ (Ne.symm hd)]
theorem envN_out (a0 : Array Value) (t : Nat) : ∀ (os : List Oper) (ss : List Spec) (E : Tmp → Spec), os.length = ss.length → (∀ o ∈ os, o.dst ≠ some t) → envN os ss E t = E t
  | [], [], E, _, _ => rfl
  | [], _ :: _, _, h, _ => by cases h
  | _ :: _, [], _, h, _ => by cases h
  | o :: os, s :: ss, E, hl, h => by
    rw [envN, envN_out a0 t os ss _ (by simpa using hl) fun o' ho => h o' (List.mem_cons_of_mem _ ho)]
    have h0 := h o List.mem_cons_self
    unfold upd
    cases hd : o.dst with
    | none => rfl
    | some d =>
      have : t ≠ d := fun e => h0 (by rw [hd, e])
      simp [this]
theorem fin_eq {os : List Oper} {ss : List Spec} {tm0 tm : Array Value} {W : World} {n : Nat} {ds : List Tmp} (hd : os.filterMap (·.dst) = ds) (hl : os.length = ss.length) (h0 : tm0.size = n) (hs : tm.size = n)
    (hk : ∀ t, envN os ss (fun t v _ => v = tm0.getD t undef) t (tm.getD t undef) W) : tm = putAll (fun t => tm.getD t undef) ds tm0 := by
  apply Array.ext
  · rw [putAll_size, hs, h0]
  · intro t h1 h2
    rw [getD_at _ _ h1, getD_at _ _ h2, putAll_get _ t ds tm0 (by omega)]
    by_cases hm : t ∈ ds
    · rw [if_pos hm]
    · rw [if_neg hm]
      have h3 := hk t
      rw [envN_out tm0 t os ss _ hl] at h3
      · exact h3
      · intro o ho hdo
        refine hm ?_
        rw [← hd]
        exact List.mem_filterMap.2 ⟨o, ho, hdo⟩
end Go.Proofs.Ytlblgopfdadalaa.Rg
