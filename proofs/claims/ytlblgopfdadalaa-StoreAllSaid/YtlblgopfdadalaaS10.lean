/- A part of the proof of 'StoreAll'. -/
import Derived.Test.YtlblgopfdadalaaS9
namespace Go.Proofs.Ytlblgopfdadalaa.Rg
set_option linter.unusedVariables false
set_option linter.unusedSimpArgs false
set_option linter.unnecessarySimpa false
set_option maxRecDepth 100000
open Go
section
variable (P : Program) (ops : Array Oper) (R : Nat → World → Prop) (G : World → World → Prop)
def AtW (R1 R2 : World → Prop) (o : Oper) (s : Spec) (E : Tmp → Spec) : Prop :=
  ∀ ρ W, R1 W → (∀ t ∈ o.looksAt ops, E t (ρ t) W) → Step P ops o ρ W (fun v W' => s v W' ∧ R2 W' ∧ G W W')
/-- each operation, in the text's order; those that write are marked; q of them wrote ahead -/
def OblW : List Oper → List (Bool × Spec) → (Tmp → Spec) → Nat → Prop
  | o :: os, (false, s) :: ss, E, q => (∀ i, AtW P ops G (R i) (R i) o s E) ∧ OblW os ss (upd E o.dst s) q
  | o :: os, (true, s) :: ss, E, q => AtW P ops G (R q) (R (q + 1)) o s E ∧ OblW os ss (upd E o.dst s) (q + 1)
  | [], [], _, _ => True
  | _, _, _, _ => False
end
/-- how many of the first k are marked -/
def rank (wr : List Bool) (k : Nat) : Nat := ((wr.take k).filter id).length
def marked (wr : List Bool) (k : Nat) : Bool := wr.getD k false
/-- those that write stand in one order -/
def wrOk (ops : Array Oper) (b : Array Nat) (wr : List Bool) : Bool := (List.range ops.size).all fun j => !marked wr j || (List.range j).all fun i => !marked wr i || (b.getD j 0).testBit i
def cnt (wr : List Bool) (listed : Array Bool) (n : Nat) : Nat := ((List.range n).filter fun i => marked wr i && listed.getD i false).length
theorem rank_succ (wr : List Bool) (k : Nat) (hk : k < wr.length) : rank wr (k + 1) = rank wr k + (if marked wr k then 1 else 0) := by
  unfold rank marked
  rw [List.take_succ_eq_append_getElem hk, List.filter_append, List.length_append]
  congr 1
  rw [List.getD_eq_getElem?_getD, List.getElem?_eq_getElem hk]
  cases h : wr[k] <;> simp [h]
theorem rank_eq (wr : List Bool) : ∀ k, k ≤ wr.length → rank wr k = ((List.range k).filter fun i => marked wr i).length := by
  intro k
  induction k with
  | zero => intro _; simp [rank]
  | succ k ih =>
    intro hk
    rw [rank_succ wr k (by omega), ih (by omega), List.range_succ, List.filter_append, List.length_append]
    congr 1
    cases h : marked wr k <;> simp [h]
theorem cnt_set (wr : List Bool) (listed : Array Bool) (n k : Nat) (hk : k < n) (hs : k < listed.size) (hu : listed.getD k false = false) : cnt wr (listed.setIfInBounds k true) n = cnt wr listed n + (if marked wr k then 1 else 0) := by
  have hset : ∀ j, (listed.setIfInBounds k true).getD j false = if j = k then true else listed.getD j false := by
    intro j
    by_cases h : j = k
    · subst h; simp [hs]
    · rw [getD_set_ne false (Ne.symm h), if_neg h]
  unfold cnt
  have key : ∀ l : List Nat, l.Nodup → (l.filter fun i => marked wr i && (listed.setIfInBounds k true).getD i false).length = (l.filter fun i => marked wr i && listed.getD i false).length + (if k ∈ l ∧ marked wr k = true then 1 else 0) := by
    intro l
    induction l with
    | nil => intro _; simp
    | cons x l ih =>
      intro hn
      have h1 := ih (List.nodup_cons.1 hn).2
      have hx := (List.nodup_cons.1 hn).1
      simp only [List.filter_cons, hset x]
      by_cases hxk : x = k
      · subst hxk
        rw [if_neg (fun h => hx h.1)] at h1
        cases hm : marked wr x
        · simp [hm]; simpa using h1
        · simp [hm, hu]; simpa using h1
      · have e1 : (k ∈ x :: l ∧ marked wr k = true) ↔ (k ∈ l ∧ marked wr k = true) := by simp [Ne.symm hxk]
        have e2 : (if k ∈ x :: l ∧ marked wr k = true then 1 else 0) = if k ∈ l ∧ marked wr k = true then 1 else 0 := by simp only [e1]
        rw [e2, if_neg hxk]
        split <;> (try simp only [List.length_cons]) <;> omega
  have h2 := key (List.range n) List.nodup_range
  have h3 : k ∈ List.range n := List.mem_range.2 hk
  rw [h2]
  cases hm : marked wr k <;> simp [h3, hm]
section
variable {P : Program} {ops : Array Oper} {R : Nat → World → Prop} {G : World → World → Prop} {ss : List Spec} {a0 : Act} {n m : Nat} {wr : List Bool}
theorem obl_preW (bs : List (Bool × Spec)) (E : Tmp → Spec) (m : Nat) (hm : m ≤ ops.size) (hl : bs.length = m) (h : OblW P ops R G (ops.toList.take m) bs (know ops (bs.map (·.2)) E 0) 0) :
    (∀ k o i, k < m → ops[k]? = some o → (marked (bs.map (·.1)) k = true → i = rank (bs.map (·.1)) k) → AtW P ops G (R i) (R (i + if marked (bs.map (·.1)) k then 1 else 0)) o (sp (bs.map (·.2)) k) (know ops (bs.map (·.2)) E k)) ∧
      envN (ops.toList.take m) (bs.map (·.2)) (know ops (bs.map (·.2)) E 0) = know ops (bs.map (·.2)) E m := by
  have key : ∀ (d k : Nat), k + d = m → OblW P ops R G ((ops.toList.take m).drop k) (bs.drop k) (know ops (bs.map (·.2)) E k) (rank (bs.map (·.1)) k) →
      (∀ j o i, k ≤ j → j < m → ops[j]? = some o → (marked (bs.map (·.1)) j = true → i = rank (bs.map (·.1)) j) → AtW P ops G (R i) (R (i + if marked (bs.map (·.1)) j then 1 else 0)) o (sp (bs.map (·.2)) j) (know ops (bs.map (·.2)) E j)) ∧
        envN ((ops.toList.take m).drop k) ((bs.map (·.2)).drop k) (know ops (bs.map (·.2)) E k) = know ops (bs.map (·.2)) E m := by
    intro d
    induction d with
    | zero =>
      intro k hk _
      have : k = m := by omega
      subst this
      refine ⟨fun j o i h1 h2 => by omega, ?_⟩
      have e1 : (ops.toList.take k).drop k = [] := by simp
      rw [e1]
      cases (bs.map (·.2)).drop k <;> rfl
    | succ d ih =>
      intro k hk hO
      have hkm : k < m := by omega
      have hks : k < ops.size := by omega
      have e1 : (ops.toList.take m).drop k = ops[k] :: (ops.toList.take m).drop (k + 1) := by
        rw [List.drop_eq_getElem_cons (by simp; omega)]
        simp
      have hkl : k < bs.length := by omega
      have e2 : bs.drop k = bs[k] :: bs.drop (k + 1) := List.drop_eq_getElem_cons hkl
      have e3 : (bs.map (·.2)).drop k = bs[k].2 :: (bs.map (·.2)).drop (k + 1) := by
        rw [List.drop_eq_getElem_cons (by simpa using hkl)]; simp
      have ho : ops[k]? = some ops[k] := Array.getElem?_eq_getElem hks
      have hs : (bs.map (·.2))[k]? = some bs[k].2 := by rw [List.getElem?_map, List.getElem?_eq_getElem hkl]; rfl
      have hmk : marked (bs.map (·.1)) k = bs[k].1 := by
        unfold marked
        rw [List.getD_eq_getElem?_getD, List.getElem?_map, List.getElem?_eq_getElem hkl]; rfl
      have hrk := rank_succ (bs.map (·.1)) k (by simpa using hkl)
      have hsp : sp (bs.map (·.2)) k = bs[k].2 := by simp [sp, hs]
      rw [e1, e2] at hO
      have hA : (∀ i, (bs[k].1 = true → i = rank (bs.map (·.1)) k) → AtW P ops G (R i) (R (i + if bs[k].1 then 1 else 0)) ops[k] bs[k].2 (know ops (bs.map (·.2)) E k)) ∧
          OblW P ops R G ((ops.toList.take m).drop (k + 1)) (bs.drop (k + 1)) (upd (know ops (bs.map (·.2)) E k) ops[k].dst bs[k].2) (rank (bs.map (·.1)) k + if bs[k].1 then 1 else 0) := by
        revert hO
        generalize bs[k] = b
        obtain ⟨b1, b2⟩ := b
        cases b1 with
        | false => intro hO; exact ⟨fun i _ => by simpa using hO.1 i, by simpa using hO.2⟩
        | true => intro hO; exact ⟨fun i hi => by rw [hi rfl]; simpa using hO.1, by simpa using hO.2⟩
      obtain ⟨hA, hO'⟩ := hA
      rw [← know_succ ops (bs.map (·.2)) E k ops[k] bs[k].2 ho hs, ← hmk, ← hrk] at hO'
      obtain ⟨i1, i2⟩ := ih (k + 1) (by omega) hO'
      refine ⟨fun j o i h1 h2 hj hi => ?_, ?_⟩
      · by_cases hjk : j = k
        · subst hjk
          rw [ho] at hj
          cases hj
          rw [hsp, hmk]
          rw [hmk] at hi
          exact hA i hi
        · exact i1 j o i (by omega) h2 hj hi
      · rw [e1, e3]
        simp only [envN]
        rw [← know_succ ops (bs.map (·.2)) E k ops[k] bs[k].2 ho hs]
        exact i2
  have := key m 0 (by omega) (by simpa [rank] using h)
  refine ⟨fun k o i h1 h2 hi => this.1 k o i (Nat.zero_le _) h1 h2 hi, ?_⟩
  simpa using this.2
theorem rg_w {Q : Exit → Act → World → Prop} (hb : befOk ops (Region.before ops) = true) (hn : namesOk ops (Region.before ops) n = true)
    (hm : m ≤ ops.size) (ht : tailOk ops (Region.before ops) m = true) (hq : Region.seqB .any ops (ops.size - m) m (headDone ops.size m) = true)
    (hw : wrOk ops (Region.before ops) wr = true) (hwl : wr.length = m)
    (hsz : a0.tmps.size = n) (hst : ∀ i v W W', sp ss i v W → G W W' → sp ss i v W')
    (hob : ∀ k o i, k < m → ops[k]? = some o → (marked wr k = true → i = rank wr k) → AtW P ops G (R i) (R (i + if marked wr k then 1 else 0)) o (sp ss k) (know ops ss (fun t v _ => v = a0.tmps.getD t undef) k))
    (hend : ∀ a W, R (rank wr m) W → a.defers = a0.defers → a.tmps.size = a0.tmps.size → (∀ t, know ops ss (fun t v _ => v = a0.tmps.getD t undef) m t (a.tmps.getD t undef) W) → wpList P ops Q (ops.toList.drop m) a W) :
    ∀ (fuel : Nat) (listed : Array Bool) (a : Act) (W : World), unl m listed = fuel → Inv ops (fun _ => True) ss a0 listed a W → R (cnt wr listed m) W → (∀ t, m ≤ t → listed.getD t false = false) → wpAny P .any ops Q (fuel + (ops.size - m)) listed a W := by
  intro fuel
  induction fuel with
  | zero =>
    intro listed a W hu hI hRW htl
    have hall := unl_zero m listed hu
    have hl : listed = headDone ops.size m := by
      apply Array.ext
      · rw [hI.size]; simp [headDone]
      · intro i h1 h2
        have e1 : listed.getD i false = listed[i] := by simp [h1]
        have e2 : (headDone ops.size m).getD i false = (headDone ops.size m)[i] := by simp [h2]
        rw [← e1, ← e2, headDone_getD, if_pos (by rw [← hI.size]; exact h1)]
        by_cases him : i < m
        · have := hall i him
          simp [h1] at this
          simp [h1, this, him]
        · rw [htl i (by omega)]
          simp [him]
    have hc : cnt wr listed m = rank wr m := by
      rw [rank_eq wr m (by omega)]
      unfold cnt
      congr 1
      apply List.filter_congr
      intro i hi
      have := listed_false (by have := hI.size; have := List.mem_range.1 hi; omega) (hall i (List.mem_range.1 hi))
      rw [this, Bool.and_true]
    rw [hc] at hRW
    have hw := hend a W hRW hI.defers hI.tsize fun t => by
      unfold know
      cases hw : lastW ops m t with
      | some i =>
        obtain ⟨h1, h2, h3⟩ := lastW_some hw
        refine hI.new t i h1 (listed_false (by have := hI.size; omega) (hall i h2)) fun j hj hlj => ?_
        by_cases hjm : j < m
        · exact h3 j hj hjm
        · rw [htl j (by omega)] at hlj; cases hlj
      | none =>
        have h1 := lastW_none hw
        exact hI.old t fun i hi => htl i (h1 i hi)
    rw [hl]
    have hlen : (ops.toList.drop m).length = ops.size - m := by simp
    have := wpAny_of_seq (P := P) (md := .any) (Q' := Q) (ops.toList.drop m) m (headDone ops.size m) a W (fun j => by simp [List.getElem?_drop]) (by rw [hlen]; exact hq) hw
    rw [hlen] at this
    rw [Nat.zero_add]
    exact this
  | succ fuel ih =>
    intro listed a W hu hI hRW htl
    obtain ⟨i, him, hui⟩ := unl_pos m listed (by omega)
    rw [show fuel + 1 + (ops.size - m) = (fuel + (ops.size - m)) + 1 by omega]
    have hready : ∀ k, k < m → listed.getD k true = false → ∃ j, j < m ∧ j ∈ Region.ready .any ops listed := by
      intro k
      induction k using Nat.strongRecOn with
      | _ k ihk =>
        intro hk huk
        have hks : k < ops.size := by omega
        have ho : ops[k]? = some ops[k] := Array.getElem?_eq_getElem hks
        have h1 := List.all_eq_true.1 hb k (by simpa using hks)
        rw [ho] at h1
        simp only [Bool.and_eq_true, Array.all_eq_true_iff_forall_mem, Bool.or_eq_true, Bool.not_eq_true', decide_eq_true_eq] at h1
        by_cases hall : ∀ e ∈ ops[k].after, Region.binds .any e = true → listed.getD e.on false = true
        · exact ⟨k, hk, mem_ready.2 ⟨huk, _, ho, hall⟩⟩
        · have ⟨e, he⟩ : ∃ e, ¬ (e ∈ ops[k].after → Region.binds .any e = true → listed.getD e.on false = true) := Classical.not_forall.1 hall
          have he1 : e ∈ ops[k].after := Classical.byContradiction fun hc => he fun h => absurd h hc
          have he2 : Region.binds .any e = true := Classical.byContradiction fun hc => he fun _ h => absurd h hc
          have he3 : ¬ listed.getD e.on false = true := fun hc => he fun _ _ => hc
          have hlt := (h1.1 e he1).resolve_left (by rw [he2]; simp)
          refine ihk e.on hlt (by omega) ?_
          have : e.on < listed.size := by rw [hI.size]; omega
          simp [this] at he3 ⊢
          exact he3
    obtain ⟨j0, hj0, hj0r⟩ := hready i him hui
    refine ⟨fun h => (by rw [h] at hj0r; cases hj0r), fun k hk => ?_⟩
    obtain ⟨h1, o, ho, hp⟩ := mem_ready.1 hk
    have hks : k < ops.size := (Array.getElem?_eq_some_iff.1 ho).1
    have hks' : k < listed.size := by rw [hI.size]; exact hks
    have h1' : listed.getD k false = false := by
      simp only [Array.getD_eq_getD_getElem?, Array.getElem?_eq_getElem hks', Option.getD_some] at h1 ⊢
      exact h1
    have hl := bef_listed hb hI.closed
    -- what stands ahead of k is listed
    have hahead : ∀ i, i < ops.size → ((Region.before ops).getD k 0).testBit i = true → listed.getD i false = true := by
      intro i hi hbit
      have h4 := List.all_eq_true.1 hb k (by simpa using hks)
      rw [ho] at h4
      simp only [Bool.and_eq_true, List.all_eq_true, List.mem_range, Bool.or_eq_true, Bool.not_eq_true'] at h4
      have h5 := (h4.2 i hi).resolve_left (by rw [hbit]; simp)
      obtain ⟨e, he, h6⟩ := Array.any_eq_true'.1 h5
      simp only [Bool.and_eq_true, Bool.or_eq_true, beq_iff_eq, decide_eq_true_eq] at h6
      have hle := hp e he h6.1
      rcases h6.2 with h7 | ⟨h7, h8⟩
      · rw [← h7]; exact hle
      · exact hl e.on (by omega) hle i hi h8
    have hkm : k < m := by
      rcases Nat.lt_or_ge k m with h | h
      · exact h
      · exfalso
        have h2 := List.all_eq_true.1 ht k (by simpa using hks)
        simp only [Bool.or_eq_true, decide_eq_true_eq, List.all_eq_true, List.mem_range] at h2
        have h3 := (h2.resolve_left (by omega)) i him
        have hli := hahead i (by omega) h3
        have : i < listed.size := by rw [hI.size]; omega
        simp [this] at hli hui
        rw [hli] at hui
        cases hui
    have hrk : marked wr k = true → cnt wr listed m = rank wr k := by
      intro hmk
      rw [rank_eq wr k (by omega)]
      unfold cnt
      -- of those that write, the ones ahead of k are listed, the ones behind it are not
      have hsplit : List.range m = List.range k ++ (List.range (m - k)).map (k + ·) := by
        apply List.ext_getElem?
        intro j
        by_cases hj : j < k
        · rw [List.getElem?_append_left (by simpa using hj)]
          simp [hj, show j < m by omega]
        · rw [List.getElem?_append_right (by simpa using (by omega : k ≤ j))]
          simp only [List.length_range, List.getElem?_map]
          by_cases hjm : j < m
          · rw [List.getElem?_range hjm, List.getElem?_range (by omega)]
            simp; omega
          · rw [List.getElem?_eq_none (by simp; omega), List.getElem?_eq_none (by simp; omega)]; rfl
      rw [hsplit, List.filter_append, List.length_append]
      have e1 : (List.range k).filter (fun i => marked wr i && listed.getD i false) = (List.range k).filter fun i => marked wr i := by
        apply List.filter_congr
        intro j hj
        have hjk := List.mem_range.1 hj
        cases hmj : marked wr j with
        | false => rfl
        | true =>
          have h2 := List.all_eq_true.1 hw k (by simpa using hks)
          rw [hmk] at h2
          simp only [Bool.not_true, Bool.false_or, List.all_eq_true, List.mem_range, Bool.or_eq_true, Bool.not_eq_true'] at h2
          have h3 := (h2 j hjk).resolve_left (by rw [hmj]; simp)
          rw [hahead j (by omega) h3]; rfl
      have e2 : ((List.range (m - k)).map (k + ·)).filter (fun i => marked wr i && listed.getD i false) = [] := by
        rw [List.filter_eq_nil_iff]
        intro j hj
        obtain ⟨q, hq, rfl⟩ := List.mem_map.1 hj
        have hqm := List.mem_range.1 hq
        intro hc
        rw [Bool.and_eq_true] at hc
        by_cases hq0 : q = 0
        · subst hq0
          rw [Nat.add_zero, h1'] at hc
          cases hc.2
        · have hjs : k + q < ops.size := by omega
          have h2 := List.all_eq_true.1 hw (k + q) (by simpa using hjs)
          rw [hc.1] at h2
          simp only [Bool.not_true, Bool.false_or, List.all_eq_true, List.mem_range, Bool.or_eq_true, Bool.not_eq_true'] at h2
          have h3 := (h2 k (by omega)).resolve_left (by rw [hmk]; simp)
          have := hl (k + q) hjs hc.2 k hks h3
          rw [h1'] at this
          cases this
      rw [e1, e2]
      simp
    have hat := hob k o (cnt wr listed m) hkm ho hrk (fun t => a.tmps.getD t undef) W hRW fun t htt => hI.looks hb hn ho h1' hp htt
    have hop : wpOp P ops Q k (wpAny P .any ops Q (fuel + (ops.size - m)) (listed.setIfInBounds k true)) a W := by
      refine Step.wpOp ho hat fun v W' ⟨hs, hR', hG⟩ => ih _ _ _ ?_ (hI.step hb hn hsz hst ho h1' hp hs trivial hG) ?_ fun t htm => ?_
      · have := unl_set (ops := ops) m k listed hkm hI.size hm h1
        omega
      · rw [cnt_set wr listed m k hkm hks' h1']
        exact hR'
      · rw [getD_set_ne false (by omega)]
        exact htl t htm
    exact hop
/-- THE RULE. -/
theorem regionW {Q : Exit → Act → World → Prop} {id : Nat} {W0 : World} (hmx : P.follows .mixedOrders = true) (n m : Nat) (hck : okT ops n m = true) (bs : List (Bool × Spec)) (hw : wrOk ops (Region.before ops) (bs.map (·.1)) = true) (R : Nat → World → Prop) (G : World → World → Prop)
    (hsz : a0.tmps.size = n) (hdf : a0.defers = []) (hl : bs.length = m) (hst : Lasts G (bs.map (·.2))) (hR : R 0 W0.drew)
    (hob : OblW P ops R G (ops.toList.take m) bs (fun t v _ => v = a0.tmps.getD t undef) 0)
    (hend : ∀ tm W, R (rank (bs.map (·.1)) m) W → tm.size = n → (∀ t, envN (ops.toList.take m) (bs.map (·.2)) (fun t v _ => v = a0.tmps.getD t undef) t (tm.getD t undef) W) → wpList P ops Q (ops.toList.drop m) ⟨tm, []⟩ W) :
    (Code.region id ops true).wp P Q a0 W0 := by
  simp only [okT, ok, Bool.and_eq_true, decide_eq_true_eq] at hck
  obtain ⟨⟨⟨⟨c1, c2⟩, c3⟩, c4⟩, c5⟩ := hck
  have hk0 : know ops (bs.map (·.2)) (fun t v _ => v = a0.tmps.getD t undef) 0 = fun t v _ => v = a0.tmps.getD t undef := rfl
  obtain ⟨h1, h2⟩ := obl_preW (P := P) (R := R) (G := G) bs (fun t v _ => v = a0.tmps.getD t undef) m c3 hl (by rw [hk0]; exact hob)
  rw [hk0] at h2
  have hst' : ∀ i v W W', sp (bs.map (·.2)) i v W → G W W' → sp (bs.map (·.2)) i v W' := by
    intro i v W W' h hG
    unfold sp at *
    cases hi : (bs.map (·.2))[i]? with
    | none => simp [hi]
    | some s =>
      simp only [List.getD_eq_getElem?_getD, hi, Option.getD_some] at h ⊢
      exact lasts_all hst s (List.mem_of_getElem? hi) v W W' h hG
  refine wp_region_any hmx ?_
  have hu : unl m (Array.replicate ops.size false) = m := by
    unfold unl
    have : (List.range m).filter (fun i => !(Array.replicate ops.size false).getD i true) = List.range m := by
      apply List.filter_eq_self.2
      intro i hi
      have := List.mem_range.1 hi
      have h9 : i < ops.size := by omega
      simp [h9]
    rw [this]; simp
  have h0 : cnt (bs.map (·.1)) (Array.replicate ops.size false) m = 0 := by
    unfold cnt
    have : (List.range m).filter (fun i => marked (bs.map (·.1)) i && (Array.replicate ops.size false).getD i false) = [] := by
      rw [List.filter_eq_nil_iff]
      intro i _
      simp only [Array.getD_eq_getD_getElem?, Array.getElem?_replicate]
      split <;> simp
    rw [this]; rfl
  have := rg_w (P := P) (Q := Q) (R := R) (G := G) (ss := bs.map (·.2)) (a0 := a0) (wr := bs.map (·.1)) c1 c2 c3 c4 c5 hw (by simpa using hl) hsz hst' h1 (fun a W hRW hd hs hkn => by
    obtain ⟨tm, df⟩ := a
    simp only at hd hs
    rw [hdf] at hd
    subst hd
    refine hend tm W hRW (hs.trans hsz) ?_
    rw [h2]
    exact hkn) m (Array.replicate ops.size false) a0 W0.drew hu ?_ (by rw [h0]; exact hR) (fun t _ => by simp only [Array.getD_eq_getD_getElem?, Array.getElem?_replicate]; split <;> rfl)
  · rw [show m + (ops.size - m) = ops.size by omega] at this
    exact this
  · refine ⟨by simp, trivial, rfl, rfl, ?_, ?_, fun _ _ => rfl⟩
    · intro k o _ hl
      simp only [Array.getD_eq_getD_getElem?, Array.getElem?_replicate] at hl
      split at hl <;> simp at hl
    · intro t i _ hl
      simp only [Array.getD_eq_getD_getElem?, Array.getElem?_replicate] at hl
      split at hl <;> simp at hl
end
theorem at_runW {P : Program} {ops : Array Oper} {R1 R2 : World → Prop} {G : World → World → Prop} {o : Oper} {s : Spec} {E : Tmp → Spec} (l : List Tmp) (hl : o.looksAt ops = l)
    (h : ∀ ρ W, R1 W → Facts E ρ W l → wants ops o ρ = true ∧ Run P o ρ W (fun v W' => s v W' ∧ R2 W' ∧ G W W')) : AtW P ops G R1 R2 o s E := by
  subst hl
  intro ρ W hR hE
  obtain ⟨h1, h2⟩ := h ρ W hR (facts_of _ hE)
  unfold Step
  rw [if_pos h1]
  exact h2
end Go.Proofs.Ytlblgopfdadalaa.Rg
