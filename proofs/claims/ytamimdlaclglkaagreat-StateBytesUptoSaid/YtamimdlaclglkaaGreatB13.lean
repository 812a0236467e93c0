/- A part of the proof of 'StateBytes'. -/
import Derived.Test.YtamimdlaclglkaaGreatB12
import Derived.Test.YtamimdlaclglkaaGreatB11
namespace Go.Proofs.YtamimdlaclglkaaGreat.Rg
set_option linter.unusedVariables false
set_option linter.unusedSimpArgs false
set_option linter.unnecessarySimpa false
set_option maxRecDepth 100000
open Go
section
variable (P : Program) (ops : Array Oper) (R : Nat → World → Prop) (G : World → World → Prop)
/-- each operation, in the text's order: does it write? does it come ahead of all that write? -/
def OblE : List Oper → List ((Bool × Bool) × Spec) → (Tmp → Spec) → Nat → Prop
  | o :: os, ((w, e), s) :: ss, E, q => (∀ i, (w = true → i = q) → (e = true → i = 0) → AtW P ops G (R i) (R (i + if w = true then 1 else 0)) o s E) ∧ OblE os ss (upd E o.dst s) (q + if w = true then 1 else 0)
  | [], [], _, _ => True
  | _, _, _, _ => False
end
def earlyOk (ops : Array Oper) (b : Array Nat) (wr ea : List Bool) : Bool := (List.range ops.size).all fun j => !marked wr j || (List.range ops.size).all fun i => !marked ea i || (b.getD j 0).testBit i
section
variable {P : Program} {ops : Array Oper} {R : Nat → World → Prop} {G : World → World → Prop} {ss : List Spec} {a0 : Act} {n m : Nat} {wr : List Bool}
theorem e0 {o : Oper} {s : Spec} {E : Tmp → Spec} {q : Nat} (h : ∀ i, AtW P ops G (R i) (R i) o s E) : ∀ i, (false = true → i = q) → (false = true → i = 0) → AtW P ops G (R i) (R (i + if false = true then 1 else 0)) o s E := fun i _ _ => h i
theorem e1 {o : Oper} {s : Spec} {E : Tmp → Spec} {q : Nat} (h : AtW P ops G (R q) (R (q + 1)) o s E) : ∀ i, (true = true → i = q) → (false = true → i = 0) → AtW P ops G (R i) (R (i + if true = true then 1 else 0)) o s E := fun i hi _ => by
  obtain rfl := hi rfl
  exact h
theorem e2 {o : Oper} {s : Spec} {E : Tmp → Spec} {q : Nat} (h : AtW P ops G (R 0) (R 0) o s E) : ∀ i, (false = true → i = q) → (true = true → i = 0) → AtW P ops G (R i) (R (i + if false = true then 1 else 0)) o s E := fun i _ hi => by
  obtain rfl := hi rfl
  exact h
theorem obl_preE (bs : List ((Bool × Bool) × Spec)) (E : Tmp → Spec) (m : Nat) (hm : m ≤ ops.size) (hl : bs.length = m) (h : OblE P ops R G (ops.toList.take m) bs (know ops (bs.map (·.2)) E 0) 0) :
    (∀ k o i, k < m → ops[k]? = some o → (marked (bs.map (·.1.1)) k = true → i = rank (bs.map (·.1.1)) k) → (marked (bs.map (·.1.2)) k = true → i = 0) → AtW P ops G (R i) (R (i + if marked (bs.map (·.1.1)) k then 1 else 0)) o (sp (bs.map (·.2)) k) (know ops (bs.map (·.2)) E k)) ∧
      envN (ops.toList.take m) (bs.map (·.2)) (know ops (bs.map (·.2)) E 0) = know ops (bs.map (·.2)) E m := by
  have key : ∀ (d k : Nat), k + d = m → OblE P ops R G ((ops.toList.take m).drop k) (bs.drop k) (know ops (bs.map (·.2)) E k) (rank (bs.map (·.1.1)) k) →
      (∀ j o i, k ≤ j → j < m → ops[j]? = some o → (marked (bs.map (·.1.1)) j = true → i = rank (bs.map (·.1.1)) j) → (marked (bs.map (·.1.2)) j = true → i = 0) → AtW P ops G (R i) (R (i + if marked (bs.map (·.1.1)) j then 1 else 0)) o (sp (bs.map (·.2)) j) (know ops (bs.map (·.2)) E j)) ∧
        envN ((ops.toList.take m).drop k) ((bs.map (·.2)).drop k) (know ops (bs.map (·.2)) E k) = know ops (bs.map (·.2)) E m := by
    intro d
    induction d with
    | zero =>
      intro k hk _
      have : k = m := by omega
      subst this
      refine ⟨fun j o i h1 h2 => by omega, ?_⟩
      have e1 : (ops.toList.take k).drop k = [] := by simp
      rw [e1]
      cases (bs.map (·.2)).drop k <;> rfl
    | succ d ih =>
      intro k hk hO
      have hkm : k < m := by omega
      have hks : k < ops.size := by omega
      have e1 : (ops.toList.take m).drop k = ops[k] :: (ops.toList.take m).drop (k + 1) := by
        rw [List.drop_eq_getElem_cons (by simp; omega)]
        simp
      have hkl : k < bs.length := by omega
      have e2 : bs.drop k = bs[k] :: bs.drop (k + 1) := List.drop_eq_getElem_cons hkl
      have e3 : (bs.map (·.2)).drop k = bs[k].2 :: (bs.map (·.2)).drop (k + 1) := by
        rw [List.drop_eq_getElem_cons (by simpa using hkl)]; simp
      have ho : ops[k]? = some ops[k] := Array.getElem?_eq_getElem hks
      have hs : (bs.map (·.2))[k]? = some bs[k].2 := by rw [List.getElem?_map, List.getElem?_eq_getElem hkl]; rfl
      have hmk : marked (bs.map (·.1.1)) k = bs[k].1.1 := by
        unfold marked
        rw [List.getD_eq_getElem?_getD, List.getElem?_map, List.getElem?_eq_getElem hkl]; rfl
      have hrk := rank_succ (bs.map (·.1.1)) k (by simpa using hkl)
      have hsp : sp (bs.map (·.2)) k = bs[k].2 := by simp [sp, hs]
      rw [e1, e2] at hO
      have hme : marked (bs.map (·.1.2)) k = bs[k].1.2 := by
        unfold marked
        rw [List.getD_eq_getElem?_getD, List.getElem?_map, List.getElem?_eq_getElem hkl]; rfl
      have hA : (∀ i, (bs[k].1.1 = true → i = rank (bs.map (·.1.1)) k) → (bs[k].1.2 = true → i = 0) → AtW P ops G (R i) (R (i + if bs[k].1.1 = true then 1 else 0)) ops[k] bs[k].2 (know ops (bs.map (·.2)) E k)) ∧
          OblE P ops R G ((ops.toList.take m).drop (k + 1)) (bs.drop (k + 1)) (upd (know ops (bs.map (·.2)) E k) ops[k].dst bs[k].2) (rank (bs.map (·.1.1)) k + if bs[k].1.1 = true then 1 else 0) := by
        revert hO
        generalize bs[k] = b
        obtain ⟨⟨b1, b3⟩, b2⟩ := b
        intro hO
        exact hO
      obtain ⟨hA, hO'⟩ := hA
      rw [← know_succ ops (bs.map (·.2)) E k ops[k] bs[k].2 ho hs, ← hmk, ← hrk] at hO'
      obtain ⟨i1, i2⟩ := ih (k + 1) (by omega) hO'
      refine ⟨fun j o i h1 h2 hj hi he => ?_, ?_⟩
      · by_cases hjk : j = k
        · subst hjk
          rw [ho] at hj
          cases hj
          rw [hsp, hmk]
          rw [hmk] at hi
          rw [hme] at he
          exact hA i hi he
        · exact i1 j o i (by omega) h2 hj hi he
      · rw [e1, e3]
        simp only [envN]
        rw [← know_succ ops (bs.map (·.2)) E k ops[k] bs[k].2 ho hs]
        exact i2
  have := key m 0 (by omega) (by simpa [rank] using h)
  refine ⟨fun k o i h1 h2 hi he => this.1 k o i (Nat.zero_le _) h1 h2 hi he, ?_⟩
  simpa using this.2
theorem rg_e {Q : Exit → Act → World → Prop} (hb : befOk ops (Region.before ops) = true) (hn : namesOk ops (Region.before ops) n = true)
    (hm : m ≤ ops.size) (ht : tailOk ops (Region.before ops) m = true) (hq : Region.seqB .any ops (ops.size - m) m (headDone ops.size m) = true)
    (hw : wrOk ops (Region.before ops) wr = true) (hwl : wr.length = m) {ea : List Bool} (hea : earlyOk ops (Region.before ops) wr ea = true)
    (hsz : a0.tmps.size = n) (hst : ∀ i v W W', sp ss i v W → G W W' → sp ss i v W')
    (hob : ∀ k o i, k < m → ops[k]? = some o → (marked wr k = true → i = rank wr k) → (marked ea k = true → i = 0) → AtW P ops G (R i) (R (i + if marked wr k then 1 else 0)) o (sp ss k) (know ops ss (fun t v _ => v = a0.tmps.getD t undef) k))
    (hend : ∀ a W, R (rank wr m) W → a.defers = a0.defers → a.tmps.size = a0.tmps.size → (∀ t, know ops ss (fun t v _ => v = a0.tmps.getD t undef) m t (a.tmps.getD t undef) W) → wpList P ops Q (ops.toList.drop m) a W) :
    ∀ (fuel : Nat) (listed : Array Bool) (a : Act) (W : World), unl m listed = fuel → Inv ops (fun _ => True) ss a0 listed a W → R (cnt wr listed m) W → (∀ t, m ≤ t → listed.getD t false = false) → wpAny P .any ops Q (fuel + (ops.size - m)) listed a W := by
  intro fuel
  induction fuel with
  | zero =>
    intro listed a W hu hI hRW htl
    have hall := unl_zero m listed hu
    have hl : listed = headDone ops.size m := by
      apply Array.ext
      · rw [hI.size]; simp [headDone]
      · intro i h1 h2
        have e1 : listed.getD i false = listed[i] := by simp [h1]
        have e2 : (headDone ops.size m).getD i false = (headDone ops.size m)[i] := by simp [h2]
        rw [← e1, ← e2, headDone_getD, if_pos (by rw [← hI.size]; exact h1)]
        by_cases him : i < m
        · have := hall i him
          simp [h1] at this
          simp [h1, this, him]
        · rw [htl i (by omega)]
          simp [him]
    have hc : cnt wr listed m = rank wr m := by
      rw [rank_eq wr m (by omega)]
      unfold cnt
      congr 1
      apply List.filter_congr
      intro i hi
      have := listed_false (by have := hI.size; have := List.mem_range.1 hi; omega) (hall i (List.mem_range.1 hi))
      rw [this, Bool.and_true]
    rw [hc] at hRW
    have hw := hend a W hRW hI.defers hI.tsize fun t => by
      unfold know
      cases hw : lastW ops m t with
      | some i =>
        obtain ⟨h1, h2, h3⟩ := lastW_some hw
        refine hI.new t i h1 (listed_false (by have := hI.size; omega) (hall i h2)) fun j hj hlj => ?_
        by_cases hjm : j < m
        · exact h3 j hj hjm
        · rw [htl j (by omega)] at hlj; cases hlj
      | none =>
        have h1 := lastW_none hw
        exact hI.old t fun i hi => htl i (h1 i hi)
    rw [hl]
    have hlen : (ops.toList.drop m).length = ops.size - m := by simp
    have := wpAny_of_seq (P := P) (md := .any) (Q' := Q) (ops.toList.drop m) m (headDone ops.size m) a W (fun j => by simp [List.getElem?_drop]) (by rw [hlen]; exact hq) hw
    rw [hlen] at this
    rw [Nat.zero_add]
    exact this
  | succ fuel ih =>
    intro listed a W hu hI hRW htl
    obtain ⟨i, him, hui⟩ := unl_pos m listed (by omega)
    rw [show fuel + 1 + (ops.size - m) = (fuel + (ops.size - m)) + 1 by omega]
    have hready : ∀ k, k < m → listed.getD k true = false → ∃ j, j < m ∧ j ∈ Region.ready .any ops listed := by
      intro k
      induction k using Nat.strongRecOn with
      | _ k ihk =>
        intro hk huk
        have hks : k < ops.size := by omega
        have ho : ops[k]? = some ops[k] := Array.getElem?_eq_getElem hks
        have h1 := List.all_eq_true.1 hb k (by simpa using hks)
        rw [ho] at h1
        simp only [Bool.and_eq_true, Array.all_eq_true_iff_forall_mem, Bool.or_eq_true, Bool.not_eq_true', decide_eq_true_eq] at h1
        by_cases hall : ∀ e ∈ ops[k].after, Region.binds .any e = true → listed.getD e.on false = true
        · exact ⟨k, hk, mem_ready.2 ⟨huk, _, ho, hall⟩⟩
        · have ⟨e, he⟩ : ∃ e, ¬ (e ∈ ops[k].after → Region.binds .any e = true → listed.getD e.on false = true) := Classical.not_forall.1 hall
          have he1 : e ∈ ops[k].after := Classical.byContradiction fun hc => he fun h => absurd h hc
          have he2 : Region.binds .any e = true := Classical.byContradiction fun hc => he fun _ h => absurd h hc
          have he3 : ¬ listed.getD e.on false = true := fun hc => he fun _ _ => hc
          have hlt := (h1.1 e he1).resolve_left (by rw [he2]; simp)
          refine ihk e.on hlt (by omega) ?_
          have : e.on < listed.size := by rw [hI.size]; omega
          simp [this] at he3 ⊢
          exact he3
    obtain ⟨j0, hj0, hj0r⟩ := hready i him hui
    refine ⟨fun h => (by rw [h] at hj0r; cases hj0r), fun k hk => ?_⟩
    obtain ⟨h1, o, ho, hp⟩ := mem_ready.1 hk
    have hks : k < ops.size := (Array.getElem?_eq_some_iff.1 ho).1
    have hks' : k < listed.size := by rw [hI.size]; exact hks
    have h1' : listed.getD k false = false := by
      simp only [Array.getD_eq_getD_getElem?, Array.getElem?_eq_getElem hks', Option.getD_some] at h1 ⊢
      exact h1
    have hl := bef_listed hb hI.closed
    -- what stands ahead of k is listed
    have hahead : ∀ i, i < ops.size → ((Region.before ops).getD k 0).testBit i = true → listed.getD i false = true := by
      intro i hi hbit
      have h4 := List.all_eq_true.1 hb k (by simpa using hks)
      rw [ho] at h4
      simp only [Bool.and_eq_true, List.all_eq_true, List.mem_range, Bool.or_eq_true, Bool.not_eq_true'] at h4
      have h5 := (h4.2 i hi).resolve_left (by rw [hbit]; simp)
      obtain ⟨e, he, h6⟩ := Array.any_eq_true'.1 h5
      simp only [Bool.and_eq_true, Bool.or_eq_true, beq_iff_eq, decide_eq_true_eq] at h6
      have hle := hp e he h6.1
      rcases h6.2 with h7 | ⟨h7, h8⟩
      · rw [← h7]; exact hle
      · exact hl e.on (by omega) hle i hi h8
    have hkm : k < m := by
      rcases Nat.lt_or_ge k m with h | h
      · exact h
      · exfalso
        have h2 := List.all_eq_true.1 ht k (by simpa using hks)
        simp only [Bool.or_eq_true, decide_eq_true_eq, List.all_eq_true, List.mem_range] at h2
        have h3 := (h2.resolve_left (by omega)) i him
        have hli := hahead i (by omega) h3
        have : i < listed.size := by rw [hI.size]; omega
        simp [this] at hli hui
        rw [hli] at hui
        cases hui
    have hrk : marked wr k = true → cnt wr listed m = rank wr k := by
      intro hmk
      rw [rank_eq wr k (by omega)]
      unfold cnt
      -- of those that write, the ones ahead of k are listed, the ones behind it are not
      have hsplit : List.range m = List.range k ++ (List.range (m - k)).map (k + ·) := by
        apply List.ext_getElem?
        intro j
        by_cases hj : j < k
        · rw [List.getElem?_append_left (by simpa using hj)]
          simp [hj, show j < m by omega]
        · rw [List.getElem?_append_right (by simpa using (by omega : k ≤ j))]
          simp only [List.length_range, List.getElem?_map]
          by_cases hjm : j < m
          · rw [List.getElem?_range hjm, List.getElem?_range (by omega)]
            simp; omega
          · rw [List.getElem?_eq_none (by simp; omega), List.getElem?_eq_none (by simp; omega)]; rfl
      rw [hsplit, List.filter_append, List.length_append]
      have e1 : (List.range k).filter (fun i => marked wr i && listed.getD i false) = (List.range k).filter fun i => marked wr i := by
        apply List.filter_congr
        intro j hj
        have hjk := List.mem_range.1 hj
        cases hmj : marked wr j with
        | false => rfl
        | true =>
          have h2 := List.all_eq_true.1 hw k (by simpa using hks)
          rw [hmk] at h2
          simp only [Bool.not_true, Bool.false_or, List.all_eq_true, List.mem_range, Bool.or_eq_true, Bool.not_eq_true'] at h2
          have h3 := (h2 j hjk).resolve_left (by rw [hmj]; simp)
          rw [hahead j (by omega) h3]; rfl
      have e2 : ((List.range (m - k)).map (k + ·)).filter (fun i => marked wr i && listed.getD i false) = [] := by
        rw [List.filter_eq_nil_iff]
        intro j hj
        obtain ⟨q, hq, rfl⟩ := List.mem_map.1 hj
        have hqm := List.mem_range.1 hq
        intro hc
        rw [Bool.and_eq_true] at hc
        by_cases hq0 : q = 0
        · subst hq0
          rw [Nat.add_zero, h1'] at hc
          cases hc.2
        · have hjs : k + q < ops.size := by omega
          have h2 := List.all_eq_true.1 hw (k + q) (by simpa using hjs)
          rw [hc.1] at h2
          simp only [Bool.not_true, Bool.false_or, List.all_eq_true, List.mem_range, Bool.or_eq_true, Bool.not_eq_true'] at h2
          have h3 := (h2 k (by omega)).resolve_left (by rw [hmk]; simp)
          have := hl (k + q) hjs hc.2 k hks h3
          rw [h1'] at this
          cases this
      rw [e1, e2]
      simp
    have hek : marked ea k = true → cnt wr listed m = 0 := by
      intro hme
      unfold cnt
      rw [List.length_eq_zero_iff, List.filter_eq_nil_iff]
      intro j hj hc
      rw [Bool.and_eq_true] at hc
      have hjm := List.mem_range.1 hj
      have hjs : j < ops.size := by omega
      have h2 := List.all_eq_true.1 hea j (by simpa using hjs)
      rw [hc.1] at h2
      simp only [Bool.not_true, Bool.false_or, List.all_eq_true, List.mem_range, Bool.or_eq_true, Bool.not_eq_true'] at h2
      have h3 := (h2 k hks).resolve_left (by rw [hme]; simp)
      have := hl j hjs hc.2 k hks h3
      rw [h1'] at this
      cases this
    have hat := hob k o (cnt wr listed m) hkm ho hrk hek (fun t => a.tmps.getD t undef) W hRW fun t htt => hI.looks hb hn ho h1' hp htt
    have hop : wpOp P ops Q k (wpAny P .any ops Q (fuel + (ops.size - m)) (listed.setIfInBounds k true)) a W := by
      refine Step.wpOp ho hat fun v W' ⟨hs, hR', hG⟩ => ih _ _ _ ?_ (hI.step hb hn hsz hst ho h1' hp hs trivial hG) ?_ fun t htm => ?_
      · have := unl_set (ops := ops) m k listed hkm hI.size hm h1
        omega
      · rw [cnt_set wr listed m k hkm hks' h1']
        exact hR'
      · rw [getD_set_ne false (by omega)]
        exact htl t htm
    exact hop
/-- THE RULE. -/
theorem regionE {Q : Exit → Act → World → Prop} {id : Nat} {W0 : World} (hmx : P.follows .mixedOrders = true) (n m : Nat) (hck : okT ops n m = true) (bs : List ((Bool × Bool) × Spec)) (hw : (wrOk ops (Region.before ops) (bs.map (·.1.1)) && earlyOk ops (Region.before ops) (bs.map (·.1.1)) (bs.map (·.1.2))) = true) (R : Nat → World → Prop) (G : World → World → Prop)
    (hsz : a0.tmps.size = n) (hdf : a0.defers = []) (hl : bs.length = m) (hst : Lasts G (bs.map (·.2))) (hR : R 0 W0.drew)
    (hob : OblE P ops R G (ops.toList.take m) bs (fun t v _ => v = a0.tmps.getD t undef) 0)
    (hend : ∀ tm W, R (rank (bs.map (·.1.1)) m) W → tm.size = n → (∀ t, envN (ops.toList.take m) (bs.map (·.2)) (fun t v _ => v = a0.tmps.getD t undef) t (tm.getD t undef) W) → wpList P ops Q (ops.toList.drop m) ⟨tm, []⟩ W) :
    (Code.region id ops true).wp P Q a0 W0 := by
  simp only [okT, ok, Bool.and_eq_true, decide_eq_true_eq] at hck
  obtain ⟨⟨⟨⟨c1, c2⟩, c3⟩, c4⟩, c5⟩ := hck
  rw [Bool.and_eq_true] at hw
  have hk0 : know ops (bs.map (·.2)) (fun t v _ => v = a0.tmps.getD t undef) 0 = fun t v _ => v = a0.tmps.getD t undef := rfl
  obtain ⟨h1, h2⟩ := obl_preE (P := P) (R := R) (G := G) bs (fun t v _ => v = a0.tmps.getD t undef) m c3 hl (by rw [hk0]; exact hob)
  rw [hk0] at h2
  have hst' : ∀ i v W W', sp (bs.map (·.2)) i v W → G W W' → sp (bs.map (·.2)) i v W' := by
    intro i v W W' h hG
    unfold sp at *
    cases hi : (bs.map (·.2))[i]? with
    | none => simp [hi]
    | some s =>
      simp only [List.getD_eq_getElem?_getD, hi, Option.getD_some] at h ⊢
      exact lasts_all hst s (List.mem_of_getElem? hi) v W W' h hG
  refine wp_region_any hmx ?_
  have hu : unl m (Array.replicate ops.size false) = m := by
    unfold unl
    have : (List.range m).filter (fun i => !(Array.replicate ops.size false).getD i true) = List.range m := by
      apply List.filter_eq_self.2
      intro i hi
      have := List.mem_range.1 hi
      have h9 : i < ops.size := by omega
      simp [h9]
    rw [this]; simp
  have h0 : cnt (bs.map (·.1.1)) (Array.replicate ops.size false) m = 0 := by
    unfold cnt
    have : (List.range m).filter (fun i => marked (bs.map (·.1.1)) i && (Array.replicate ops.size false).getD i false) = [] := by
      rw [List.filter_eq_nil_iff]
      intro i _
      simp only [Array.getD_eq_getD_getElem?, Array.getElem?_replicate]
      split <;> simp
    rw [this]; rfl
  have := rg_e (P := P) (Q := Q) (R := R) (G := G) (ss := bs.map (·.2)) (a0 := a0) (wr := bs.map (·.1.1)) c1 c2 c3 c4 c5 hw.1 (by simpa using hl) hw.2 hsz hst' h1 (fun a W hRW hd hs hkn => by
    obtain ⟨tm, df⟩ := a
    simp only at hd hs
    rw [hdf] at hd
    subst hd
    refine hend tm W hRW (hs.trans hsz) ?_
    rw [h2]
    exact hkn) m (Array.replicate ops.size false) a0 W0.drew hu ?_ (by rw [h0]; exact hR) (fun t _ => by simp only [Array.getD_eq_getD_getElem?, Array.getElem?_replicate]; split <;> rfl)
  · rw [show m + (ops.size - m) = ops.size by omega] at this
    exact this
  · refine ⟨by simp, trivial, rfl, rfl, ?_, ?_, fun _ _ => rfl⟩
    · intro k o _ hl
      simp only [Array.getD_eq_getD_getElem?, Array.getElem?_replicate] at hl
      split at hl <;> simp at hl
    · intro t i _ hl
      simp only [Array.getD_eq_getD_getElem?, Array.getElem?_replicate] at hl
      split at hl <;> simp at hl
end
end Go.Proofs.YtamimdlaclglkaaGreat.Rg
namespace Go.Proofs.YtamimdlaclglkaaGreat
set_option linter.unusedVariables false
set_option linter.unusedSimpArgs false
set_option linter.unnecessarySimpa false
set_option maxRecDepth 100000
open Go.RowKit
theorem dn_widen {w : World} {X Y : Avoid} {cs : List Value} {d : Dn} (h : dnE.rep w X cs d) : dnE.rep w Y cs d := dn_rep.2 (dn_rep.1 h)
theorem ln_widen {w : World} {X Y : Avoid} {cs : List Value} {d : Ln} (h : lnE.rep w X cs d) : lnE.rep w Y cs d := ln_rep.2 (ln_rep.1 h)
theorem Own.widen {α : Type} {T : TypeId} {E : Enc α} {w0 w : World} {X Y : Avoid} {v : Value} {l : List α} (hE : ∀ {cs a}, E.rep w (fun k => X k ∨ v.ownBlock = some k) cs a → E.rep w (fun k => Y k ∨ v.ownBlock = some k) cs a) (h : Own T E w0 w X v l) (hY : ∀ k, Y k → k < w0.heap.size) : Own T E w0 w Y v l := by
  obtain ⟨css, h1, h2, h3⟩ := h
  exact ⟨css, h1, ⟨h2.1, fun k cs a e1 e2 => hE (h2.2 k cs a e1 e2)⟩, fun k hk hy => by have := h1.lt k hk; have := hY k hy; omega⟩
theorem own_cells {α : Type} {T : TypeId} {E : Enc α} {w0 w : World} {X : Avoid} {g cap k : Nat} {l : List α} (h : Own T E w0 w X (.slice (some ⟨g, 0, none⟩) l.length cap) l) (hk : k < l.length) : ∃ a cs, Hid (l[k]? = some a) ∧ g < w.heap.size ∧ E.rep w (fun j => X j ∨ j = g) cs a ∧ ∀ j u, cs[j]? = some u → w.cell? ⟨g, k * E.size + j, none⟩ = some u := by
  obtain ⟨cur, css, h1, h2, h3, h4, h5, h6, h7, h8⟩ := h.blk (by omega)
  have hkc : k < css.length := by rw [h7.1]; exact hk
  have hcs : css[k]? = some css[k] := List.getElem?_eq_getElem hkc
  refine ⟨l[k], css[k], hide (List.getElem?_eq_getElem hk), h1.lt, h7.2 k _ _ hcs (List.getElem?_eq_getElem hk), fun j u hu => ?_⟩
  have h9 := Enc.flatten_at css k css[k] h7.lens hcs j u hu
  rw [← h6, List.getElem?_take] at h9
  split at h9
  · rw [h1.cell, ← Array.getElem?_toList]; exact h9
  · cases h9
theorem se_own_at {T : TypeId} {w0 w : World} {X : Avoid} {g cap k : Nat} {l : List Se} (h : Own T seE w0 w X (.slice (some ⟨g, 0, none⟩) l.length cap) l) (hk : k < l.length) : ∃ s v, Hid (l[k]? = some s) ∧ g < w.heap.size ∧ w.cell? ⟨g, k * 3, none⟩ = some (.int .i64 s.client) ∧ w.cell? ⟨g, k * 3 + 1, none⟩ = some (.int .u64 s.high) ∧ w.cell? ⟨g, k * 3 + 2, none⟩ = some v ∧ I64 s.client ∧ U64 s.high ∧ Enc.Sl dnE w (fun j => X j ∨ j = g) v s.done := by
  obtain ⟨s, cs, h1, h2, h3, h4⟩ := own_cells h hk
  obtain ⟨v, rfl, r1, r2, r3⟩ := se_rep.1 h3
  exact ⟨s, v, h1, h2, h4 0 _ rfl, h4 1 _ rfl, h4 2 _ rfl, r1, r2, r3⟩
theorem set_same {α : Type} (l : List α) (k : Nat) (a : α) (h : l[k]? = some a) : l.set k a = l := by
  obtain ⟨h1, h2⟩ := List.getElem?_eq_some_iff.1 h
  rw [← h2, List.set_getElem_self]
theorem Own.chgT {α : Type} {T T' : TypeId} {E : Enc α} {w0 w w' : World} {X : Avoid} {g : Nat} {v : Value} {l : List α} {cur : Array Value} (h : Own T E w0 w X v l) (hB : Blk w g T' cur) (hne : T ≠ T') (hc : Chg [g] w w') (hE : ∀ {Y cs a}, E.rep w Y cs a → E.rep w' Y cs a) : Own T E w0 w' X v l := by
  obtain ⟨css, h1, h2, h3⟩ := h
  refine ⟨css, own_chg h1 hc fun k hk hm => ?_, ⟨h2.1, fun k cs a e1 e2 => hE (h2.2 k cs a e1 e2)⟩, h3⟩
  simp at hm
  subst hm
  exact own_blk_ne h1 hB hne hk
end Go.Proofs.YtamimdlaclglkaaGreat
namespace Go.Proofs.YtamimdlaclglkaaGreat
set_option linter.unusedVariables false
set_option linter.unusedSimpArgs false
set_option linter.unnecessarySimpa false
set_option maxRecDepth 100000
open Go.RowKit
theorem keep1_b (d : Dn) (gc go : Nat) (q h : Int) (W : World) (hd : U64 d.seq) (hq : U64 q) (hh : U64 h) (hgc : gc < W.heap.size) (hgo : go < W.heap.size) (h1 : W.cell? ⟨gc, 2, none⟩ = some (.int .u64 q)) (h2 : W.cell? ⟨go, 1, none⟩ = some (.int .u64 h)) :
    Calls Tryz.prog 63 #[.agg #[.int .u64 d.seq, .int .i64 d.an.err, str d.an.text], .pointer (some ⟨gc, 0, none⟩), .pointer (some ⟨go, 0, none⟩)] W fun e W' => e = .returned (.bool (decide (d.seq = q) || stale d.seq h)) ∧ Ext W W' := by
  by_cases he : d.seq = q
  · have he2 : (d.seq == q) = true := by simpa using he
    have HE : Hid ((decide (d.seq = q) || stale d.seq h) = true) := by unfold Hid; simp [he]
    rw [HE.out]
    go_enter Tryz.func63, Tryz.ntmps63
    go_wp2
    go_ret
    exact ⟨rfl, (Ext.rfl' W).alloc' _⟩
  · have he2 : (d.seq == q) = false := by simpa using he
    have HE : Hid ((decide (d.seq = q) || stale d.seq h) = stale d.seq h) := by unfold Hid; simp [he]
    rw [HE.out]
    clear he
    have HS := hide (fun W => stale_b d.seq h W hd hh)
    go_enter Tryz.func63, Tryz.ntmps63
    go_wp2_with fail
    refine (HS.out _).mono ?_
    rintro e w' ⟨rfl, rfl⟩
    go_wp2
    go_ret
    exact ⟨rfl, (Ext.rfl' W).alloc' _⟩
abbrev X4 (n : Nat) : Avoid := fun k => k = n ∨ k = n + 3
theorem x4_lt {n m k : Nat} (h : n < m) (h3 : n + 3 < m) (hk : X4 n k) : k < m := by
  rcases hk with rfl | rfl
  · exact h
  · exact h3
/-- what the state's variable holds, after so many of the two stores -/
def RK (g : Nat) (W7 : World) (s : St) (vl vs : Value) (ss : List Se) : Nat → World → Prop
  | 0, W => Blk W g 28 #[.int .u64 s.now, .int .u64 s.count, vl, vs] ∧ Chg [g] W7 W
  | 1, W => (∃ u, Blk W g 28 #[.int .u64 s.now, .int .u64 s.count, u, vs] ∧ Own 53 lnE W7 W (X4 g) u s.links) ∧ Chg [g] W7 W
  | _, W => (∃ u v, Blk W g 28 #[.int .u64 s.now, .int .u64 s.count, u, v] ∧ Own 53 lnE W7 W (X4 g) u s.links ∧ Own 56 seE W7 W (X4 g) v ss) ∧ Chg [g] W7 W
section
variable {g i : Nat} {w W7 W W2 : World} {s : St} {vl vs : Value} {ss : List Se}
theorem RK.chg (h : RK g W7 s vl vs ss i W) : Chg [g] W7 W := by
  match i, h with
  | 0, h => exact h.2
  | 1, h => exact h.2
  | _ + 2, h => exact h.2
theorem RK.size (h : RK g W7 s vl vs ss i W) : W7.heap.size ≤ W.heap.size := h.chg.size
theorem RK.lt (h : RK g W7 s vl vs ss i W) : g < W.heap.size := by
  match i, h with
  | 0, h => exact h.1.lt
  | 1, h => obtain ⟨⟨u, h, _⟩, _⟩ := h; exact h.lt
  | _ + 2, h => obtain ⟨⟨u, v, h, _⟩, _⟩ := h; exact h.lt
theorem RK.x4 {k : Nat} (h : RK g W7 s vl vs ss i W) (h4 : g + 3 < W7.heap.size) (hk : X4 g k) : k < W.heap.size := x4_lt h.lt (Nat.lt_of_lt_of_le h4 h.size) hk
theorem RK.ext (h : RK g W7 s vl vs ss i W) (hx : Ext W W2) : RK g W7 s vl vs ss i W2 := by
  match i, h with
  | 0, h => exact ⟨h.1.ext hx, h.2.trans (hx.chg _)⟩
  | 1, h => obtain ⟨⟨u, h1, h2⟩, h3⟩ := h; exact ⟨⟨u, h1.ext hx, h2.ext hx⟩, h3.trans (hx.chg _)⟩
  | _ + 2, h => obtain ⟨⟨u, v, h1, h2, h4⟩, h3⟩ := h; exact ⟨⟨u, v, h1.ext hx, h2.ext hx, h4.ext hx⟩, h3.trans (hx.chg _)⟩
theorem RK.ext7 (h : RK g W7 s vl vs ss i W) (hx : Ext w W7) (hg : w.heap.size ≤ g) : Ext w W := hx.then_ h.chg (by simpa using hg)
theorem RK.cell {p : Addr} (h : RK g W7 s vl vs ss i W) (hp : p.block < W7.heap.size) (hn : p.block ≠ g) : W.cell? p = W7.cell? p := h.chg.cell hp (by simpa using hn)
theorem RK.blk0 (h : RK g W7 s vl vs ss 0 W) : Blk W g 28 #[.int .u64 s.now, .int .u64 s.count, vl, vs] := h.1
theorem RK.at3 (h : RK g W7 s vl vs ss 1 W) : ∃ u3, W.frozen? ⟨g, 3, none⟩ = false ∧ W.cell? ⟨g, 3, none⟩ = some u3 := by
  obtain ⟨⟨u, h, _⟩, _⟩ := h
  exact ⟨vs, h.frozen _, (h.cell 3).trans rfl⟩
theorem RK.start (h : Blk W7 g 28 #[.int .u64 s.now, .int .u64 s.count, vl, vs]) : RK g W7 s vl vs ss 0 W7.drew := ⟨h, (Chg.refl _ _).drew⟩
theorem RK.st1 {u : Value} (h : RK g W7 s vl vs ss 0 W) (hu : Own 53 lnE W7 W (X4 g) u s.links) : RK g W7 s vl vs ss 1 (W.setCell ⟨g, 2, none⟩ u) :=
  ⟨⟨u, h.1.set_ 2 u, hu.chg ((Chg.refl [g] W).set (by simp) u) (fun k hk _ => .inl (by simpa using hk))⟩, h.2.set (by simp) u⟩
theorem RK.st2 {u : Value} (h : RK g W7 s vl vs ss 1 W) (hu : Own 56 seE W7 W (X4 g) u ss) : RK g W7 s vl vs ss 2 (W.setCell ⟨g, 3, none⟩ u) := by
  obtain ⟨⟨v, h1, h2⟩, h3⟩ := h
  exact ⟨⟨v, u, h1.set_ 3 u, h2.chg ((Chg.refl [g] W).set (by simp) u) (fun k hk _ => .inl (by simpa using hk)), hu.chg ((Chg.refl [g] W).set (by simp) u) (fun k hk _ => .inl (by simpa using hk))⟩, h3.set (by simp) u⟩
end
theorem new4 (w : World) (T1 T2 T3 T4 : TypeId) (c1 c2 c3 c4 : Array Value) : Blk ((((w.alloc (.cells c1 T1)).alloc (.cells c2 T2)).alloc (.cells c3 T3)).alloc (.cells c4 T4)) w.heap.size T1 c1 ∧ Blk ((((w.alloc (.cells c1 T1)).alloc (.cells c2 T2)).alloc (.cells c3 T3)).alloc (.cells c4 T4)) (w.heap.size + 1) T2 c2 ∧
    Blk ((((w.alloc (.cells c1 T1)).alloc (.cells c2 T2)).alloc (.cells c3 T3)).alloc (.cells c4 T4)) (w.heap.size + 2) T3 c3 ∧ Blk ((((w.alloc (.cells c1 T1)).alloc (.cells c2 T2)).alloc (.cells c3 T3)).alloc (.cells c4 T4)) (w.heap.size + 3) T4 c4 ∧ Ext w ((((w.alloc (.cells c1 T1)).alloc (.cells c2 T2)).alloc (.cells c3 T3)).alloc (.cells c4 T4)) ∧
    ((((w.alloc (.cells c1 T1)).alloc (.cells c2 T2)).alloc (.cells c3 T3)).alloc (.cells c4 T4)).heap.size = w.heap.size + 4 := by
  obtain ⟨h1, h2, h3, hx⟩ := new3 w T1 T2 T3 c1 c2 c3
  have h4 := Blk.new (((w.alloc (.cells c1 T1)).alloc (.cells c2 T2)).alloc (.cells c3 T3)) T4 c4
  rw [show (((w.alloc (.cells c1 T1)).alloc (.cells c2 T2)).alloc (.cells c3 T3)).heap.size = w.heap.size + 3 by simp] at h4
  exact ⟨h1.alloc _, h2.alloc _, h3.alloc _, h4, hx.alloc' _, by simp⟩
theorem put4 {W : World} {g : Nat} {T : TypeId} {c0 c1 c2 c3 : Value} (h : Blk W g T #[c0, c1, c2, c3]) (a b c d : Value) : Blk ((((W.setCell ⟨g, 0, none⟩ a).setCell ⟨g, 1, none⟩ b).setCell ⟨g, 2, none⟩ c).setCell ⟨g, 3, none⟩ d) g T #[a, b, c, d] ∧
    Chg [g] W ((((W.setCell ⟨g, 0, none⟩ a).setCell ⟨g, 1, none⟩ b).setCell ⟨g, 2, none⟩ c).setCell ⟨g, 3, none⟩ d) :=
  ⟨(((h.set_ 0 a).set_ 1 b).set_ 2 c).set_ 3 d, ((((Chg.refl [g] W).set (by simp) a).set (by simp) b).set (by simp) c).set (by simp) d⟩
end Go.Proofs.YtamimdlaclglkaaGreat
