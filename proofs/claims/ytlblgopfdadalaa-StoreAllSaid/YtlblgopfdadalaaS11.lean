/- A part of the proof of 'StoreAll'. -/
import Derived.Test.YtlblgopfdadalaaS10
import Derived.Test.YtlblgopfdadalaaS4
import Derived.Test.YtlblgopfdadalaaS6
import Derived.Test.YtlblgopfdadalaaS7
import Derived.Test.YtlblgopfdadalaaS5
import Derived.Deep.DeepCutAuto
import Derived.Laws.Rows
import Derived.Laws.Tables
import Derived.Tactics2
import Derived.Test.YtlblgopfdadalaaS8
namespace Go.Proofs.Ytlblgopfdadalaa.Rg
set_option linter.unusedVariables false
set_option linter.unusedSimpArgs false
set_option linter.unnecessarySimpa false
set_option maxRecDepth 100000
open Go
section
variable (P : Program) (ops : Array Oper) (R : Nat → World → Prop) (G : World → World → Prop)
/-- each operation, in the text's order: does it write? does it come ahead of all that write? -/
def OblE : List Oper → List ((Bool × Bool) × Spec) → (Tmp → Spec) → Nat → Prop
  | o :: os, ((w, e), s) :: ss, E, q => (∀ i, (w = true → i = q) → (e = true → i = 0) → AtW P ops G (R i) (R (i + if w = true then 1 else 0)) o s E) ∧ OblE os ss (upd E o.dst s) (q + if w = true then 1 else 0)
  | [], [], _, _ => True
  | _, _, _, _ => False
end
def earlyOk (ops : Array Oper) (b : Array Nat) (wr ea : List Bool) : Bool := (List.range ops.size).all fun j => !marked wr j || (List.range ops.size).all fun i => !marked ea i || (b.getD j 0).testBit i
section
variable {P : Program} {ops : Array Oper} {R : Nat → World → Prop} {G : World → World → Prop} {ss : List Spec} {a0 : Act} {n m : Nat} {wr : List Bool}
theorem e0 {o : Oper} {s : Spec} {E : Tmp → Spec} {q : Nat} (h : ∀ i, AtW P ops G (R i) (R i) o s E) : ∀ i, (false = true → i = q) → (false = true → i = 0) → AtW P ops G (R i) (R (i + if false = true then 1 else 0)) o s E := fun i _ _ => h i
theorem e1 {o : Oper} {s : Spec} {E : Tmp → Spec} {q : Nat} (h : AtW P ops G (R q) (R (q + 1)) o s E) : ∀ i, (true = true → i = q) → (false = true → i = 0) → AtW P ops G (R i) (R (i + if true = true then 1 else 0)) o s E := fun i hi _ => by
  obtain rfl := hi rfl
  exact h
theorem e2 {o : Oper} {s : Spec} {E : Tmp → Spec} {q : Nat} (h : AtW P ops G (R 0) (R 0) o s E) : ∀ i, (false = true → i = q) → (true = true → i = 0) → AtW P ops G (R i) (R (i + if false = true then 1 else 0)) o s E := fun i _ hi => by
  obtain rfl := hi rfl
  exact h
theorem obl_preE (bs : List ((Bool × Bool) × Spec)) (E : Tmp → Spec) (m : Nat) (hm : m ≤ ops.size) (hl : bs.length = m) (h : OblE P ops R G (ops.toList.take m) bs (know ops (bs.map (·.2)) E 0) 0) :
    (∀ k o i, k < m → ops[k]? = some o → (marked (bs.map (·.1.1)) k = true → i = rank (bs.map (·.1.1)) k) → (marked (bs.map (·.1.2)) k = true → i = 0) → AtW P ops G (R i) (R (i + if marked (bs.map (·.1.1)) k then 1 else 0)) o (sp (bs.map (·.2)) k) (know ops (bs.map (·.2)) E k)) ∧
      envN (ops.toList.take m) (bs.map (·.2)) (know ops (bs.map (·.2)) E 0) = know ops (bs.map (·.2)) E m := by
  have key : ∀ (d k : Nat), k + d = m → OblE P ops R G ((ops.toList.take m).drop k) (bs.drop k) (know ops (bs.map (·.2)) E k) (rank (bs.map (·.1.1)) k) →
      (∀ j o i, k ≤ j → j < m → ops[j]? = some o → (marked (bs.map (·.1.1)) j = true → i = rank (bs.map (·.1.1)) j) → (marked (bs.map (·.1.2)) j = true → i = 0) → AtW P ops G (R i) (R (i + if marked (bs.map (·.1.1)) j then 1 else 0)) o (sp (bs.map (·.2)) j) (know ops (bs.map (·.2)) E j)) ∧
        envN ((ops.toList.take m).drop k) ((bs.map (·.2)).drop k) (know ops (bs.map (·.2)) E k) = know ops (bs.map (·.2)) E m := by
    intro d
    induction d with
    | zero =>
      intro k hk _
      have : k = m := by omega
      subst this
      refine ⟨fun j o i h1 h2 => by omega, ?_⟩
      have e1 : (ops.toList.take k).drop k = [] := by simp
      rw [e1]
      cases (bs.map (·.2)).drop k <;> rfl
    | succ d ih =>
      intro k hk hO
      have hkm : k < m := by omega
      have hks : k < ops.size := by omega
      have e1 : (ops.toList.take m).drop k = ops[k] :: (ops.toList.take m).drop (k + 1) := by
        rw [List.drop_eq_getElem_cons (by simp; omega)]
        simp
      have hkl : k < bs.length := by omega
      have e2 : bs.drop k = bs[k] :: bs.drop (k + 1) := List.drop_eq_getElem_cons hkl
      have e3 : (bs.map (·.2)).drop k = bs[k].2 :: (bs.map (·.2)).drop (k + 1) := by
        rw [List.drop_eq_getElem_cons (by simpa using hkl)]; simp
      have ho : ops[k]? = some ops[k] := Array.getElem?_eq_getElem hks
      have hs : (bs.map (·.2))[k]? = some bs[k].2 := by rw [List.getElem?_map, List.getElem?_eq_getElem hkl]; rfl
      have hmk : marked (bs.map (·.1.1)) k = bs[k].1.1 := by
        unfold marked
        rw [List.getD_eq_getElem?_getD, List.getElem?_map, List.getElem?_eq_getElem hkl]; rfl
      have hrk := rank_succ (bs.map (·.1.1)) k (by simpa using hkl)
      have hsp : sp (bs.map (·.2)) k = bs[k].2 := by simp [sp, hs]
      rw [e1, e2] at hO
      have hme : marked (bs.map (·.1.2)) k = bs[k].1.2 := by
        unfold marked
        rw [List.getD_eq_getElem?_getD, List.getElem?_map, List.getElem?_eq_getElem hkl]; rfl
      have hA : (∀ i, (bs[k].1.1 = true → i = rank (bs.map (·.1.1)) k) → (bs[k].1.2 = true → i = 0) → AtW P ops G (R i) (R (i + if bs[k].1.1 = true then 1 else 0)) ops[k] bs[k].2 (know ops (bs.map (·.2)) E k)) ∧
          OblE P ops R G ((ops.toList.take m).drop (k + 1)) (bs.drop (k + 1)) (upd (know ops (bs.map (·.2)) E k) ops[k].dst bs[k].2) (rank (bs.map (·.1.1)) k + if bs[k].1.1 = true then 1 else 0) := by
        revert hO
        generalize bs[k] = b
        obtain ⟨⟨b1, b3⟩, b2⟩ := b
        intro hO
        exact hO
      obtain ⟨hA, hO'⟩ := hA
      rw [← know_succ ops (bs.map (·.2)) E k ops[k] bs[k].2 ho hs, ← hmk, ← hrk] at hO'
      obtain ⟨i1, i2⟩ := ih (k + 1) (by omega) hO'
      refine ⟨fun j o i h1 h2 hj hi he => ?_, ?_⟩
      · by_cases hjk : j = k
        · subst hjk
          rw [ho] at hj
          cases hj
          rw [hsp, hmk]
          rw [hmk] at hi
          rw [hme] at he
          exact hA i hi he
        · exact i1 j o i (by omega) h2 hj hi he
      · rw [e1, e3]
        simp only [envN]
        rw [← know_succ ops (bs.map (·.2)) E k ops[k] bs[k].2 ho hs]
        exact i2
  have := key m 0 (by omega) (by simpa [rank] using h)
  refine ⟨fun k o i h1 h2 hi he => this.1 k o i (Nat.zero_le _) h1 h2 hi he, ?_⟩
  simpa using this.2
theorem rg_e {Q : Exit → Act → World → Prop} (hb : befOk ops (Region.before ops) = true) (hn : namesOk ops (Region.before ops) n = true)
    (hm : m ≤ ops.size) (ht : tailOk ops (Region.before ops) m = true) (hq : Region.seqB .any ops (ops.size - m) m (headDone ops.size m) = true)
    (hw : wrOk ops (Region.before ops) wr = true) (hwl : wr.length = m) {ea : List Bool} (hea : earlyOk ops (Region.before ops) wr ea = true)
    (hsz : a0.tmps.size = n) (hst : ∀ i v W W', sp ss i v W → G W W' → sp ss i v W')
    (hob : ∀ k o i, k < m → ops[k]? = some o → (marked wr k = true → i = rank wr k) → (marked ea k = true → i = 0) → AtW P ops G (R i) (R (i + if marked wr k then 1 else 0)) o (sp ss k) (know ops ss (fun t v _ => v = a0.tmps.getD t undef) k))
    (hend : ∀ a W, R (rank wr m) W → a.defers = a0.defers → a.tmps.size = a0.tmps.size → (∀ t, know ops ss (fun t v _ => v = a0.tmps.getD t undef) m t (a.tmps.getD t undef) W) → wpList P ops Q (ops.toList.drop m) a W) :
    ∀ (fuel : Nat) (listed : Array Bool) (a : Act) (W : World), unl m listed = fuel → Inv ops (fun _ => True) ss a0 listed a W → R (cnt wr listed m) W → (∀ t, m ≤ t → listed.getD t false = false) → wpAny P .any ops Q (fuel + (ops.size - m)) listed a W := by
  intro fuel
  induction fuel with
  | zero =>
    intro listed a W hu hI hRW htl
    have hall := unl_zero m listed hu
    have hl : listed = headDone ops.size m := by
      apply Array.ext
      · rw [hI.size]; simp [headDone]
      · intro i h1 h2
        have e1 : listed.getD i false = listed[i] := by simp [h1]
        have e2 : (headDone ops.size m).getD i false = (headDone ops.size m)[i] := by simp [h2]
        rw [← e1, ← e2, headDone_getD, if_pos (by rw [← hI.size]; exact h1)]
        by_cases him : i < m
        · have := hall i him
          simp [h1] at this
          simp [h1, this, him]
        · rw [htl i (by omega)]
          simp [him]
    have hc : cnt wr listed m = rank wr m := by
      rw [rank_eq wr m (by omega)]
      unfold cnt
      congr 1
      apply List.filter_congr
      intro i hi
      have := listed_false (by have := hI.size; have := List.mem_range.1 hi; omega) (hall i (List.mem_range.1 hi))
      rw [this, Bool.and_true]
    rw [hc] at hRW
    have hw := hend a W hRW hI.defers hI.tsize fun t => by
      unfold know
      cases hw : lastW ops m t with
      | some i =>
        obtain ⟨h1, h2, h3⟩ := lastW_some hw
        refine hI.new t i h1 (listed_false (by have := hI.size; omega) (hall i h2)) fun j hj hlj => ?_
        by_cases hjm : j < m
        · exact h3 j hj hjm
        · rw [htl j (by omega)] at hlj; cases hlj
      | none =>
        have h1 := lastW_none hw
        exact hI.old t fun i hi => htl i (h1 i hi)
    rw [hl]
    have hlen : (ops.toList.drop m).length = ops.size - m := by simp
    have := wpAny_of_seq (P := P) (md := .any) (Q' := Q) (ops.toList.drop m) m (headDone ops.size m) a W (fun j => by simp [List.getElem?_drop]) (by rw [hlen]; exact hq) hw
    rw [hlen] at this
    rw [Nat.zero_add]
    exact this
  | succ fuel ih =>
    intro listed a W hu hI hRW htl
    obtain ⟨i, him, hui⟩ := unl_pos m listed (by omega)
    rw [show fuel + 1 + (ops.size - m) = (fuel + (ops.size - m)) + 1 by omega]
    have hready : ∀ k, k < m → listed.getD k true = false → ∃ j, j < m ∧ j ∈ Region.ready .any ops listed := by
      intro k
      induction k using Nat.strongRecOn with
      | _ k ihk =>
        intro hk huk
        have hks : k < ops.size := by omega
        have ho : ops[k]? = some ops[k] := Array.getElem?_eq_getElem hks
        have h1 := List.all_eq_true.1 hb k (by simpa using hks)
        rw [ho] at h1
        simp only [Bool.and_eq_true, Array.all_eq_true_iff_forall_mem, Bool.or_eq_true, Bool.not_eq_true', decide_eq_true_eq] at h1
        by_cases hall : ∀ e ∈ ops[k].after, Region.binds .any e = true → listed.getD e.on false = true
        · exact ⟨k, hk, mem_ready.2 ⟨huk, _, ho, hall⟩⟩
        · have ⟨e, he⟩ : ∃ e, ¬ (e ∈ ops[k].after → Region.binds .any e = true → listed.getD e.on false = true) := Classical.not_forall.1 hall
          have he1 : e ∈ ops[k].after := Classical.byContradiction fun hc => he fun h => absurd h hc
          have he2 : Region.binds .any e = true := Classical.byContradiction fun hc => he fun _ h => absurd h hc
          have he3 : ¬ listed.getD e.on false = true := fun hc => he fun _ _ => hc
          have hlt := (h1.1 e he1).resolve_left (by rw [he2]; simp)
          refine ihk e.on hlt (by omega) ?_
          have : e.on < listed.size := by rw [hI.size]; omega
          simp [this] at he3 ⊢
          exact he3
    obtain ⟨j0, hj0, hj0r⟩ := hready i him hui
    refine ⟨fun h => (by rw [h] at hj0r; cases hj0r), fun k hk => ?_⟩
    obtain ⟨h1, o, ho, hp⟩ := mem_ready.1 hk
    have hks : k < ops.size := (Array.getElem?_eq_some_iff.1 ho).1
    have hks' : k < listed.size := by rw [hI.size]; exact hks
    have h1' : listed.getD k false = false := by
      simp only [Array.getD_eq_getD_getElem?, Array.getElem?_eq_getElem hks', Option.getD_some] at h1 ⊢
      exact h1
    have hl := bef_listed hb hI.closed
    -- what stands ahead of k is listed
    have hahead : ∀ i, i < ops.size → ((Region.before ops).getD k 0).testBit i = true → listed.getD i false = true := by
      intro i hi hbit
      have h4 := List.all_eq_true.1 hb k (by simpa using hks)
      rw [ho] at h4
      simp only [Bool.and_eq_true, List.all_eq_true, List.mem_range, Bool.or_eq_true, Bool.not_eq_true'] at h4
      have h5 := (h4.2 i hi).resolve_left (by rw [hbit]; simp)
      obtain ⟨e, he, h6⟩ := Array.any_eq_true'.1 h5
      simp only [Bool.and_eq_true, Bool.or_eq_true, beq_iff_eq, decide_eq_true_eq] at h6
      have hle := hp e he h6.1
      rcases h6.2 with h7 | ⟨h7, h8⟩
      · rw [← h7]; exact hle
      · exact hl e.on (by omega) hle i hi h8
    have hkm : k < m := by
      rcases Nat.lt_or_ge k m with h | h
      · exact h
      · exfalso
        have h2 := List.all_eq_true.1 ht k (by simpa using hks)
        simp only [Bool.or_eq_true, decide_eq_true_eq, List.all_eq_true, List.mem_range] at h2
        have h3 := (h2.resolve_left (by omega)) i him
        have hli := hahead i (by omega) h3
        have : i < listed.size := by rw [hI.size]; omega
        simp [this] at hli hui
        rw [hli] at hui
        cases hui
    have hrk : marked wr k = true → cnt wr listed m = rank wr k := by
      intro hmk
      rw [rank_eq wr k (by omega)]
      unfold cnt
      -- of those that write, the ones ahead of k are listed, the ones behind it are not
      have hsplit : List.range m = List.range k ++ (List.range (m - k)).map (k + ·) := by
        apply List.ext_getElem?
        intro j
        by_cases hj : j < k
        · rw [List.getElem?_append_left (by simpa using hj)]
          simp [hj, show j < m by omega]
        · rw [List.getElem?_append_right (by simpa using (by omega : k ≤ j))]
          simp only [List.length_range, List.getElem?_map]
          by_cases hjm : j < m
          · rw [List.getElem?_range hjm, List.getElem?_range (by omega)]
            simp; omega
          · rw [List.getElem?_eq_none (by simp; omega), List.getElem?_eq_none (by simp; omega)]; rfl
      rw [hsplit, List.filter_append, List.length_append]
      have e1 : (List.range k).filter (fun i => marked wr i && listed.getD i false) = (List.range k).filter fun i => marked wr i := by
        apply List.filter_congr
        intro j hj
        have hjk := List.mem_range.1 hj
        cases hmj : marked wr j with
        | false => rfl
        | true =>
          have h2 := List.all_eq_true.1 hw k (by simpa using hks)
          rw [hmk] at h2
          simp only [Bool.not_true, Bool.false_or, List.all_eq_true, List.mem_range, Bool.or_eq_true, Bool.not_eq_true'] at h2
          have h3 := (h2 j hjk).resolve_left (by rw [hmj]; simp)
          rw [hahead j (by omega) h3]; rfl
      have e2 : ((List.range (m - k)).map (k + ·)).filter (fun i => marked wr i && listed.getD i false) = [] := by
        rw [List.filter_eq_nil_iff]
        intro j hj
        obtain ⟨q, hq, rfl⟩ := List.mem_map.1 hj
        have hqm := List.mem_range.1 hq
        intro hc
        rw [Bool.and_eq_true] at hc
        by_cases hq0 : q = 0
        · subst hq0
          rw [Nat.add_zero, h1'] at hc
          cases hc.2
        · have hjs : k + q < ops.size := by omega
          have h2 := List.all_eq_true.1 hw (k + q) (by simpa using hjs)
          rw [hc.1] at h2
          simp only [Bool.not_true, Bool.false_or, List.all_eq_true, List.mem_range, Bool.or_eq_true, Bool.not_eq_true'] at h2
          have h3 := (h2 k (by omega)).resolve_left (by rw [hmk]; simp)
          have := hl (k + q) hjs hc.2 k hks h3
          rw [h1'] at this
          cases this
      rw [e1, e2]
      simp
    have hek : marked ea k = true → cnt wr listed m = 0 := by
      intro hme
      unfold cnt
      rw [List.length_eq_zero_iff, List.filter_eq_nil_iff]
      intro j hj hc
      rw [Bool.and_eq_true] at hc
      have hjm := List.mem_range.1 hj
      have hjs : j < ops.size := by omega
      have h2 := List.all_eq_true.1 hea j (by simpa using hjs)
      rw [hc.1] at h2
      simp only [Bool.not_true, Bool.false_or, List.all_eq_true, List.mem_range, Bool.or_eq_true, Bool.not_eq_true'] at h2
      have h3 := (h2 k hks).resolve_left (by rw [hme]; simp)
      have := hl j hjs hc.2 k hks h3
      rw [h1'] at this
      cases this
    have hat := hob k o (cnt wr listed m) hkm ho hrk hek (fun t => a.tmps.getD t undef) W hRW fun t htt => hI.looks hb hn ho h1' hp htt
    have hop : wpOp P ops Q k (wpAny P .any ops Q (fuel + (ops.size - m)) (listed.setIfInBounds k true)) a W := by
      refine Step.wpOp ho hat fun v W' ⟨hs, hR', hG⟩ => ih _ _ _ ?_ (hI.step hb hn hsz hst ho h1' hp hs trivial hG) ?_ fun t htm => ?_
      · have := unl_set (ops := ops) m k listed hkm hI.size hm h1
        omega
      · rw [cnt_set wr listed m k hkm hks' h1']
        exact hR'
      · rw [getD_set_ne false (by omega)]
        exact htl t htm
    exact hop
/-- THE RULE. -/
theorem regionE {Q : Exit → Act → World → Prop} {id : Nat} {W0 : World} (hmx : P.follows .mixedOrders = true) (n m : Nat) (hck : okT ops n m = true) (bs : List ((Bool × Bool) × Spec)) (hw : (wrOk ops (Region.before ops) (bs.map (·.1.1)) && earlyOk ops (Region.before ops) (bs.map (·.1.1)) (bs.map (·.1.2))) = true) (R : Nat → World → Prop) (G : World → World → Prop)
    (hsz : a0.tmps.size = n) (hdf : a0.defers = []) (hl : bs.length = m) (hst : Lasts G (bs.map (·.2))) (hR : R 0 W0.drew)
    (hob : OblE P ops R G (ops.toList.take m) bs (fun t v _ => v = a0.tmps.getD t undef) 0)
    (hend : ∀ tm W, R (rank (bs.map (·.1.1)) m) W → tm.size = n → (∀ t, envN (ops.toList.take m) (bs.map (·.2)) (fun t v _ => v = a0.tmps.getD t undef) t (tm.getD t undef) W) → wpList P ops Q (ops.toList.drop m) ⟨tm, []⟩ W) :
    (Code.region id ops true).wp P Q a0 W0 := by
  simp only [okT, ok, Bool.and_eq_true, decide_eq_true_eq] at hck
  obtain ⟨⟨⟨⟨c1, c2⟩, c3⟩, c4⟩, c5⟩ := hck
  rw [Bool.and_eq_true] at hw
  have hk0 : know ops (bs.map (·.2)) (fun t v _ => v = a0.tmps.getD t undef) 0 = fun t v _ => v = a0.tmps.getD t undef := rfl
  obtain ⟨h1, h2⟩ := obl_preE (P := P) (R := R) (G := G) bs (fun t v _ => v = a0.tmps.getD t undef) m c3 hl (by rw [hk0]; exact hob)
  rw [hk0] at h2
  have hst' : ∀ i v W W', sp (bs.map (·.2)) i v W → G W W' → sp (bs.map (·.2)) i v W' := by
    intro i v W W' h hG
    unfold sp at *
    cases hi : (bs.map (·.2))[i]? with
    | none => simp [hi]
    | some s =>
      simp only [List.getD_eq_getElem?_getD, hi, Option.getD_some] at h ⊢
      exact lasts_all hst s (List.mem_of_getElem? hi) v W W' h hG
  refine wp_region_any hmx ?_
  have hu : unl m (Array.replicate ops.size false) = m := by
    unfold unl
    have : (List.range m).filter (fun i => !(Array.replicate ops.size false).getD i true) = List.range m := by
      apply List.filter_eq_self.2
      intro i hi
      have := List.mem_range.1 hi
      have h9 : i < ops.size := by omega
      simp [h9]
    rw [this]; simp
  have h0 : cnt (bs.map (·.1.1)) (Array.replicate ops.size false) m = 0 := by
    unfold cnt
    have : (List.range m).filter (fun i => marked (bs.map (·.1.1)) i && (Array.replicate ops.size false).getD i false) = [] := by
      rw [List.filter_eq_nil_iff]
      intro i _
      simp only [Array.getD_eq_getD_getElem?, Array.getElem?_replicate]
      split <;> simp
    rw [this]; rfl
  have := rg_e (P := P) (Q := Q) (R := R) (G := G) (ss := bs.map (·.2)) (a0 := a0) (wr := bs.map (·.1.1)) c1 c2 c3 c4 c5 hw.1 (by simpa using hl) hw.2 hsz hst' h1 (fun a W hRW hd hs hkn => by
    obtain ⟨tm, df⟩ := a
    simp only at hd hs
    rw [hdf] at hd
    subst hd
    refine hend tm W hRW (hs.trans hsz) ?_
    rw [h2]
    exact hkn) m (Array.replicate ops.size false) a0 W0.drew hu ?_ (by rw [h0]; exact hR) (fun t _ => by simp only [Array.getD_eq_getD_getElem?, Array.getElem?_replicate]; split <;> rfl)
  · rw [show m + (ops.size - m) = ops.size by omega] at this
    exact this
  · refine ⟨by simp, trivial, rfl, rfl, ?_, ?_, fun _ _ => rfl⟩
    · intro k o _ hl
      simp only [Array.getD_eq_getD_getElem?, Array.getElem?_replicate] at hl
      split at hl <;> simp at hl
    · intro t i _ hl
      simp only [Array.getD_eq_getD_getElem?, Array.getElem?_replicate] at hl
      split at hl <;> simp at hl
end
end Go.Proofs.Ytlblgopfdadalaa.Rg
namespace Go.Proofs.Ytlblgopfdadalaa
set_option linter.unusedVariables false
set_option linter.unusedSimpArgs false
set_option linter.unnecessarySimpa false
set_option maxRecDepth 100000
open Go.RowKit
abbrev hdE : Enc Hd := Enc.map (.pair .u64 (.pair .i64 .unit)) fun h => (h.term, h.vote, ())
abbrev reE : Enc Rec := Enc.map (.pair .i64 (.pair hdE (.pair enE (.pair .u64 (.pair snE .unit))))) fun r => (r.kind, r.hard, r.ent, r.index, r.snap, ())
open Enc in
theorem hdE_opens : Opens 51 hdE :=
  (opens_struct Try.underlying51 (by kernel_rfl) (.cons rfl (by kernel_rfl) (opens_int Try.underlying22 wf_u64) (.cons rfl (by kernel_rfl) (opens_int Try.underlying3 wf_i64) (.nil _)))).map _ fun ⟨a, b, _⟩ => ⟨⟨a, b⟩, rfl⟩
open Enc in
theorem reE_opens : Opens 101 reE :=
  (opens_struct Try.underlying101 (by kernel_rfl) (.cons rfl (by kernel_rfl) (opens_int Try.underlying3 wf_i64) (.cons rfl (by kernel_rfl) hdE_opens (.cons rfl (by kernel_rfl) enE_opens
    (.cons rfl (by kernel_rfl) (opens_int Try.underlying22 wf_u64) (.cons rfl (by kernel_rfl) snE_opens (.nil _))))))).map _ fun ⟨a, b, c, d, e, _⟩ => ⟨⟨a, b, c, d, e⟩, rfl⟩
abbrev recells (r : Rec) (v1 v2 : Value) : List Value := [.int .i64 r.kind, .int .u64 r.hard.term, .int .i64 r.hard.vote, .int .u64 r.ent.term, v1, .int .u64 r.index, .int .u64 r.snap.index, .int .u64 r.snap.term, v2]
theorem re_rep {w : World} {X : Avoid} {cs : List Value} {r : Rec} : reE.rep w X cs r ↔ ∃ v1 v2, cs = recells r v1 v2 ∧ r.wide ∧ Enc.BsX w X v1 r.ent.data ∧ Enc.BsX w X v2 r.snap.state := by
  constructor
  · rintro ⟨c1, c2, rfl, ⟨rfl, h1⟩, c3, c4, rfl, ⟨a1, a2, rfl, ⟨rfl, h2⟩, a3, a4, rfl, ⟨rfl, h3⟩, rfl⟩, c5, c6, rfl, ⟨b1, b2, rfl, ⟨rfl, h4⟩, b3, b4, rfl, ⟨v1, rfl, h5⟩, rfl⟩, c7, c8, rfl, ⟨rfl, h6⟩, c9, c10, rfl,
      ⟨d1, d2, rfl, ⟨rfl, h7⟩, d3, d4, rfl, ⟨rfl, h8⟩, d5, d6, rfl, ⟨v2, rfl, h9⟩, rfl⟩, rfl⟩
    exact ⟨v1, v2, rfl, ⟨h1.1, h1.2, h2.1, h2.2, h3.1, h3.2, h4.1, h4.2, h6.1, h6.2, h7.1, h7.2, h8.1, h8.2⟩, h5, h9⟩
  · rintro ⟨v1, v2, rfl, ⟨k0, k1, t0, t1, u0, u1, e0, e1, i0, i1, n0, n1, s0, s1⟩, h5, h9⟩
    exact ⟨[_], [_, _, _, _, _, _, _, _], rfl, ⟨rfl, k0, k1⟩, [_, _], [_, _, _, _, _, _], rfl, ⟨[_], [_], rfl, ⟨rfl, t0, t1⟩, [_], [], rfl, ⟨rfl, u0, u1⟩, rfl⟩, [_, _], [_, _, _, _], rfl, ⟨[_], [_], rfl, ⟨rfl, e0, e1⟩, [_], [], rfl, ⟨_, rfl, h5⟩, rfl⟩,
      [_], [_, _, _], rfl, ⟨rfl, i0, i1⟩, [_, _, _], [], rfl, ⟨[_], [_, _], rfl, ⟨rfl, n0, n1⟩, [_], [_], rfl, ⟨rfl, s0, s1⟩, [_], [], rfl, ⟨_, rfl, h9⟩, rfl⟩, rfl⟩
theorem elt_re : Elt 101 reE (.agg #[.int .i64 0, .int .u64 0, .int .i64 0, .int .u64 0, .slice none 0 0, .int .u64 0, .int .u64 0, .int .u64 0, .slice none 0 0]) 104 := ⟨by kernel_rfl, rfl, by decide⟩
set_option maxHeartbeats 800000 in
theorem may_b (r : Rec) (v1 v2 : Value) (w : World) : Calls Try.prog 83 #[.agg (recells r v1 v2).toArray] w fun e w' => e = .returned (.bool (may r)) ∧ Ext w w' := by
  have hx : Ext w (w.alloc (.cells (recells r v1 v2).toArray 101)) := (Ext.rfl' w).alloc' _
  by_cases h1 : r.kind = 1
  · by_cases h2 : 0 ≤ r.hard.vote
    · by_cases h3 : r.hard.vote ≤ 7
      · have HM : Hid (may r = true) := by unfold Hid may; simp [h1, h2, h3]
        rw [HM.out]
        go_enter Try.func83, Try.ntmps83
        go_wp2
        go_ret
        exact ⟨rfl, hx⟩
      · have HM : Hid (may r = false) := by unfold Hid may; simp [h1, h3]
        rw [HM.out]
        go_enter Try.func83, Try.ntmps83
        go_wp2
        go_ret
        exact ⟨rfl, hx⟩
    · have HM : Hid (may r = false) := by unfold Hid may; simp [h1]; omega
      rw [HM.out]
      go_enter Try.func83, Try.ntmps83
      go_wp2
      go_ret
      exact ⟨rfl, hx⟩
  · by_cases h2 : 1 < r.kind
    · by_cases h3 : r.kind ≤ 4
      · have HM : Hid (may r = true) := by unfold Hid may; simp [h1, h2, h3]
        rw [HM.out]
        go_enter Try.func83, Try.ntmps83
        go_wp2
        go_ret
        exact ⟨rfl, hx⟩
      · have HM : Hid (may r = false) := by unfold Hid may; simp [h1, h3]
        rw [HM.out]
        go_enter Try.func83, Try.ntmps83
        go_wp2
        go_ret
        exact ⟨rfl, hx⟩
    · have HM : Hid (may r = false) := by unfold Hid may; simp [h1, h2]
      rw [HM.out]
      go_enter Try.func83, Try.ntmps83
      go_wp2
      go_ret
      exact ⟨rfl, hx⟩
end Go.Proofs.Ytlblgopfdadalaa
namespace Go.Proofs.Ytlblgopfdadalaa
set_option linter.unusedVariables false
set_option linter.unusedSimpArgs false
set_option linter.unnecessarySimpa false
set_option maxRecDepth 100000
open Go.RowKit
abbrev kpcells (k : Kp) (vs ve : Value) : List Value := [.int .u64 k.hard.term, .int .i64 k.hard.vote, .int .u64 k.snap.index, .int .u64 k.snap.term, vs, ve]
theorem Blk.sixK {w : World} {g : Nat} {T : TypeId} {x0 x1 x2 x3 x4 x5 : Value} (h : Blk w g T #[x0, x1, x2, x3, x4, x5]) (a b c d e f : Value) :
    Blk ((((((w.setCell ⟨g, 0, none⟩ a).setCell ⟨g, 1, none⟩ b).setCell ⟨g, 2, none⟩ c).setCell ⟨g, 3, none⟩ d).setCell ⟨g, 4, none⟩ e).setCell ⟨g, 5, none⟩ f) g T #[a, b, c, d, e, f] := (((((h.set_ 0 a).set_ 1 b).set_ 2 c).set_ 3 d).set_ 4 e).set_ 5 f
theorem Chg.sixK {S : List Nat} {w0 w : World} {g : Nat} (h : Chg S w0 w) (hg : g ∈ S) (a b c d e f : Value) :
    Chg S w0 ((((((w.setCell ⟨g, 0, none⟩ a).setCell ⟨g, 1, none⟩ b).setCell ⟨g, 2, none⟩ c).setCell ⟨g, 3, none⟩ d).setCell ⟨g, 4, none⟩ e).setCell ⟨g, 5, none⟩ f) := (((((h.set hg _).set hg _).set hg _).set hg _).set hg _).set hg _
def RetOwnG {α : Type} (T : TypeId) (E : Enc α) (w w' : World) (X : Avoid) (e : Ending) (l : List α) : Prop := ∃ (A : Option Addr) (c : Nat), e = .returned (.slice A l.length c) ∧ Own T E w w' X (.slice A l.length c) l ∧ Ext w w'
theorem RetOwnG.mk {α : Type} {T : TypeId} {E : Enc α} {w w' : World} {X : Avoid} {y : Value} {l : List α} (h : Own T E w w' X y l) (hx : Ext w w') : RetOwnG T E w w' X (.returned y) l := by
  obtain ⟨A, c, rfl, _⟩ := h.form
  exact ⟨A, c, rfl, h, hx⟩
theorem sl_noneG {α : Type} {E : Enc α} {w : World} {X : Avoid} {c : Nat} {l : List α} (h : Enc.Sl E w X (.slice none l.length c) l) : l = [] := by
  obtain ⟨A, c', css, he, _, _, h3, _⟩ := h
  simp only [Value.slice.injEq] at he
  obtain ⟨rfl, _, _⟩ := he
  rcases Nat.eq_zero_or_pos l.length with h0 | h0
  · exact List.eq_nil_of_length_eq_zero h0
  · obtain ⟨_, h, _⟩ := h3.2 h0; cases h
theorem own_litG (w : World) : ∀ i, (Value.slice (some ⟨w.heap.size, 0, none⟩) 0 0).ownBlock = some i → w.heap.size ≤ i := fun i hi => Nat.le_of_eq (Option.some.inj hi)
theorem Sl.apartG {α : Type} {E : Enc α} {w0 w : World} {X : Avoid} {v x : Value} {k : List α} (hx : Enc.Sl E w0 X x k) (hx0 : Ext w0 w) (h : ∀ i, v.ownBlock = some i → w0.heap.size ≤ i) : Enc.Sl E w (fun k => X k ∨ v.ownBlock = some k) x k :=
  (hx.mono fun i hi hm => by
    rcases hm with hm | hm
    · exact hm
    · have := h i hm; omega).ext hx0
set_option maxHeartbeats 800000 in
theorem cloneX_en (X : Avoid) (w : World) (hX : ∀ k, X k → k < w.heap.size) (x : Value) (l : List En) (hl : l.length ≤ 100000) (hx : Enc.Sl enE w X x l) :
    Calls Try.prog 98 #[x] w fun e w' => RetOwnG 74 enE w w' X e l := by
  obtain ⟨A, c, rfl, k1, k2⟩ := hx.form
  have q := fun (w : World) (a : Option Addr) (n c n' c' : Nat) => Lib.run_eql_slice_nil (P := Try.prog) w _ _ a n c n' c' Try.underlying23
  generalize hn : l.length = n at *
  have HN := hide hn
  clear hn
  rcases A with _ | ad
  · go_enter Try.func98, Try.ntmps98
    go_wp2
    go_ret
    have h0 : l = [] := sl_noneG (by rw [HN.out]; exact hx)
    subst h0
    exact RetOwnG.mk (Own.nil _ _ _ _ _) (Ext.rfl' _)
  · go_enter Try.func98, Try.ntmps98
    go_wp2_with (at_builtin; refine wpList_own elt_en 23 Try.underlying23 rfl _ _ rfl (Own.lit0 (w0 := w) (X := X) _ _ (Ext.rfl' w) _ rfl (fun h => Nat.lt_irrefl _ (hX _ h))) rfl ((Ext.rfl' w).alloc' _) (m := l) rfl (Sl.apartG (w0 := w) hx ((Ext.rfl' w).alloc' _) (own_litG w)) (fun h => by have := hX _ h; simp at this; omega) (by have := HN.out; simp only [List.length_nil]; omega) (by have := HN.out; simp only [List.length_nil]; omega) ?_; intro k A2 c2 w2 hk hown hxx _)
    go_ret
    have hk' : k = l := hk.out
    subst hk'
    exact RetOwnG.mk hown hxx
end Go.Proofs.Ytlblgopfdadalaa
namespace Go.Proofs.Ytlblgopfdadalaa
set_option linter.unusedVariables false
set_option linter.unusedSimpArgs false
set_option linter.unnecessarySimpa false
set_option maxRecDepth 100000
open Go.RowKit
end Go.Proofs.Ytlblgopfdadalaa
namespace Go.Proofs.Ytlblgopfdadalaa
set_option linter.unusedVariables false
set_option linter.unusedSimpArgs false
set_option linter.unnecessarySimpa false
set_option maxRecDepth 100000
open Go.RowKit
theorem Blk.row {W : World} {g : Nat} {T : TypeId} {old : Array Value} (h : Blk W g T old) (cs : Array Value) : Blk (W.setRow g cs) g T cs := setRow_heap W g old cs T (0, 0) h
theorem Chg.row {S : List Nat} {W0 W : World} {g : Nat} (h : Chg S W0 W) (hg : g ∈ S) (cs : Array Value) : Chg S W0 (W.setRow g cs) :=
  h.trans ⟨rfl, rfl, rfl, by simp, fun k _ hn => setRow_other W g k cs fun e => hn (e ▸ hg)⟩
section
variable {P : Program} {ops : Array Oper} {rest : List Oper} {o : Oper} {a : Act} {w : World} {Q : Exit → Act → World → Prop}
end
end Go.Proofs.Ytlblgopfdadalaa
namespace Go.Proofs.Ytlblgopfdadalaa.Rg
set_option linter.unusedVariables false
set_option linter.unusedSimpArgs false
set_option linter.unnecessarySimpa false
set_option maxRecDepth 100000
open Go.RowKit
/-- a function that is named is called in a drawn region -/
theorem enter_fn {P : Program} {ρ : Tmp → Value} {W : World} {o : Oper} {f : FuncId} {xs : Array Operand} {ts : Array TypeId} {args : Array Value} {K : Value → World → Prop} (ho : o.op = .call { callee := .value (.func f), args := xs, argTypes := ts })
    (ha : xs.map (ev ρ) = args) (hF : (callFunc f args).run P W = .ok (.enter f args) W) (hK : Calls P f args W fun e W'' => ∃ v, e = .returned v ∧ K v W'') : Run P o ρ W K :=
  run_enter (by subst ha; unfold execOp; simp [ho, go_sem, resolve, ev]; exact hF) hK
end Go.Proofs.Ytlblgopfdadalaa.Rg
