/- A part of the proof of 'StoreAll'. -/
import Derived.Test.YtlblgopfdadalaaS35
import Derived.Test.YtlblgopfdadalaaS37
import Derived.Test.YtlblgopfdadalaaS10
namespace Go.Proofs.Ytlblgopfdadalaa
set_option linter.unusedVariables false
set_option linter.unusedSimpArgs false
set_option linter.unnecessarySimpa false
set_option maxRecDepth 100000
open Go.RowKit
/-- bytes and entries stay as they are -/
def GK (W W2 : World) : Prop := (∀ (v : Value) (l : Bytes), Bs W v l → Bs W2 v l) ∧ ∀ (b : World) (v : Value) (l : List En), Own 74 enE b W noneAt v l → Own 74 enE b W2 noneAt v l
theorem GK.rfl_ (W : World) : GK W W := ⟨fun _ _ h => h, fun _ _ _ h => h⟩
theorem GK.ext {W W2 : World} (h : Ext W W2) : GK W W2 := ⟨fun _ _ k => k.ext h, fun _ _ _ k => k.ext h⟩
theorem GK.chg {S : List Nat} {W W2 : World} (h : Chg S W W2) (ho : Odd W (fun j => j ∈ S)) : GK W W2 :=
  ⟨fun v l k => ((bsx_odd (Enc.BsX.of k) ho).chg h fun j hj _ => .inr hj).1, fun b v l k => ((slen_odd k ho).chg h fun j hj _ => .inr hj).mono fun _ _ h => h.elim⟩
theorem TwoSt.odd {w0 w : World} {gs gd rs rd : Nat} {k k2 : Kp} {d r : Dk} (h : TwoSt w0 w gs gd rs rd k k2 d r) : Odd w (fun j => j ∈ [gs, gd]) := by
  obtain ⟨v, As, cs, Ae, ce, u, Bs', bs, Be, c4, p, q, -⟩ := h
  intro j hj
  simp at hj
  rcases hj with rfl | rfl
  · exact p.so.odd _ rfl
  · exact p.disk.odd _ rfl
theorem TwoSt.odd2 {w0 w : World} {gs gd rs rd : Nat} {k k2 : Kp} {d r : Dk} (h : TwoSt w0 w gs gd rs rd k k2 d r) : Odd w (fun j => j ∈ [rs, rd]) := by
  obtain ⟨v, As, cs, Ae, ce, u, Bs', bs, Be, c4, p, q, -⟩ := h
  intro j hj
  simp at hj
  rcases hj with rfl | rfl
  · exact q.so.odd _ rfl
  · exact q.disk.odd _ rfl
theorem TwoSt.ext0 {w0 w : World} {gs gd rs rd : Nat} {k k2 : Kp} {d r : Dk} (h : TwoSt w0 w gs gd rs rd k k2 d r) : Ext w0 w := by
  obtain ⟨v, As, cs, Ae, ce, u, Bs', bs, Be, c4, p, q, -, -, hx, -⟩ := h
  exact hx
/-- the document's store's cells -/
theorem TwoSt.rk {w0 w : World} {gs gd rs rd : Nat} {k k2 : Kp} {d r : Dk} (h : TwoSt w0 w gs gd rs rd k k2 d r) : ∃ (Bq : Option Addr) (bq : Nat) (Cq : Option Addr) (cq : Nat), Blk w rs 68 #[.pointer (some ⟨rd, 0, none⟩), .int .u64 k2.hard.term, .int .i64 k2.hard.vote, .int .u64 k2.snap.index, .int .u64 k2.snap.term, .slice Bq k2.snap.state.length bq, .slice Cq k2.ents.length cq] ∧
    Enc.BsX w (fun j => j ∈ [gs, gd, rs, rd]) (.slice Bq k2.snap.state.length bq) k2.snap.state ∧ Enc.Sl enE w (fun j => j ∈ [gs, gd, rs, rd]) (.slice Cq k2.ents.length cq) k2.ents := by
  obtain ⟨v, As, cs, Ae, ce, u, Bs', bs, Be, c4, p, q, -, ⟨q1, q2, -⟩, hx, -⟩ := h
  have hz : ∀ j, j ∈ [gs, gd, rs, rd] → XS gs gd j ∨ (j = rs ∨ j = rd) := fun j hj => by
    simp at hj
    rcases hj with h | h | h | h
    · exact .inl (.inl h)
    · exact .inl (.inr h)
    · exact .inr (.inl h)
    · exact .inr (.inr h)
  exact ⟨Bs', bs, Be, c4, q.so.blk, (bsx_or q1 q.so.bs).mono fun j _ h => hz j h, (sl_or q2 q.so.es).mono fun j _ h => hz j h⟩
/-- ahead of the look whether the disk is dead -/
def Dk.mid (d : Dk) (k : Kp) (n : Nat) : Prop := d.aw k n ∨ ∃ l : List Rec, (∀ r ∈ l, (r.wide ∧ r.small) ∧ may r = true) ∧ l.length ≤ 20 ∧ d.half_ k l n
theorem Dk.mid.crash {d : Dk} {k : Kp} {n : Nat} (h : d.mid k n) (p : Int) : (d.crash p).mid k n := by
  rcases h with h | ⟨l, h1, h2, h3⟩
  · exact .inr ⟨[], by simp, by simp, h.crash [] p⟩
  · exact .inr ⟨l, h1, h2, h3.crash p⟩
theorem save_mid {d : Dk} {k : Kp} {n : Nat} (h : d.aw k n) {l : List Rec} (hl : ∀ r ∈ l, (r.wide ∧ r.small) ∧ may r = true) (h20 : l.length ≤ 20) (hn : n + l.length ≤ 800) : (save d k l).1.mid (save d k l).2.1 (n + 22) := by
  rcases save_cases h hl (by omega) with ⟨h1, h2⟩ | ⟨h1, h2⟩
  · rw [h1]
    exact .inl (h2.mono (by omega))
  · rw [h1]
    exact .inr ⟨l, hl, h20, h2.mono (by omega)⟩
theorem Dk.mid.off {d : Dk} {k : Kp} {n : Nat} (h : d.mid k n) (hd : d.de = false) : d.aw k n := by
  rcases h with h | ⟨l, h1, h2, m, p, -, -, h3, -⟩
  · exact h
  · rw [hd] at h3; cases h3
theorem Dk.mid.open_ {d : Dk} {k : Kp} {n : Nat} (h : d.mid k n) (hd : d.de = true) (hn : n ≤ 800) :
    ∃ (k' : Kp) (d' : Dk), openD d.power = (d', 0) ∧ d'.aw k' (n + 20) ∧ kfold Kp0 (scan d.power.b).1 = k' ∧ (∀ r ∈ (scan d.power.b).1, r.small) ∧ (scan d.power.b).1.length ≤ n + 20 ∧ d.power.b.length ≤ 100000 ∧ d.power.de = false := by
  rcases h with ⟨m, -, -, h3, -⟩ | ⟨l, h1, h2, h3⟩
  · rw [hd] at h3; cases h3
  · obtain ⟨j, hj, po, pw, pk, ps, pn, pb, pd⟩ := h3.open_ h1 (by omega)
    exact ⟨_, (openD d.power).1, Prod.ext rfl po, (pw.aw).mono (by omega), pk, ps, by omega, by omega, pd⟩
theorem Dk.mid.small {d : Dk} {k : Kp} {n : Nat} (h : d.mid k n) : k.small n := by
  rcases h with h | ⟨l, -, -, m, p, -, -, -, -, h5, h6, h7⟩
  · exact h.kp.2.2.1
  · exact (show Dk.aw { d with b := lput m, sy := (lput m).length, de := false } k n from ⟨m, rfl, rfl, rfl, h5, h6, h7⟩).kp.2.2.1
end Go.Proofs.Ytlblgopfdadalaa
namespace Go.Proofs.Ytlblgopfdadalaa.Rg
set_option linter.unusedVariables false
set_option linter.unusedSimpArgs false
set_option linter.unnecessarySimpa false
set_option maxRecDepth 100000
open Go
section
variable (P : Program) (ops : Array Oper) (R : Nat → World → Prop) (G : World → World → Prop)
/-- each operation, in the text's order: does it write? does it come behind all that write? -/
def OblL (T : Nat) : List Oper → List ((Bool × Bool) × Spec) → (Tmp → Spec) → Nat → Prop
  | o :: os, ((w, e), s) :: ss, E, q => (∀ i, (w = true → i = q) → (e = true → i = T) → AtW P ops G (R i) (R (i + if w = true then 1 else 0)) o s E) ∧ OblL T os ss (upd E o.dst s) (q + if w = true then 1 else 0)
  | [], [], _, _ => True
  | _, _, _, _ => False
end
def lateOk (ops : Array Oper) (b : Array Nat) (wr la : List Bool) : Bool := (List.range ops.size).all fun j => !marked la j || (List.range ops.size).all fun i => !marked wr i || (b.getD j 0).testBit i
section
variable {P : Program} {ops : Array Oper} {R : Nat → World → Prop} {G : World → World → Prop} {ss : List Spec} {a0 : Act} {n m : Nat} {wr : List Bool}
theorem l0 {T : Nat} {o : Oper} {s : Spec} {E : Tmp → Spec} {q : Nat} (h : ∀ i, AtW P ops G (R i) (R i) o s E) : ∀ i, (false = true → i = q) → (false = true → i = T) → AtW P ops G (R i) (R (i + if false = true then 1 else 0)) o s E := fun i _ _ => h i
theorem l1 {T : Nat} {o : Oper} {s : Spec} {E : Tmp → Spec} {q : Nat} (h : AtW P ops G (R q) (R (q + 1)) o s E) : ∀ i, (true = true → i = q) → (false = true → i = T) → AtW P ops G (R i) (R (i + if true = true then 1 else 0)) o s E := fun i hi _ => by
  obtain rfl := hi rfl
  exact h
theorem l2 {T : Nat} {o : Oper} {s : Spec} {E : Tmp → Spec} {q : Nat} (h : AtW P ops G (R T) (R T) o s E) : ∀ i, (false = true → i = q) → (true = true → i = T) → AtW P ops G (R i) (R (i + if false = true then 1 else 0)) o s E := fun i _ hi => by
  obtain rfl := hi rfl
  exact h
theorem obl_preL {T : Nat} (bs : List ((Bool × Bool) × Spec)) (E : Tmp → Spec) (m : Nat) (hm : m ≤ ops.size) (hl : bs.length = m) (h : OblL P ops R G T (ops.toList.take m) bs (know ops (bs.map (·.2)) E 0) 0) :
    (∀ k o i, k < m → ops[k]? = some o → (marked (bs.map (·.1.1)) k = true → i = rank (bs.map (·.1.1)) k) → (marked (bs.map (·.1.2)) k = true → i = T) → AtW P ops G (R i) (R (i + if marked (bs.map (·.1.1)) k then 1 else 0)) o (sp (bs.map (·.2)) k) (know ops (bs.map (·.2)) E k)) ∧
      envN (ops.toList.take m) (bs.map (·.2)) (know ops (bs.map (·.2)) E 0) = know ops (bs.map (·.2)) E m := by
  have key : ∀ (d k : Nat), k + d = m → OblL P ops R G T ((ops.toList.take m).drop k) (bs.drop k) (know ops (bs.map (·.2)) E k) (rank (bs.map (·.1.1)) k) →
      (∀ j o i, k ≤ j → j < m → ops[j]? = some o → (marked (bs.map (·.1.1)) j = true → i = rank (bs.map (·.1.1)) j) → (marked (bs.map (·.1.2)) j = true → i = T) → AtW P ops G (R i) (R (i + if marked (bs.map (·.1.1)) j then 1 else 0)) o (sp (bs.map (·.2)) j) (know ops (bs.map (·.2)) E j)) ∧
        envN ((ops.toList.take m).drop k) ((bs.map (·.2)).drop k) (know ops (bs.map (·.2)) E k) = know ops (bs.map (·.2)) E m := by
    intro d
    induction d with
    | zero =>
      intro k hk _
      have : k = m := by omega
      subst this
      refine ⟨fun j o i h1 h2 => by omega, ?_⟩
      have e1 : (ops.toList.take k).drop k = [] := by simp
      rw [e1]
      cases (bs.map (·.2)).drop k <;> rfl
    | succ d ih =>
      intro k hk hO
      have hkm : k < m := by omega
      have hks : k < ops.size := by omega
      have e1 : (ops.toList.take m).drop k = ops[k] :: (ops.toList.take m).drop (k + 1) := by
        rw [List.drop_eq_getElem_cons (by simp; omega)]
        simp
      have hkl : k < bs.length := by omega
      have e2 : bs.drop k = bs[k] :: bs.drop (k + 1) := List.drop_eq_getElem_cons hkl
      have e3 : (bs.map (·.2)).drop k = bs[k].2 :: (bs.map (·.2)).drop (k + 1) := by
        rw [List.drop_eq_getElem_cons (by simpa using hkl)]; simp
      have ho : ops[k]? = some ops[k] := Array.getElem?_eq_getElem hks
      have hs : (bs.map (·.2))[k]? = some bs[k].2 := by rw [List.getElem?_map, List.getElem?_eq_getElem hkl]; rfl
      have hmk : marked (bs.map (·.1.1)) k = bs[k].1.1 := by
        unfold marked
        rw [List.getD_eq_getElem?_getD, List.getElem?_map, List.getElem?_eq_getElem hkl]; rfl
      have hrk := rank_succ (bs.map (·.1.1)) k (by simpa using hkl)
      have hsp : sp (bs.map (·.2)) k = bs[k].2 := by simp [sp, hs]
      rw [e1, e2] at hO
      have hme : marked (bs.map (·.1.2)) k = bs[k].1.2 := by
        unfold marked
        rw [List.getD_eq_getElem?_getD, List.getElem?_map, List.getElem?_eq_getElem hkl]; rfl
      have hA : (∀ i, (bs[k].1.1 = true → i = rank (bs.map (·.1.1)) k) → (bs[k].1.2 = true → i = T) → AtW P ops G (R i) (R (i + if bs[k].1.1 = true then 1 else 0)) ops[k] bs[k].2 (know ops (bs.map (·.2)) E k)) ∧
          OblL P ops R G T ((ops.toList.take m).drop (k + 1)) (bs.drop (k + 1)) (upd (know ops (bs.map (·.2)) E k) ops[k].dst bs[k].2) (rank (bs.map (·.1.1)) k + if bs[k].1.1 = true then 1 else 0) := by
        revert hO
        generalize bs[k] = b
        obtain ⟨⟨b1, b3⟩, b2⟩ := b
        intro hO
        exact hO
      obtain ⟨hA, hO'⟩ := hA
      rw [← know_succ ops (bs.map (·.2)) E k ops[k] bs[k].2 ho hs, ← hmk, ← hrk] at hO'
      obtain ⟨i1, i2⟩ := ih (k + 1) (by omega) hO'
      refine ⟨fun j o i h1 h2 hj hi he => ?_, ?_⟩
      · by_cases hjk : j = k
        · subst hjk
          rw [ho] at hj
          cases hj
          rw [hsp, hmk]
          rw [hmk] at hi
          rw [hme] at he
          exact hA i hi he
        · exact i1 j o i (by omega) h2 hj hi he
      · rw [e1, e3]
        simp only [envN]
        rw [← know_succ ops (bs.map (·.2)) E k ops[k] bs[k].2 ho hs]
        exact i2
  have := key m 0 (by omega) (by simpa [rank] using h)
  refine ⟨fun k o i h1 h2 hi he => this.1 k o i (Nat.zero_le _) h1 h2 hi he, ?_⟩
  simpa using this.2
theorem rg_l {Q : Exit → Act → World → Prop} (hb : befOk ops (Region.before ops) = true) (hn : namesOk ops (Region.before ops) n = true)
    (hm : m ≤ ops.size) (ht : tailOk ops (Region.before ops) m = true) (hq : Region.seqB .any ops (ops.size - m) m (headDone ops.size m) = true)
    (hw : wrOk ops (Region.before ops) wr = true) (hwl : wr.length = m) {ea : List Bool} (hea : lateOk ops (Region.before ops) wr ea = true) {T : Nat} (hT : rank wr m = T)
    (hsz : a0.tmps.size = n) (hst : ∀ i v W W', sp ss i v W → G W W' → sp ss i v W')
    (hob : ∀ k o i, k < m → ops[k]? = some o → (marked wr k = true → i = rank wr k) → (marked ea k = true → i = T) → AtW P ops G (R i) (R (i + if marked wr k then 1 else 0)) o (sp ss k) (know ops ss (fun t v _ => v = a0.tmps.getD t undef) k))
    (hend : ∀ a W, R (rank wr m) W → a.defers = a0.defers → a.tmps.size = a0.tmps.size → (∀ t, know ops ss (fun t v _ => v = a0.tmps.getD t undef) m t (a.tmps.getD t undef) W) → wpList P ops Q (ops.toList.drop m) a W) :
    ∀ (fuel : Nat) (listed : Array Bool) (a : Act) (W : World), unl m listed = fuel → Inv ops (fun _ => True) ss a0 listed a W → R (cnt wr listed m) W → (∀ t, m ≤ t → listed.getD t false = false) → wpAny P .any ops Q (fuel + (ops.size - m)) listed a W := by
  intro fuel
  induction fuel with
  | zero =>
    intro listed a W hu hI hRW htl
    have hall := unl_zero m listed hu
    have hl : listed = headDone ops.size m := by
      apply Array.ext
      · rw [hI.size]; simp [headDone]
      · intro i h1 h2
        have e1 : listed.getD i false = listed[i] := by simp [h1]
        have e2 : (headDone ops.size m).getD i false = (headDone ops.size m)[i] := by simp [h2]
        rw [← e1, ← e2, headDone_getD, if_pos (by rw [← hI.size]; exact h1)]
        by_cases him : i < m
        · have := hall i him
          simp [h1] at this
          simp [h1, this, him]
        · rw [htl i (by omega)]
          simp [him]
    have hc : cnt wr listed m = rank wr m := by
      rw [rank_eq wr m (by omega)]
      unfold cnt
      congr 1
      apply List.filter_congr
      intro i hi
      have := listed_false (by have := hI.size; have := List.mem_range.1 hi; omega) (hall i (List.mem_range.1 hi))
      rw [this, Bool.and_true]
    rw [hc] at hRW
    have hw := hend a W hRW hI.defers hI.tsize fun t => by
      unfold know
      cases hw : lastW ops m t with
      | some i =>
        obtain ⟨h1, h2, h3⟩ := lastW_some hw
        refine hI.new t i h1 (listed_false (by have := hI.size; omega) (hall i h2)) fun j hj hlj => ?_
        by_cases hjm : j < m
        · exact h3 j hj hjm
        · rw [htl j (by omega)] at hlj; cases hlj
      | none =>
        have h1 := lastW_none hw
        exact hI.old t fun i hi => htl i (h1 i hi)
    rw [hl]
    have hlen : (ops.toList.drop m).length = ops.size - m := by simp
    have := wpAny_of_seq (P := P) (md := .any) (Q' := Q) (ops.toList.drop m) m (headDone ops.size m) a W (fun j => by simp [List.getElem?_drop]) (by rw [hlen]; exact hq) hw
    rw [hlen] at this
    rw [Nat.zero_add]
    exact this
  | succ fuel ih =>
    intro listed a W hu hI hRW htl
    obtain ⟨i, him, hui⟩ := unl_pos m listed (by omega)
    rw [show fuel + 1 + (ops.size - m) = (fuel + (ops.size - m)) + 1 by omega]
    have hready : ∀ k, k < m → listed.getD k true = false → ∃ j, j < m ∧ j ∈ Region.ready .any ops listed := by
      intro k
      induction k using Nat.strongRecOn with
      | _ k ihk =>
        intro hk huk
        have hks : k < ops.size := by omega
        have ho : ops[k]? = some ops[k] := Array.getElem?_eq_getElem hks
        have h1 := List.all_eq_true.1 hb k (by simpa using hks)
        rw [ho] at h1
        simp only [Bool.and_eq_true, Array.all_eq_true_iff_forall_mem, Bool.or_eq_true, Bool.not_eq_true', decide_eq_true_eq] at h1
        by_cases hall : ∀ e ∈ ops[k].after, Region.binds .any e = true → listed.getD e.on false = true
        · exact ⟨k, hk, mem_ready.2 ⟨huk, _, ho, hall⟩⟩
        · have ⟨e, he⟩ : ∃ e, ¬ (e ∈ ops[k].after → Region.binds .any e = true → listed.getD e.on false = true) := Classical.not_forall.1 hall
          have he1 : e ∈ ops[k].after := Classical.byContradiction fun hc => he fun h => absurd h hc
          have he2 : Region.binds .any e = true := Classical.byContradiction fun hc => he fun _ h => absurd h hc
          have he3 : ¬ listed.getD e.on false = true := fun hc => he fun _ _ => hc
          have hlt := (h1.1 e he1).resolve_left (by rw [he2]; simp)
          refine ihk e.on hlt (by omega) ?_
          have : e.on < listed.size := by rw [hI.size]; omega
          simp [this] at he3 ⊢
          exact he3
    obtain ⟨j0, hj0, hj0r⟩ := hready i him hui
    refine ⟨fun h => (by rw [h] at hj0r; cases hj0r), fun k hk => ?_⟩
    obtain ⟨h1, o, ho, hp⟩ := mem_ready.1 hk
    have hks : k < ops.size := (Array.getElem?_eq_some_iff.1 ho).1
    have hks' : k < listed.size := by rw [hI.size]; exact hks
    have h1' : listed.getD k false = false := by
      simp only [Array.getD_eq_getD_getElem?, Array.getElem?_eq_getElem hks', Option.getD_some] at h1 ⊢
      exact h1
    have hl := bef_listed hb hI.closed
    -- what stands ahead of k is listed
    have hahead : ∀ i, i < ops.size → ((Region.before ops).getD k 0).testBit i = true → listed.getD i false = true := by
      intro i hi hbit
      have h4 := List.all_eq_true.1 hb k (by simpa using hks)
      rw [ho] at h4
      simp only [Bool.and_eq_true, List.all_eq_true, List.mem_range, Bool.or_eq_true, Bool.not_eq_true'] at h4
      have h5 := (h4.2 i hi).resolve_left (by rw [hbit]; simp)
      obtain ⟨e, he, h6⟩ := Array.any_eq_true'.1 h5
      simp only [Bool.and_eq_true, Bool.or_eq_true, beq_iff_eq, decide_eq_true_eq] at h6
      have hle := hp e he h6.1
      rcases h6.2 with h7 | ⟨h7, h8⟩
      · rw [← h7]; exact hle
      · exact hl e.on (by omega) hle i hi h8
    have hkm : k < m := by
      rcases Nat.lt_or_ge k m with h | h
      · exact h
      · exfalso
        have h2 := List.all_eq_true.1 ht k (by simpa using hks)
        simp only [Bool.or_eq_true, decide_eq_true_eq, List.all_eq_true, List.mem_range] at h2
        have h3 := (h2.resolve_left (by omega)) i him
        have hli := hahead i (by omega) h3
        have : i < listed.size := by rw [hI.size]; omega
        simp [this] at hli hui
        rw [hli] at hui
        cases hui
    have hrk : marked wr k = true → cnt wr listed m = rank wr k := by
      intro hmk
      rw [rank_eq wr k (by omega)]
      unfold cnt
      -- of those that write, the ones ahead of k are listed, the ones behind it are not
      have hsplit : List.range m = List.range k ++ (List.range (m - k)).map (k + ·) := by
        apply List.ext_getElem?
        intro j
        by_cases hj : j < k
        · rw [List.getElem?_append_left (by simpa using hj)]
          simp [hj, show j < m by omega]
        · rw [List.getElem?_append_right (by simpa using (by omega : k ≤ j))]
          simp only [List.length_range, List.getElem?_map]
          by_cases hjm : j < m
          · rw [List.getElem?_range hjm, List.getElem?_range (by omega)]
            simp; omega
          · rw [List.getElem?_eq_none (by simp; omega), List.getElem?_eq_none (by simp; omega)]; rfl
      rw [hsplit, List.filter_append, List.length_append]
      have e1 : (List.range k).filter (fun i => marked wr i && listed.getD i false) = (List.range k).filter fun i => marked wr i := by
        apply List.filter_congr
        intro j hj
        have hjk := List.mem_range.1 hj
        cases hmj : marked wr j with
        | false => rfl
        | true =>
          have h2 := List.all_eq_true.1 hw k (by simpa using hks)
          rw [hmk] at h2
          simp only [Bool.not_true, Bool.false_or, List.all_eq_true, List.mem_range, Bool.or_eq_true, Bool.not_eq_true'] at h2
          have h3 := (h2 j hjk).resolve_left (by rw [hmj]; simp)
          rw [hahead j (by omega) h3]; rfl
      have e2 : ((List.range (m - k)).map (k + ·)).filter (fun i => marked wr i && listed.getD i false) = [] := by
        rw [List.filter_eq_nil_iff]
        intro j hj
        obtain ⟨q, hq, rfl⟩ := List.mem_map.1 hj
        have hqm := List.mem_range.1 hq
        intro hc
        rw [Bool.and_eq_true] at hc
        by_cases hq0 : q = 0
        · subst hq0
          rw [Nat.add_zero, h1'] at hc
          cases hc.2
        · have hjs : k + q < ops.size := by omega
          have h2 := List.all_eq_true.1 hw (k + q) (by simpa using hjs)
          rw [hc.1] at h2
          simp only [Bool.not_true, Bool.false_or, List.all_eq_true, List.mem_range, Bool.or_eq_true, Bool.not_eq_true'] at h2
          have h3 := (h2 k (by omega)).resolve_left (by rw [hmk]; simp)
          have := hl (k + q) hjs hc.2 k hks h3
          rw [h1'] at this
          cases this
      rw [e1, e2]
      simp
    have hek : marked ea k = true → cnt wr listed m = T := by
      intro hme
      rw [← hT, rank_eq wr m (by omega)]
      unfold cnt
      congr 1
      apply List.filter_congr
      intro j hj
      have hjm := List.mem_range.1 hj
      have hjs : j < ops.size := by omega
      cases hmj : marked wr j with
      | false => rfl
      | true =>
        have h2 := List.all_eq_true.1 hea k (by simpa using hks)
        rw [hme] at h2
        simp only [Bool.not_true, Bool.false_or, List.all_eq_true, List.mem_range, Bool.or_eq_true, Bool.not_eq_true'] at h2
        have h3 := (h2 j hjs).resolve_left (by rw [hmj]; simp)
        rw [hahead j hjs h3]
        rfl
    have hat := hob k o (cnt wr listed m) hkm ho hrk hek (fun t => a.tmps.getD t undef) W hRW fun t htt => hI.looks hb hn ho h1' hp htt
    have hop : wpOp P ops Q k (wpAny P .any ops Q (fuel + (ops.size - m)) (listed.setIfInBounds k true)) a W := by
      refine Step.wpOp ho hat fun v W' ⟨hs, hR', hG⟩ => ih _ _ _ ?_ (hI.step hb hn hsz hst ho h1' hp hs trivial hG) ?_ fun t htm => ?_
      · have := unl_set (ops := ops) m k listed hkm hI.size hm h1
        omega
      · rw [cnt_set wr listed m k hkm hks' h1']
        exact hR'
      · rw [getD_set_ne false (by omega)]
        exact htl t htm
    exact hop
/-- THE RULE. -/
theorem regionL {Q : Exit → Act → World → Prop} {id : Nat} {W0 : World} (hmx : P.follows .mixedOrders = true) (n m T : Nat) (hck : okT ops n m = true) (bs : List ((Bool × Bool) × Spec)) (hw : (wrOk ops (Region.before ops) (bs.map (·.1.1)) && lateOk ops (Region.before ops) (bs.map (·.1.1)) (bs.map (·.1.2)) && decide (rank (bs.map (·.1.1)) m = T)) = true) (R : Nat → World → Prop) (G : World → World → Prop)
    (hsz : a0.tmps.size = n) (hdf : a0.defers = []) (hl : bs.length = m) (hst : Lasts G (bs.map (·.2))) (hR : R 0 W0.drew)
    (hob : OblL P ops R G T (ops.toList.take m) bs (fun t v _ => v = a0.tmps.getD t undef) 0)
    (hend : ∀ tm W, R (rank (bs.map (·.1.1)) m) W → tm.size = n → (∀ t, envN (ops.toList.take m) (bs.map (·.2)) (fun t v _ => v = a0.tmps.getD t undef) t (tm.getD t undef) W) → wpList P ops Q (ops.toList.drop m) ⟨tm, []⟩ W) :
    (Code.region id ops true).wp P Q a0 W0 := by
  simp only [okT, ok, Bool.and_eq_true, decide_eq_true_eq] at hck
  obtain ⟨⟨⟨⟨c1, c2⟩, c3⟩, c4⟩, c5⟩ := hck
  rw [Bool.and_eq_true, Bool.and_eq_true] at hw
  have hk0 : know ops (bs.map (·.2)) (fun t v _ => v = a0.tmps.getD t undef) 0 = fun t v _ => v = a0.tmps.getD t undef := rfl
  obtain ⟨h1, h2⟩ := obl_preL (P := P) (R := R) (G := G) bs (fun t v _ => v = a0.tmps.getD t undef) m c3 hl (by rw [hk0]; exact hob)
  rw [hk0] at h2
  have hst' : ∀ i v W W', sp (bs.map (·.2)) i v W → G W W' → sp (bs.map (·.2)) i v W' := by
    intro i v W W' h hG
    unfold sp at *
    cases hi : (bs.map (·.2))[i]? with
    | none => simp [hi]
    | some s =>
      simp only [List.getD_eq_getElem?_getD, hi, Option.getD_some] at h ⊢
      exact lasts_all hst s (List.mem_of_getElem? hi) v W W' h hG
  refine wp_region_any hmx ?_
  have hu : unl m (Array.replicate ops.size false) = m := by
    unfold unl
    have : (List.range m).filter (fun i => !(Array.replicate ops.size false).getD i true) = List.range m := by
      apply List.filter_eq_self.2
      intro i hi
      have := List.mem_range.1 hi
      have h9 : i < ops.size := by omega
      simp [h9]
    rw [this]; simp
  have h0 : cnt (bs.map (·.1.1)) (Array.replicate ops.size false) m = 0 := by
    unfold cnt
    have : (List.range m).filter (fun i => marked (bs.map (·.1.1)) i && (Array.replicate ops.size false).getD i false) = [] := by
      rw [List.filter_eq_nil_iff]
      intro i _
      simp only [Array.getD_eq_getD_getElem?, Array.getElem?_replicate]
      split <;> simp
    rw [this]; rfl
  have := rg_l (P := P) (Q := Q) (R := R) (G := G) (ss := bs.map (·.2)) (a0 := a0) (wr := bs.map (·.1.1)) c1 c2 c3 c4 c5 hw.1.1 (by simpa using hl) hw.1.2 (of_decide_eq_true hw.2) hsz hst' h1 (fun a W hRW hd hs hkn => by
    obtain ⟨tm, df⟩ := a
    simp only at hd hs
    rw [hdf] at hd
    subst hd
    refine hend tm W hRW (hs.trans hsz) ?_
    rw [h2]
    exact hkn) m (Array.replicate ops.size false) a0 W0.drew hu ?_ (by rw [h0]; exact hR) (fun t _ => by simp only [Array.getD_eq_getD_getElem?, Array.getElem?_replicate]; split <;> rfl)
  · rw [show m + (ops.size - m) = ops.size by omega] at this
    exact this
  · refine ⟨by simp, trivial, rfl, rfl, ?_, ?_, fun _ _ => rfl⟩
    · intro k o _ hl
      simp only [Array.getD_eq_getD_getElem?, Array.getElem?_replicate] at hl
      split at hl <;> simp at hl
    · intro t i _ hl
      simp only [Array.getD_eq_getD_getElem?, Array.getElem?_replicate] at hl
      split at hl <;> simp at hl
end
end Go.Proofs.Ytlblgopfdadalaa.Rg
