/- A part of the proof of 'MsgAll'. -/
import Derived.Test.YtlblgopfdadalaaM13
import Derived.Test.YtlblgopfdadalaaM9
import Derived.Test.YtlblgopfdadalaaM7
import Derived.Test.YtlblgopfdadalaaM8
namespace Go.Proofs.Ytlblgopfdadalaa
set_option linter.unusedVariables false
set_option linter.unusedSimpArgs false
set_option linter.unnecessarySimpa false
set_option maxRecDepth 100000
open Go.RowKit
/-- a letter's reader lies in block g: what is left to be read is the value v, the letter so far has the cells M -/
structure MAt (w : World) (g : Nat) (v : Value) (s : Rdr) (M : List Value) : Prop where
  blk : Blk w g 79 (v :: .int .i64 s.2 :: M).toArray
  bs : Bs w v s.1
  off : Off v [g]
  len : s.1.length ≤ 140737488350000
def MTo (w w' : World) (g : Nat) (v : Value) (s : Rdr) (M : List Value) : Prop := ∃ v', MAt w' g v' s M ∧ Chg [g] w w' ∧ ∀ S, Off v S → Off v' S
theorem MAt.ext {w w' : World} {g : Nat} {v : Value} {s : Rdr} {M : List Value} (h : MAt w g v s M) (hx : Ext w w') : MAt w' g v s M := ⟨h.blk.ext hx, h.bs.ext hx, h.off, h.len⟩
theorem MTo.same {w : World} {g : Nat} {v : Value} {s : Rdr} {M : List Value} (h : MAt w g v s M) : MTo w w g v s M := ⟨v, h, Chg.refl _ _, fun _ hS => hS⟩
theorem MAt.err {w : World} {g : Nat} {v : Value} {b : Bytes} {e : Int} {M : List Value} (h : MAt w g v (b, e) M) (k : Int) : MAt (w.setCell ⟨g, 1, none⟩ (.int .i64 k)) g v (b, k) M :=
  ⟨h.blk.set_ 1 _, h.bs.chg ((Chg.refl [g] _).set (by simp) _) h.off, h.off, h.len⟩
theorem MAt.set {w : World} {g : Nat} {v : Value} {s : Rdr} {M : List Value} (h : MAt w g v s M) (j : Nat) (u : Value) : MAt (w.setCell ⟨g, j + 2, none⟩ u) g v s (M.set j u) :=
  ⟨by have := h.blk.set_ (j + 2) u; simpa using this, h.bs.chg ((Chg.refl [g] _).set (by simp) _) h.off, h.off, h.len⟩
theorem MAt.cell {w : World} {g : Nat} {v : Value} {s : Rdr} {M : List Value} (h : MAt w g v s M) (j : Nat) : w.cell? ⟨g, j + 2, none⟩ = M[j]? := by
  rw [h.blk.cell]; simp
theorem MAt.c0 {w : World} {g : Nat} {v : Value} {s : Rdr} {M : List Value} (h : MAt w g v s M) : w.cell? ⟨g, 0, none⟩ = some v := by
  rw [h.blk.cell]; simp
theorem MAt.c1 {w : World} {g : Nat} {v : Value} {s : Rdr} {M : List Value} (h : MAt w g v s M) : w.cell? ⟨g, 1, none⟩ = some (.int .i64 s.2) := by
  rw [h.blk.cell]; simp
set_option maxHeartbeats 1600000 in
theorem mnum_b (g : Nat) (v : Value) (s : Rdr) (M : List Value) (n : Nat) (lo hi : Int) (w : World) (h : MAt w g v s M) (hn : n ≤ 8) :
    Calls Try.prog 72 #[.pointer (some ⟨g, 0, none⟩), .int .i64 n, .int .u64 lo, .int .u64 hi] w fun e w' =>
      e = .returned (.int .u64 (pnum n s).1) ∧ MTo w w' g v (pform (decide ((pnum n s).1 < lo ∨ hi < (pnum n s).1)) (pnum n s).2) M := by
  obtain ⟨b, e⟩ := s
  have c0 : w.cell? ⟨g, 0, none⟩ = some v := h.c0
  have c1 : w.cell? ⟨g, 1, none⟩ = some (.int .i64 e) := h.c1
  have f0 := h.blk.frozen 0
  have f1 := h.blk.frozen 1
  have hlb := h.len
  simp only at hlb
  by_cases he : e = 0
  · subst he
    obtain ⟨A, c, rfl, k1, k2, -⟩ := id h.bs
    rcases otake_cases b n hn with ⟨hs, e1⟩ | ⟨hs, e1⟩
    · have ht := take_b _ b n w (by omega) (by omega) h.bs
      rw [e1] at ht
      have HT := hide ht
      clear ht e1
      rw [pnum_short n b hs]
      rw [pform_bad _ _ (by show (3 : Int) ≠ 0; decide)]
      go_enter Try.func72, Try.ntmps72
      go_wp2_with (go_at_call 99; refine HT.out.mono ?_; rintro e w1 ⟨rfl, rfl⟩)
      go_ret
      exact ⟨rfl, _, h.err 3, (Chg.refl [g] _).set (by simp) _, fun S hS => hS⟩
    · have ht := take_b _ b n w (by omega) (by omega) h.bs
      rw [e1] at ht
      rw [pnum_ok n b hs]
      clear e1
      generalize val (b.take n) = V at *
      have HT := hide ht
      clear ht
      obtain ⟨i0, hi0, hz0, hz1, hz2⟩ := info_parts ti5
      have hsl := fun W => run_sl_l (P := Try.prog) (A := A) (n := b.length) (c := c) (kl := .i64) Try.underlying24 hi0 hz1 n rfl hs W
      have HOF : ∀ S, Off (.slice A b.length c) S → Off (.slice (cutA 1 A c n) (b.length - n) (c - n)) S := fun S hS => off_cut hS (by omega)
      have hof : Off (.slice (cutA 1 A c n) (b.length - n) (c - n)) [g] := HOF _ h.off
      have hM : MAt ((w.setCell ⟨g, 1, none⟩ (.int .i64 0)).setCell ⟨g, 0, none⟩ (.slice (cutA 1 A c n) (b.length - n) (c - n))) g (.slice (cutA 1 A c n) (b.length - n) (c - n)) (b.drop n, 0) M :=
        ⟨(h.blk.set_ 1 _).set_ 0 _, (h.bs.rest hs).chg (((Chg.refl [g] _).set (by simp) _).set (by simp) _) hof, hof, by simp; omega⟩
      have hch : Chg [g] w ((w.setCell ⟨g, 1, none⟩ (.int .i64 0)).setCell ⟨g, 0, none⟩ (.slice (cutA 1 A c n) (b.length - n) (c - n))) := ((Chg.refl [g] _).set (by simp) _).set (by simp) _
      by_cases hb : (V : Int) < lo
      · have e2 : decide ((V : Int) < lo ∨ hi < V) = true := decide_eq_true (.inl hb)
        simp only
        rw [e2, pform_yes]
        clear e2
        go_enter Try.func72, Try.ntmps72
        go_wp2_with (go_at_call 99; refine HT.out.mono ?_; rintro e w1 ⟨rfl, rfl⟩)
        go_ret
        exact ⟨rfl, _, hM.err 2, hch.set (by simp) _, HOF⟩
      · by_cases hc : hi < V
        · have e2 : decide ((V : Int) < lo ∨ hi < V) = true := decide_eq_true (.inr hc)
          simp only
          rw [e2, pform_yes]
          clear e2
          go_enter Try.func72, Try.ntmps72
          go_wp2_with (go_at_call 99; refine HT.out.mono ?_; rintro e w1 ⟨rfl, rfl⟩)
          go_ret
          exact ⟨rfl, _, hM.err 2, hch.set (by simp) _, HOF⟩
        · have e2 : decide ((V : Int) < lo ∨ hi < V) = false := decide_eq_false (by rintro (h1 | h1) <;> contradiction)
          simp only
          rw [e2, pform_no]
          clear e2
          go_enter Try.func72, Try.ntmps72
          go_wp2_with (go_at_call 99; refine HT.out.mono ?_; rintro e w1 ⟨rfl, rfl⟩)
          go_ret
          exact ⟨rfl, _, hM, hch, HOF⟩
  · rw [pnum_bad n _ he, pform_bad _ _ he]
    go_enter Try.func72, Try.ntmps72
    go_wp2
    go_ret
    exact ⟨rfl, MTo.same h⟩
set_option maxHeartbeats 1600000 in
theorem mbytes_b (g : Nat) (v : Value) (s : Rdr) (M : List Value) (w : World) (h : MAt w g v s M) :
    Calls Try.prog 75 #[.pointer (some ⟨g, 0, none⟩)] w fun e w' => ∃ m A c, Hid (m = (ptext s).1) ∧ e = .returned (.slice A m.length c) ∧ Nw w w' (.slice A m.length c) m ∧ MTo w w' g v (ptext s).2 M := by
  obtain ⟨b, e⟩ := s
  have c0 : w.cell? ⟨g, 0, none⟩ = some v := h.c0
  have c1 : w.cell? ⟨g, 1, none⟩ = some (.int .i64 e) := h.c1
  have hlb := h.len
  simp only at hlb
  by_cases he : e = 0
  · subst he
    obtain ⟨A, c, rfl, k1, k2, -⟩ := id h.bs
    obtain ⟨q, hq, hqb⟩ := otakeBytes_n b
    have HT := hide (takeBytes_b _ b w hlb h.bs)
    have HP : Hid (ptext (b, 0) = ((otakeBytes b).1, (b.drop (otakeBytes b).2.1.toNat, (otakeBytes b).2.2))) := by unfold Hid; exact if_pos rfl
    obtain ⟨i0, hi0, hz0, hz1, hz2⟩ := info_parts ti5
    have hsl := fun W => run_sl_l (P := Try.prog) (A := A) (n := b.length) (c := c) (kl := .i64) Try.underlying24 hi0 hz1 q rfl hqb W
    have HQ := hide hq
    clear hq
    go_enter Try.func75, Try.ntmps75
    go_wp2_with fail
    refine HT.out.mono ?_
    rintro e w1 ⟨m, Am, cm, n, k, hm, rfl, hz, hx1⟩
    have hnq : n = q := by rw [← HQ.out, ← hm.out]
    subst hnq
    have hB := h.ext hx1
    have d0 : w1.cell? ⟨g, 0, none⟩ = some (.slice A b.length c) := hB.c0
    have d1 : w1.cell? ⟨g, 1, none⟩ = some (.int .i64 0) := hB.c1
    have f0 := hB.blk.frozen 0
    have f1 := hB.blk.frozen 1
    have hgl := h.blk.lt
    have hzo : Off (.slice Am m.length cm) [g] := hz.off (by simp; exact hgl)
    go_wp2
    go_ret
    have hof : Off (.slice (cutA 1 A c q) (b.length - q) (c - q)) [g] := off_cut h.off (by omega)
    rw [HP.out, ← hm.out]
    refine ⟨m, Am, cm, hide rfl, rfl, hz.chg (((Chg.refl [g] _).set (by simp) _).set (by simp) _) (fun k hk hk2 => ?_), _, ⟨(hB.blk.set_ 0 _).set_ 1 _, ((h.bs.ext hx1).rest hqb).chg (((Chg.refl [g] _).set (by simp) _).set (by simp) _) hof, hof, by simp; omega⟩, ((hx1.chg [g]).set (by simp) _).set (by simp) _, fun S hS => off_cut hS (by omega)⟩
    have h1 := hz.lt k hk
    simp at hk2
    omega
  · rw [ptext_bad _ he]
    go_enter Try.func75, Try.ntmps75
    go_wp2
    go_ret
    exact ⟨[], none, 0, hide rfl, rfl, World.ownsRow_nil _ _ _ _, MTo.same h⟩
end Go.Proofs.Ytlblgopfdadalaa
namespace Go.Proofs.Ytlblgopfdadalaa.Rg
set_option linter.unusedVariables false
set_option linter.unusedSimpArgs false
set_option linter.unnecessarySimpa false
set_option maxRecDepth 100000
open Go
section
variable {P : Program} {ops : Array Oper} {R : World → Prop} {G : World → World → Prop} {ss : List Spec} {a0 : Act} {n m : Nat}
def tailX (ops : Array Oper) (b : Array Nat) (m p : Nat) : Bool := ((List.range ops.size).all fun t => decide (t ≤ m) || (b.getD t 0).testBit m) && (List.range m).all fun i => i == p || (b.getD m 0).testBit i
def dstX (ops : Array Oper) (p d : Nat) : Bool := decide ((ops[p]?).bind (·.dst) = some d) && (List.range ops.size).all fun i => i == p || !decide ((ops[i]?).bind (·.dst) = some d)
def okX (ops : Array Oper) (n m p d : Nat) : Bool := ok ops n && decide (m < ops.size) && decide (p < m) && tailX ops (Region.before ops) m p && dstX ops p d && Region.seqB .any ops (ops.size - m) m (headDone ops.size m) &&
  decide (Region.ready .any ops ((headDone ops.size (m + 1)).setIfInBounds p false) = [p]) && Region.seqB .any ops (ops.size - (m + 1)) (m + 1) (headDone ops.size (m + 1))
theorem eq_headDone {listed : Array Bool} {k : Nat} (hs : listed.size = ops.size) (h : ∀ i, i < ops.size → listed.getD i false = decide (i < k)) : listed = headDone ops.size k := by
  apply Array.ext
  · rw [hs]; simp [headDone]
  · intro i h1 h2
    have e1 : listed.getD i false = listed[i] := by simp [h1]
    have e2 : (headDone ops.size k).getD i false = (headDone ops.size k)[i] := by simp [h2]
    rw [← e1, ← e2, headDone_getD, if_pos (by rw [← hs]; exact h1), h i (by rw [← hs]; exact h1)]
/-- what stands ahead of a ready operation is listed -/
theorem ahead_listed (hb : befOk ops (Region.before ops) = true) {listed : Array Bool} (hc : ∀ k o, ops[k]? = some o → listed.getD k false = true → ∀ e ∈ o.after, Region.binds .any e = true → listed.getD e.on false = true)
    {k i : Nat} {o : Oper} (ho : ops[k]? = some o) (hp : ∀ e ∈ o.after, Region.binds .any e = true → listed.getD e.on false = true) (hi : i < ops.size) (h3 : ((Region.before ops).getD k 0).testBit i = true) : listed.getD i false = true := by
  have hks : k < ops.size := (Array.getElem?_eq_some_iff.1 ho).1
  have hl := bef_listed hb hc
  have h4 := List.all_eq_true.1 hb k (by simpa using hks)
  rw [ho] at h4
  simp only [Bool.and_eq_true, List.all_eq_true, List.mem_range, Bool.or_eq_true, Bool.not_eq_true'] at h4
  have h5 := (h4.2 i hi).resolve_left (by rw [h3]; simp)
  obtain ⟨e, he, h6⟩ := Array.any_eq_true'.1 h5
  simp only [Bool.and_eq_true, Bool.or_eq_true, beq_iff_eq, decide_eq_true_eq] at h6
  have hle := hp e he h6.1
  rcases h6.2 with h7 | ⟨h7, h8⟩
  · rw [← h7]; exact hle
  · exact hl e.on (by omega) hle i (by omega) h8
theorem getD_both {listed : Array Bool} {i : Nat} (h : i < listed.size) : listed.getD i true = listed.getD i false := by simp [h]
theorem getD_set_other' (l : Array Bool) {i j : Nat} (b d : Bool) (h : i ≠ j) : (l.setIfInBounds i b).getD j d = l.getD j d := by
  simp only [Array.getD_eq_getD_getElem?, Array.getElem?_setIfInBounds_ne h]
end
theorem fin_eqX {os : List Oper} {ss : List Spec} {tm0 tm : Array Value} {W : World} {n d : Nat} {ds : List Tmp} (hd : os.filterMap (·.dst) = ds) (hdd : d ∈ ds) (hl : os.length = ss.length) (h0 : tm0.size = n) (hs : tm.size = n)
    (hk : ∀ t, if t = d then tm.getD t undef = tm0.getD t undef else envN os ss (fun t v _ => v = tm0.getD t undef) t (tm.getD t undef) W) : tm = putAll (fun t => tm.getD t undef) ds tm0 := by
  apply Array.ext
  · rw [putAll_size, hs, h0]
  · intro t h1 h2
    rw [getD_at _ _ h1, getD_at _ _ h2, putAll_get _ t ds tm0 (by omega)]
    by_cases hm : t ∈ ds
    · rw [if_pos hm]
    · rw [if_neg hm]
      have h3 := hk t
      rw [if_neg (fun e => hm (by rw [e]; exact hdd)), envN_out tm0 t os ss _ hl] at h3
      · exact h3
      · intro o ho hdo
        refine hm ?_
        rw [← hd]
        exact List.mem_filterMap.2 ⟨o, ho, hdo⟩
end Go.Proofs.Ytlblgopfdadalaa.Rg
namespace Go.Proofs.Ytlblgopfdadalaa.Rg
set_option linter.unusedVariables false
set_option linter.unusedSimpArgs false
set_option linter.unnecessarySimpa false
set_option maxRecDepth 100000
open Go
section
variable {P : Program} {ops : Array Oper} {R : Nat → World → Prop} {G : World → World → Prop} {ss : List Spec} {a0 : Act} {n m : Nat} {wr : List Bool}
theorem rg_wX {Q : Exit → Act → World → Prop} (p d : Nat) (hb : befOk ops (Region.before ops) = true) (hn : namesOk ops (Region.before ops) n = true)
    (hm : m < ops.size) (hpm : p < m) (hpw : marked wr p = false) (ht : tailX ops (Region.before ops) m p = true) (hdx : dstX ops p d = true)
    (hq2 : Region.ready .any ops ((headDone ops.size (m + 1)).setIfInBounds p false) = [p]) (hq3 : Region.seqB .any ops (ops.size - (m + 1)) (m + 1) (headDone ops.size (m + 1)) = true) (hq : Region.seqB .any ops (ops.size - m) m (headDone ops.size m) = true)
    (hw : wrOk ops (Region.before ops) wr = true) (hwl : wr.length = m)
    (hsz : a0.tmps.size = n) (hst : ∀ i v W W', sp ss i v W → G W W' → sp ss i v W')
    (hob : ∀ k o i, k < m → ops[k]? = some o → (marked wr k = true → i = rank wr k) → AtW P ops G (R i) (R (i + if marked wr k then 1 else 0)) o (sp ss k) (know ops ss (fun t v _ => v = a0.tmps.getD t undef) k))
    (hend : ∀ a W, R (rank wr m) W → a.defers = a0.defers → a.tmps.size = a0.tmps.size → (∀ t, know ops ss (fun t v _ => v = a0.tmps.getD t undef) m t (a.tmps.getD t undef) W) → wpList P ops Q (ops.toList.drop m) a W)
    (hend2 : ∀ a W, R (rank wr m) W → a.defers = a0.defers → a.tmps.size = a0.tmps.size → (∀ t, t ≠ d → know ops ss (fun t v _ => v = a0.tmps.getD t undef) m t (a.tmps.getD t undef) W) → a.tmps.getD d undef = a0.tmps.getD d undef →
      wpList P ops Q (ops[m] :: ops[p]'(Nat.lt_trans hpm hm) :: ops.toList.drop (m + 1)) a W) :
    ∀ (fuel : Nat) (listed : Array Bool) (a : Act) (W : World), unl m listed = fuel → Inv ops (fun _ => True) ss a0 listed a W → R (cnt wr listed m) W → (∀ t, m ≤ t → listed.getD t false = false) → wpAny P .any ops Q (fuel + (ops.size - m)) listed a W := by
  have hps : p < ops.size := Nat.lt_trans hpm hm
  unfold dstX at hdx
  simp only [Bool.and_eq_true, decide_eq_true_eq, List.all_eq_true, List.mem_range, Bool.or_eq_true, beq_iff_eq, Bool.not_eq_true', decide_eq_false_iff_not] at hdx
  unfold tailX at ht
  simp only [Bool.and_eq_true, decide_eq_true_eq, List.all_eq_true, List.mem_range, Bool.or_eq_true, beq_iff_eq] at ht
  intro fuel
  induction fuel with
  | zero =>
    intro listed a W hu hI hRW htl
    have hall := unl_zero m listed hu
    have hl : listed = headDone ops.size m := by
      apply Array.ext
      · rw [hI.size]; simp [headDone]
      · intro i h1 h2
        have e1 : listed.getD i false = listed[i] := by simp [h1]
        have e2 : (headDone ops.size m).getD i false = (headDone ops.size m)[i] := by simp [h2]
        rw [← e1, ← e2, headDone_getD, if_pos (by rw [← hI.size]; exact h1)]
        by_cases him : i < m
        · have := hall i him
          simp [h1] at this
          simp [h1, this, him]
        · rw [htl i (by omega)]
          simp [him]
    have hc : cnt wr listed m = rank wr m := by
      rw [rank_eq wr m (by omega)]
      unfold cnt
      congr 1
      apply List.filter_congr
      intro i hi
      have := listed_false (by have := hI.size; have := List.mem_range.1 hi; omega) (hall i (List.mem_range.1 hi))
      rw [this, Bool.and_true]
    rw [hc] at hRW
    have hw := hend a W hRW hI.defers hI.tsize fun t => by
      unfold know
      cases hw : lastW ops m t with
      | some i =>
        obtain ⟨h1, h2, h3⟩ := lastW_some hw
        refine hI.new t i h1 (listed_false (by have := hI.size; omega) (hall i h2)) fun j hj hlj => ?_
        by_cases hjm : j < m
        · exact h3 j hj hjm
        · rw [htl j (by omega)] at hlj; cases hlj
      | none =>
        have h1 := lastW_none hw
        exact hI.old t fun i hi => htl i (h1 i hi)
    rw [hl]
    have hlen : (ops.toList.drop m).length = ops.size - m := by simp
    have := wpAny_of_seq (P := P) (md := .any) (Q' := Q) (ops.toList.drop m) m (headDone ops.size m) a W (fun j => by simp [List.getElem?_drop]) (by rw [hlen]; exact hq) hw
    rw [hlen] at this
    rw [Nat.zero_add]
    exact this
  | succ fuel ih =>
    intro listed a W hu hI hRW htl
    obtain ⟨i, him, hui⟩ := unl_pos m listed (by omega)
    rw [show fuel + 1 + (ops.size - m) = (fuel + (ops.size - m)) + 1 by omega]
    have hready : ∀ k, k < m → listed.getD k true = false → ∃ j, j < m ∧ j ∈ Region.ready .any ops listed := by
      intro k
      induction k using Nat.strongRecOn with
      | _ k ihk =>
        intro hk huk
        have hks : k < ops.size := by omega
        have ho : ops[k]? = some ops[k] := Array.getElem?_eq_getElem hks
        have h1 := List.all_eq_true.1 hb k (by simpa using hks)
        rw [ho] at h1
        simp only [Bool.and_eq_true, Array.all_eq_true_iff_forall_mem, Bool.or_eq_true, Bool.not_eq_true', decide_eq_true_eq] at h1
        by_cases hall : ∀ e ∈ ops[k].after, Region.binds .any e = true → listed.getD e.on false = true
        · exact ⟨k, hk, mem_ready.2 ⟨huk, _, ho, hall⟩⟩
        · have ⟨e, he⟩ : ∃ e, ¬ (e ∈ ops[k].after → Region.binds .any e = true → listed.getD e.on false = true) := Classical.not_forall.1 hall
          have he1 : e ∈ ops[k].after := Classical.byContradiction fun hc => he fun h => absurd h hc
          have he2 : Region.binds .any e = true := Classical.byContradiction fun hc => he fun _ h => absurd h hc
          have he3 : ¬ listed.getD e.on false = true := fun hc => he fun _ _ => hc
          have hlt := (h1.1 e he1).resolve_left (by rw [he2]; simp)
          refine ihk e.on hlt (by omega) ?_
          have : e.on < listed.size := by rw [hI.size]; omega
          simp [this] at he3 ⊢
          exact he3
    obtain ⟨j0, hj0, hj0r⟩ := hready i him hui
    refine ⟨fun h => (by rw [h] at hj0r; cases hj0r), fun k hk => ?_⟩
    obtain ⟨h1, o, ho, hp⟩ := mem_ready.1 hk
    have hks : k < ops.size := (Array.getElem?_eq_some_iff.1 ho).1
    have hks' : k < listed.size := by rw [hI.size]; exact hks
    have h1' : listed.getD k false = false := by
      simp only [Array.getD_eq_getD_getElem?, Array.getElem?_eq_getElem hks', Option.getD_some] at h1 ⊢
      exact h1
    have hl := bef_listed hb hI.closed
    -- what stands ahead of k is listed
    have hahead : ∀ i, i < ops.size → ((Region.before ops).getD k 0).testBit i = true → listed.getD i false = true := by
      intro i hi hbit
      have h4 := List.all_eq_true.1 hb k (by simpa using hks)
      rw [ho] at h4
      simp only [Bool.and_eq_true, List.all_eq_true, List.mem_range, Bool.or_eq_true, Bool.not_eq_true'] at h4
      have h5 := (h4.2 i hi).resolve_left (by rw [hbit]; simp)
      obtain ⟨e, he, h6⟩ := Array.any_eq_true'.1 h5
      simp only [Bool.and_eq_true, Bool.or_eq_true, beq_iff_eq, decide_eq_true_eq] at h6
      have hle := hp e he h6.1
      rcases h6.2 with h7 | ⟨h7, h8⟩
      · rw [← h7]; exact hle
      · exact hl e.on (by omega) hle i hi h8
    rcases Nat.lt_trichotomy k m with hkm | hkm | hkm
    · skip
      have hrk : marked wr k = true → cnt wr listed m = rank wr k := by
        intro hmk
        rw [rank_eq wr k (by omega)]
        unfold cnt
        -- of those that write, the ones ahead of k are listed, the ones behind it are not
        have hsplit : List.range m = List.range k ++ (List.range (m - k)).map (k + ·) := by
          apply List.ext_getElem?
          intro j
          by_cases hj : j < k
          · rw [List.getElem?_append_left (by simpa using hj)]
            simp [hj, show j < m by omega]
          · rw [List.getElem?_append_right (by simpa using (by omega : k ≤ j))]
            simp only [List.length_range, List.getElem?_map]
            by_cases hjm : j < m
            · rw [List.getElem?_range hjm, List.getElem?_range (by omega)]
              simp; omega
            · rw [List.getElem?_eq_none (by simp; omega), List.getElem?_eq_none (by simp; omega)]; rfl
        rw [hsplit, List.filter_append, List.length_append]
        have e1 : (List.range k).filter (fun i => marked wr i && listed.getD i false) = (List.range k).filter fun i => marked wr i := by
          apply List.filter_congr
          intro j hj
          have hjk := List.mem_range.1 hj
          cases hmj : marked wr j with
          | false => rfl
          | true =>
            have h2 := List.all_eq_true.1 hw k (by simpa using hks)
            rw [hmk] at h2
            simp only [Bool.not_true, Bool.false_or, List.all_eq_true, List.mem_range, Bool.or_eq_true, Bool.not_eq_true'] at h2
            have h3 := (h2 j hjk).resolve_left (by rw [hmj]; simp)
            rw [hahead j (by omega) h3]; rfl
        have e2 : ((List.range (m - k)).map (k + ·)).filter (fun i => marked wr i && listed.getD i false) = [] := by
          rw [List.filter_eq_nil_iff]
          intro j hj
          obtain ⟨q, hq, rfl⟩ := List.mem_map.1 hj
          have hqm := List.mem_range.1 hq
          intro hc
          rw [Bool.and_eq_true] at hc
          by_cases hq0 : q = 0
          · subst hq0
            rw [Nat.add_zero, h1'] at hc
            cases hc.2
          · have hjs : k + q < ops.size := by omega
            have h2 := List.all_eq_true.1 hw (k + q) (by simpa using hjs)
            rw [hc.1] at h2
            simp only [Bool.not_true, Bool.false_or, List.all_eq_true, List.mem_range, Bool.or_eq_true, Bool.not_eq_true'] at h2
            have h3 := (h2 k (by omega)).resolve_left (by rw [hmk]; simp)
            have := hl (k + q) hjs hc.2 k hks h3
            rw [h1'] at this
            cases this
        rw [e1, e2]
        simp
      have hat := hob k o (cnt wr listed m) hkm ho hrk (fun t => a.tmps.getD t undef) W hRW fun t htt => hI.looks hb hn ho h1' hp htt
      have hop : wpOp P ops Q k (wpAny P .any ops Q (fuel + (ops.size - m)) (listed.setIfInBounds k true)) a W := by
        refine Step.wpOp ho hat fun v W' ⟨hs, hR', hG⟩ => ih _ _ _ ?_ (hI.step hb hn hsz hst ho h1' hp hs trivial hG) ?_ fun t htm => ?_
        · have := unl_set (ops := ops) m k listed hkm hI.size (by omega) h1
          omega
        · rw [cnt_set wr listed m k hkm hks' h1']
          exact hR'
        · rw [getD_set_ne false (by omega)]
          exact htl t htm
      exact hop
    · subst hkm
      -- all but p is listed
      have hlp : ∀ j, j < k → j ≠ p → listed.getD j false = true := fun j hj hjp => ahead_listed hb hI.closed ho hp (by omega) ((ht.2 j hj).resolve_left hjp)
      have hip : i = p := by
        apply Classical.byContradiction
        intro hne
        have := hlp i him hne
        rw [← getD_both (by rw [hI.size]; omega), hui] at this
        cases this
      subst hip
      have hui' : listed.getD i false = false := by rw [← getD_both (by rw [hI.size]; omega)]; exact hui
      have hu0 : fuel = 0 := by
        have h2 := unl_set (ops := ops) k i listed him hI.size (by omega) hui
        rcases Nat.eq_zero_or_pos fuel with h0 | h0
        · exact h0
        · obtain ⟨i2, h3, h4⟩ := unl_pos k (listed.setIfInBounds i true) (by omega)
          by_cases he : i2 = i
          · subst he
            have hlt : i2 < listed.size := by rw [hI.size]; omega
            simp [hlt] at h4
          · rw [getD_set_ne true (Ne.symm he), getD_both (by rw [hI.size]; omega), hlp i2 h3 he] at h4
            cases h4
      subst hu0
      have ho' : ops[k]? = some ops[k] := Array.getElem?_eq_getElem hks
      have hop : ops[i]? = some ops[i] := Array.getElem?_eq_getElem hps
      have hck : cnt wr listed k = rank wr k := by
        rw [rank_eq wr k (by omega)]
        unfold cnt
        congr 1
        apply List.filter_congr
        intro j hj
        by_cases hji : j = i
        · subst hji; rw [hpw]; rfl
        · rw [hlp j (List.mem_range.1 hj) hji, Bool.and_true]
      rw [hck] at hRW
      have hw := hend2 a W hRW hI.defers hI.tsize (fun t htd => by
        unfold know
        cases hw : lastW ops k t with
        | some j =>
          obtain ⟨h1, h2, h3⟩ := lastW_some hw
          have hji : j ≠ i := by
            intro e
            subst e
            have h4 := hdx.1
            unfold isW at h1
            rw [h1] at h4
            exact htd (Option.some.inj h4)
          refine hI.new t j h1 (hlp j h2 hji) fun j' hj hlj => ?_
          by_cases hjm : j' < k
          · exact h3 j' hj hjm
          · rw [htl j' (by omega)] at hlj; cases hlj
        | none =>
          have h1 := lastW_none hw
          exact hI.old t fun i hi => htl i (h1 i hi)) (hI.old d fun j hj => by
            have hjs : j < ops.size := by
              unfold isW at hj
              rcases Nat.lt_or_ge j ops.size with h | h
              · exact h
              · rw [Array.getElem?_eq_none h] at hj; cases hj
            have hji : j = i := (hdx.2 j hjs).resolve_right fun h => h hj
            subst hji
            exact hui')
      have h0 : wpOp P ops Q k (wpList P ops Q (ops[i] :: ops.toList.drop (k + 1))) a W := by unfold wpOp; simp only [ho']; exact hw
      rw [Nat.zero_add]
      refine wpOp_mono (fun a' w' h' => ?_) h0
      have h9 : wpOp P ops Q i (wpList P ops Q (ops.toList.drop (k + 1))) a' w' := by unfold wpOp; simp only [hop]; exact h'
      have hl2 : listed.setIfInBounds k true = (headDone ops.size (k + 1)).setIfInBounds i false := by
        apply Array.ext
        · simp [hI.size, headDone]
        · intro j q1 q2
          have hjs : j < ops.size := by rw [← hI.size]; simpa using q1
          have e1 : (listed.setIfInBounds k true).getD j false = (listed.setIfInBounds k true)[j] := by simp only [Array.getD_eq_getD_getElem?, Array.getElem?_eq_getElem q1, Option.getD_some]
          have e2 : ((headDone ops.size (k + 1)).setIfInBounds i false).getD j false = ((headDone ops.size (k + 1)).setIfInBounds i false)[j] := by simp only [Array.getD_eq_getD_getElem?, Array.getElem?_eq_getElem q2, Option.getD_some]
          rw [← e1, ← e2]
          by_cases hjk : j = k
          · subst hjk
            have : j < listed.size := by rw [hI.size]; exact hjs
            rw [getD_set_other' _ _ _ (show i ≠ j by omega), headDone_getD]
            simp [this, hjs]
          · rw [getD_set_ne false (Ne.symm hjk)]
            by_cases hji : j = i
            · subst hji
              have : j < (headDone ops.size (k + 1)).size := by simpa [headDone] using hjs
              rw [hui']
              simp [this]
            · rw [getD_set_other' _ _ _ (Ne.symm hji), headDone_getD, if_pos hjs]
              by_cases hjk2 : j < k
              · rw [hlp j hjk2 hji]; simp; omega
              · rw [htl j (by omega)]; simp; omega
      rw [hl2]
      rw [show ops.size - k = (ops.size - (k + 1)) + 1 by omega]
      refine ⟨fun h => (by rw [hq2] at h; cases h), fun k2 hk2 => ?_⟩
      rw [hq2] at hk2
      have hk2' : k2 = i := by simpa using hk2
      subst hk2'
      refine wpOp_mono (fun a2 w2 h2 => ?_) h9
      have hl3 : ((headDone ops.size (k + 1)).setIfInBounds k2 false).setIfInBounds k2 true = headDone ops.size (k + 1) := by
        refine eq_headDone (by simp [headDone]) fun j hj => ?_
        by_cases hjk : j = k2
        · subst hjk
          have : j < (headDone ops.size (k + 1)).size := by simpa [headDone] using hj
          simp [this]
          omega
        · rw [getD_set_other' _ _ _ (Ne.symm hjk), getD_set_other' _ _ _ (Ne.symm hjk), headDone_getD, if_pos hj]
      rw [hl3]
      have hlen : (ops.toList.drop (k + 1)).length = ops.size - (k + 1) := by simp
      have := wpAny_of_seq (P := P) (md := .any) (Q' := Q) (ops.toList.drop (k + 1)) (k + 1) (headDone ops.size (k + 1)) a2 w2 (fun j => by simp [List.getElem?_drop]) (by rw [hlen]; exact hq3) h2
      rw [hlen] at this
      exact this
    · exfalso
      have h3 := (ht.1 k hks).resolve_left (by omega)
      have := hahead m hm h3
      rw [htl m (Nat.le_refl _)] at this
      cases this
/-- THE RULE. -/
theorem regionV {Q : Exit → Act → World → Prop} {id : Nat} {W0 : World} (hmx : P.follows .mixedOrders = true) (n m p d : Nat) (om op : Oper) (hom : ops[m]? = some om) (hop : ops[p]? = some op) (hck : okX ops n m p d = true) (bs : List (Bool × Spec)) (hw : wrOk ops (Region.before ops) (bs.map (·.1)) = true) (hpw : marked (bs.map (·.1)) p = false) (R : Nat → World → Prop) (G : World → World → Prop)
    (hsz : a0.tmps.size = n) (hdf : a0.defers = []) (hl : bs.length = m) (hst : Lasts G (bs.map (·.2))) (hR : R 0 W0.drew)
    (hob : OblW P ops R G (ops.toList.take m) bs (fun t v _ => v = a0.tmps.getD t undef) 0)
    (hend : ∀ tm W, R (rank (bs.map (·.1)) m) W → tm.size = n → (∀ t, envN (ops.toList.take m) (bs.map (·.2)) (fun t v _ => v = a0.tmps.getD t undef) t (tm.getD t undef) W) → wpList P ops Q (ops.toList.drop m) ⟨tm, []⟩ W)
    (hend2 : ∀ tm W, R (rank (bs.map (·.1)) m) W → tm.size = n → (∀ t, if t = d then tm.getD t undef = a0.tmps.getD t undef else envN (ops.toList.take m) (bs.map (·.2)) (fun t v _ => v = a0.tmps.getD t undef) t (tm.getD t undef) W) → wpList P ops Q (om :: op :: ops.toList.drop (m + 1)) ⟨tm, []⟩ W) :
    (Code.region id ops true).wp P Q a0 W0 := by
  simp only [okX, ok, Bool.and_eq_true, decide_eq_true_eq] at hck
  obtain ⟨⟨⟨⟨⟨⟨⟨⟨c1, c2⟩, c3⟩, c4⟩, c5⟩, c6⟩, c7⟩, c8⟩, c9⟩ := hck
  have hk0 : know ops (bs.map (·.2)) (fun t v _ => v = a0.tmps.getD t undef) 0 = fun t v _ => v = a0.tmps.getD t undef := rfl
  obtain ⟨h1, h2⟩ := obl_preW (P := P) (R := R) (G := G) bs (fun t v _ => v = a0.tmps.getD t undef) m (Nat.le_of_lt c3) hl (by rw [hk0]; exact hob)
  rw [hk0] at h2
  have hst' : ∀ i v W W', sp (bs.map (·.2)) i v W → G W W' → sp (bs.map (·.2)) i v W' := by
    intro i v W W' h hG
    unfold sp at *
    cases hi : (bs.map (·.2))[i]? with
    | none => simp [hi]
    | some s =>
      simp only [List.getD_eq_getElem?_getD, hi, Option.getD_some] at h ⊢
      exact lasts_all hst s (List.mem_of_getElem? hi) v W W' h hG
  refine wp_region_any hmx ?_
  have hu : unl m (Array.replicate ops.size false) = m := by
    unfold unl
    have : (List.range m).filter (fun i => !(Array.replicate ops.size false).getD i true) = List.range m := by
      apply List.filter_eq_self.2
      intro i hi
      have := List.mem_range.1 hi
      have h9 : i < ops.size := by omega
      simp [h9]
    rw [this]; simp
  have h0 : cnt (bs.map (·.1)) (Array.replicate ops.size false) m = 0 := by
    unfold cnt
    have : (List.range m).filter (fun i => marked (bs.map (·.1)) i && (Array.replicate ops.size false).getD i false) = [] := by
      rw [List.filter_eq_nil_iff]
      intro i _
      simp only [Array.getD_eq_getD_getElem?, Array.getElem?_replicate]
      split <;> simp
    rw [this]; rfl
  have em : ops[m] = om := by rw [Array.getElem?_eq_getElem c3] at hom; exact Option.some.inj hom
  have ep : ops[p]'(Nat.lt_trans c4 c3) = op := by rw [Array.getElem?_eq_getElem (Nat.lt_trans c4 c3)] at hop; exact Option.some.inj hop
  have := rg_wX (P := P) (Q := Q) (R := R) (G := G) (ss := bs.map (·.2)) (a0 := a0) (wr := bs.map (·.1)) p d c1 c2 c3 c4 hpw c5 c6 c8 c9 c7 hw (by simpa using hl) hsz hst' h1 (fun a W hRW hd hs hkn => by
    obtain ⟨tm, df⟩ := a
    simp only at hd hs
    rw [hdf] at hd
    subst hd
    refine hend tm W hRW (hs.trans hsz) ?_
    rw [h2]
    exact hkn) (fun a W hRW hd hs hkn hkd => by
    obtain ⟨tm, df⟩ := a
    simp only at hd hs
    rw [hdf] at hd
    subst hd
    rw [em, ep]
    refine hend2 tm W hRW (hs.trans hsz) fun t => ?_
    by_cases htd : t = d
    · subst htd
      rw [if_pos rfl]
      exact hkd
    · rw [if_neg htd, h2]
      exact hkn t htd) m (Array.replicate ops.size false) a0 W0.drew hu ?_ (by rw [h0]; exact hR) (fun t _ => by simp only [Array.getD_eq_getD_getElem?, Array.getElem?_replicate]; split <;> rfl)
  · rw [show m + (ops.size - m) = ops.size by omega] at this
    exact this
  · refine ⟨by simp, trivial, rfl, rfl, ?_, ?_, fun _ _ => rfl⟩
    · intro k o _ hl
      simp only [Array.getD_eq_getD_getElem?, Array.getElem?_replicate] at hl
      split at hl <;> simp at hl
    · intro t i _ hl
      simp only [Array.getD_eq_getD_getElem?, Array.getElem?_replicate] at hl
      split at hl <;> simp at hl
end
end Go.Proofs.Ytlblgopfdadalaa.Rg
