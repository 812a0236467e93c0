import Derived.Test.YtboncnlcomeahaaPk27
import Derived.Test.YtboncnlcomeahaaPk29
import Derived.Test.YtboncnlcomeahaaPk17
/- store.Save. -/
namespace Go.Proofs.Ytboncnlcomeahaa
set_option linter.unusedVariables false
set_option linter.unusedSimpArgs false
set_option linter.unnecessarySimpa false
set_option maxRecDepth 100000
open Go.RowKit
def isSnap (r : Rec) : Bool := r.kind == 4
set_option maxHeartbeats 1600000 in
theorem saveF_b (r : Rec) (v1 v2 : Value) (w : World) : Calls Try.prog 45 #[.agg (recells r v1 v2).toArray] w fun e w' => e = .returned (.bool (isSnap r)) ∧ Ext w w' := by
  have hx : Ext w (w.alloc (.cells (recells r v1 v2).toArray 38)) := (Ext.rfl' _).alloc' _
  go_enter Try.func45, Try.ntmps45
  go_wp2
  go_ret
  exact ⟨rfl, hx⟩
def RetIx (l : List Rec) (w w' : World) (e : Ending) : Prop := ∃ i : Int, e = .returned (.int .i64 i) ∧ Ext w w' ∧ Hid (decide (0 ≤ i) = l.any isSnap)
set_option maxHeartbeats 1600000 in
theorem idxSnap_b (x : Value) (l : List Rec) (w : World) (hl : l.length ≤ 100000) (hx : Enc.Sl reE w noneAt x l) :
    Calls Try.prog 70 #[x, .func (.func 45) #[] #[]] w fun e w' => RetIx l w w' e := by
  obtain ⟨A, cap, rfl, k1, k2⟩ := hx.form
  go_enter Try.func70, Try.ntmps70
  go_wp2
  go_loopw [8] (fun i wr => ∃ a : Nat, a ≤ l.length ∧ i = .int .i64 a ∧ Hid (∀ m s, m < a → l[m]? = some s → isSnap s = false) ∧ Ext w wr) (fun i _ => (l.length - intOf i).toNat)
  case atStart => exact ⟨0, Nat.zero_le _, rfl, hide (fun m s h => by omega), Ext.rfl' w⟩
  case round =>
    obtain ⟨a, hal, rfl, hlo, hx1⟩ := hrel
    by_cases hlt : a < l.length
    · obtain ⟨ad, r, v1, v2, rfl, hr, hb, p0, p1, p2, p3, p4, p5, p6, p7, p8, r1, r2, r3⟩ := re_at (hx.ext hx1) (k := a) hlt
      have HP := hide (fun W => saveF_b r v1 v2 W)
      go_wp2_with fail
      refine (HP.out _).mono ?_
      rintro e w2 ⟨rfl, hx2⟩
      obtain ⟨q, hq⟩ : ∃ q, isSnap r = q := ⟨_, rfl⟩
      rw [hq]
      have HQ := hide hq
      clear hq
      cases q with
      | true =>
        go_wp2
        go_ret
        exact ⟨a, rfl, hx1.trans' hx2, hide (by
          rw [decide_eq_true (by omega), eq_comm, List.any_eq_true]
          exact ⟨r, List.mem_of_getElem? hr.out, HQ.out⟩)⟩
      | false =>
        go_wp2
        go_roundw
        case rel =>
          refine ⟨a + 1, by omega, by go_num, hide fun m t hm ht => ?_, hx1.trans' hx2⟩
          by_cases hma : m < a
          · exact hlo.out m t hma ht
          · obtain rfl : m = a := by omega
            obtain rfl := Option.some.inj (ht.symm.trans hr.out)
            exact HQ.out
        case measure => simp [intOf]; omega
    · go_wp2
      go_ret
      refine ⟨-1, rfl, hx1, hide ?_⟩
      rw [decide_eq_false (by omega), eq_comm, List.any_eq_false]
      intro s hs
      obtain ⟨m, hm⟩ := List.mem_iff_getElem?.1 hs
      have hml := (List.getElem?_eq_some_iff.1 hm).1
      rw [hlo.out m s (by omega) hm]
      simp
set_option maxHeartbeats 1600000 in
theorem hasSnap_b (x : Value) (l : List Rec) (w : World) (hl : l.length ≤ 100000) (hx : Enc.Sl reE w noneAt x l) :
    Calls Try.prog 44 #[x, .func (.func 45) #[] #[]] w fun e w' => e = .returned (.bool (l.any isSnap)) ∧ Ext w w' := by
  obtain ⟨A, cap, rfl, k1, k2⟩ := hx.form
  obtain ⟨b, hb⟩ : ∃ b, l.any isSnap = b := ⟨_, rfl⟩
  have HI := hide (idxSnap_b (.slice A l.length cap) l w hl hx)
  rw [hb]
  have HB := hide hb
  clear hb
  go_enter Try.func44, Try.ntmps44
  go_wp2_with fail
  refine HI.out.mono ?_
  rintro e w2 ⟨i, rfl, hx2, hi⟩
  go_wp2
  go_ret
  refine ⟨?_, hx2⟩
  show Ending.returned (.bool (decide (0 ≤ i))) = _
  rw [hi.out, HB.out]
/-- what a saving does to the disk -/
def saveD (d : Dk) (l : List Rec) (next : Kp) : Dk × Int :=
  if l.any isSnap = true then d.op (lput (krecs next)).length (Dk.repl (lput (krecs next))) id
  else if (d.op (d.b.length + (lput l).length) (Dk.app (lput l)) (Dk.app (lput l))).2 = 0 then (d.op (d.b.length + (lput l).length) (Dk.app (lput l)) (Dk.app (lput l))).1.op 0 Dk.last id
  else d.op (d.b.length + (lput l).length) (Dk.app (lput l)) (Dk.app (lput l))
def save (d : Dk) (k : Kp) (l : List Rec) : Dk × Kp × Int :=
  if l = [] then (d, k, 0) else ((saveD d l (kfold k l)).1, if (saveD d l (kfold k l)).2 = 0 then kfold k l else k, (saveD d l (kfold k l)).2)
/-- a store and its disk -/
structure StD (w : World) (gs gd : Nat) (k : Kp) (d : Dk) (v : Value) (As : Option Addr) (cs : Nat) (Ae : Option Addr) (ce : Nat) : Prop where
  disk : DiskAt w gd v d
  so : SoAt w gs gd k As cs Ae ce
  ne : gs ≠ gd
  own : ∀ j, v.ownBlock = some j → j ≠ gs
  wide : k.wide
  lt : ∀ j, v.ownBlock = some j → j < w.heap.size
theorem StD.ext {w w' : World} {gs gd : Nat} {k : Kp} {d : Dk} {v : Value} {As Ae : Option Addr} {cs ce : Nat} (h : StD w gs gd k d v As cs Ae ce) (hx : Ext w w') : StD w' gs gd k d v As cs Ae ce :=
  ⟨h.disk.ext hx, h.so.ext hx, h.ne, h.own, h.wide, fun j hj => Nat.lt_of_lt_of_le (h.lt j hj) hx.size⟩
/-- the disk is turned -/
theorem StD.to {w w' : World} {gs gd : Nat} {k : Kp} {d d' : Dk} {v : Value} {As Ae : Option Addr} {cs ce : Nat} (h : StD w gs gd k d v As cs Ae ce) (hd : DiskTo w w' gd v d') : ∃ v', StD w' gs gd k d' v' As cs Ae ce ∧ Chg [gd] w w' := by
  obtain ⟨v', h1, h2, h3⟩ := hd
  have hsz := h2.size
  have hgs := h.so.blk.lt
  refine ⟨v', ⟨h1, h.so.chg h2 h.ne, h.ne, fun j hj => ?_, h.wide, fun j hj => ?_⟩, h2⟩
  · rcases h3 j hj with h4 | h4
    · exact h.own j h4
    · omega
  · rcases h3 j hj with h4 | h4
    · have := h.lt j h4; omega
    · exact h4.2
theorem krecs_small {k : Kp} {n : Nat} (h : k.small n) (hw : k.wide) (he : ∀ e ∈ k.ents, 0 ≤ e.term ∧ e.term ≤ 18446744073709551615) : (∀ r ∈ krecs k, r.wide ∧ r.small) ∧ (krecs k).length ≤ n + 2 := by
  constructor
  · intro r hr
    rw [krecs_eq] at hr
    rcases List.mem_append.1 hr with hr | hr
    · unfold krecs1 at hr
      rcases List.mem_cons.1 hr with rfl | hr
      · exact ⟨rHard_wide hw, by simp [rHard, Rec.small, En0, Sn0]⟩
      · split at hr
        · cases hr
        · rw [List.mem_singleton.1 hr]
          exact ⟨rSnap_wide hw, by simp [rSnap, Rec.small, En0, h.state]⟩
    · obtain ⟨e, he', rfl⟩ := List.mem_map.1 hr
      exact ⟨rEnt_wide (he e he'), by simp [rEnt, Rec.small, Sn0, h.data e he']⟩
  · rw [krecs_eq, List.length_append, List.length_map]
    have := krecs1_len k
    have := h.len
    omega
theorem sl_terms {w : World} {X : Avoid} {x : Value} {l : List En} (h : Enc.Sl enE w X x l) : ∀ e ∈ l, 0 ≤ e.term ∧ e.term ≤ 18446744073709551615 := by
  intro e he
  obtain ⟨k, hk⟩ := List.mem_iff_getElem?.1 he
  obtain ⟨A, c, rfl, -, -⟩ := h.form
  obtain ⟨ad, e', v, -, h1, -, -, -, h2, -⟩ := en_at h (k := k) (List.getElem?_eq_some_iff.1 hk).1
  rw [Option.some.inj (hk.symm.trans h1.out)]
  exact h2
end Go.Proofs.Ytboncnlcomeahaa

