/- A part of the proof of 'StoreAll'. -/
import Derived.Test.YtlblgopfdadalaaS13
import Derived.Test.YtlblgopfdadalaaS14
import Derived.StillTailTactics
namespace Go.Proofs.Ytlblgopfdadalaa
set_option linter.unusedVariables false
set_option linter.unusedSimpArgs false
set_option linter.unnecessarySimpa false
set_option maxRecDepth 100000
open Go.RowKit
theorem kp_small_len {k : Kp} {n : Nat} (h : k.small n) (hn : n ≤ 1000) : k.ents.length ≤ 100000 := by have := h.len; omega
set_option maxHeartbeats 6400000 in
theorem fold_b (X : Avoid) (k : Kp) (vs ve x : Value) (l : List Rec) (n : Nat) (w : World) (hX : ∀ j, X j → j < w.heap.size) (hkw : k.wide) (hks : k.small n) (hs : Enc.BsX w X vs k.snap.state) (he : Enc.Sl enE w X ve k.ents) (hx : Enc.Sl reE w X x l)
    (hl : ∀ r ∈ l, r.wide ∧ r.small) (hn : n + l.length ≤ 1000) :
    Calls Try.prog 51 #[.agg (kpcells k vs ve).toArray, x] w fun e w' => RetKp X w w' e (kfold k l) := by
  obtain ⟨Ax, cx, rfl, -, -⟩ := hx.form
  obtain ⟨kr, hkr⟩ : ∃ kr, kfold k l = kr := ⟨_, rfl⟩
  rw [hkr]
  have HKR := hide hkr
  clear hkr
  obtain ⟨As0, cS0, rfl, -, -, -⟩ := id hs.1
  obtain ⟨Ae0, cE0, rfl, -, -⟩ := he.form
  obtain ⟨hB, hR_, hxw⟩ := two_alK w 53 53 (kpcells k (.slice As0 k.snap.state.length cS0) (.slice Ae0 k.ents.length cE0)).toArray #[.int .u64 0, .int .i64 0, .int .u64 0, .int .u64 0, .slice none 0 0, .slice none 0 0]
  obtain ⟨g, hg⟩ : ∃ g, w.heap.size = g := ⟨_, rfl⟩
  rw [hg] at hB hR_
  have hXl : ∀ j, X j → j < g := fun j hj => by rw [← hg]; exact hX j hj
  go_enter Try.func51, Try.ntmps51
  go_upto_region 1 with fail
  generalize ((w.alloc (.cells (kpcells k (.slice As0 k.snap.state.length cS0) (.slice Ae0 k.ents.length cE0)).toArray 53)).alloc (.cells #[.int .u64 0, .int .i64 0, .int .u64 0, .int .u64 0, .slice none 0 0, .slice none 0 0] 53)) = w1 at *
  try rw [hg]
  have hr1 := hR_.lt
  have hX1 : ∀ j, XK X g j → j < w1.heap.size := fun j hj => by rcases hj with h | h; (have := hXl j h; omega); omega
  have hs' := (hs.mono (Y := XK X g) (fun j hj h => h.elim id fun h => by omega)).ext hxw
  have he' := (he.mono (Y := XK X g) (fun j hj h => h.elim id fun h => by omega)).ext hxw
  have hx' := (hx.mono (Y := XK X g) (fun j hj h => h.elim id fun h => by omega)).ext hxw
  have b0 := (hB.cell 0).trans rfl
  have b1 := (hB.cell 1).trans rfl
  have b2 := (hB.cell 2).trans rfl
  have b3 := (hB.cell 3).trans rfl
  have b4 := (hB.cell 4).trans rfl
  have b5 := (hB.cell 5).trans rfl
  have hdat : ∀ e ∈ k.ents, e.data.length ≤ 1000000 := fun e h => Nat.le_trans (hks.data e h) (by decide)
  have hsta : k.snap.state.length ≤ 1000000 := Nat.le_trans hks.state (by decide)
  go_wp2_with fail
  refine (copied_b (XK X g) k (.slice As0 k.snap.state.length cS0) (.slice Ae0 k.ents.length cE0) w1 hX1 hkw hs' he' (kp_small_len hks (by omega)) hsta hdat).mono ?_
  rintro e W2 ⟨As, cS, AE, cE, rfl, hs2, ho2, hx2⟩
  clear b0 b1 b2 b3 b4 b5 hB
  obtain ⟨gf, hgf⟩ : ∃ g_, W2.heap.size = g_ := ⟨_, rfl⟩
  have hF := Blk.new W2 130 #[.int .u64 k.hard.term, .int .i64 k.hard.vote, .int .u64 k.snap.index, .int .u64 k.snap.term, .slice As k.snap.state.length cS, .slice AE k.ents.length cE]
  rw [hgf] at hF
  have hz : Ext W2 (W2.alloc (.cells #[.int .u64 k.hard.term, .int .i64 k.hard.vote, .int .u64 k.snap.index, .int .u64 k.snap.term, .slice As k.snap.state.length cS, .slice AE k.ents.length cE] 130)) := (Ext.rfl' _).alloc' _
  have hgf1 : w1.heap.size ≤ gf := by have := hx2.size; omega
  have hFo : FoAt (XK X g) w1 (W2.alloc (.cells #[.int .u64 k.hard.term, .int .i64 k.hard.vote, .int .u64 k.snap.index, .int .u64 k.snap.term, .slice As k.snap.state.length cS, .slice AE k.ents.length cE] 130)) gf k := by
    refine ⟨As, cS, AE, cE, hF, (hs2.mono (Y := fun j => (XK X g j ∨ j = gf) ∨ (Value.slice AE k.ents.length cE).ownBlock = some j) (fun j hj h => ?_)).ext hz, (OwnO.of_own (ho2.mono (Y := fun j => XK X g j ∨ j = gf) fun j hj h => h.elim id fun h => by omega)).ext hz⟩
    rcases h with (h | h) | h
    · exact .inl h
    · omega
    · exact .inr h
  go_upto_region 2 with fail
  try rw [hgf]
  clear hgf hF
  generalize (W2.alloc (.cells #[.int .u64 k.hard.term, .int .i64 k.hard.vote, .int .u64 k.snap.index, .int .u64 k.snap.term, .slice As k.snap.state.length cS, .slice AE k.ents.length cE] 130)) = W3 at *
  have hx3 := hx2.trans' hz
  clear hz hs2 ho2 hx2
  go_wp2_with fail
  go_loopw [14] (fun i wr => ∃ m : Nat, m ≤ l.length ∧ i = .int .i64 m ∧ FoAt (XK X g) w1 wr gf (kfold k (l.take m)) ∧ Ext w1 wr) (fun i _ => (l.length - intOf i).toNat)
  case atStart => exact ⟨0, by omega, rfl, hFo, hx3⟩
  case round =>
    clear hFo hx3
    obtain ⟨m, hm, rfl, hFo, hxr⟩ := hrel
    have hsm := Kp.small.fold (l.take m) hks (fun r hr => (hl r (List.mem_of_mem_take hr)).2)
    have hwd := Kp.wide.fold (l.take m) hkw (fun r hr => (hl r (List.mem_of_mem_take hr)).1)
    have hlt_ : (l.take m).length ≤ l.length := by rw [List.length_take]; omega
    by_cases hlt : m < l.length
    · obtain ⟨ad, r, v1, v2, rfl, hr, hb, p0, p1, p2, p3, p4, p5, p6, p7, p8, r1, r2, r3⟩ := re_at hx' hlt
      replace p0 := (hxr.cell (by rw [block_of_add]; exact hb)).trans p0
      replace p1 := (hxr.cell (by show (ad.add (m * 9)).block < _; rw [block_of_add]; exact hb)).trans p1
      replace p2 := (hxr.cell (by show (ad.add (m * 9)).block < _; rw [block_of_add]; exact hb)).trans p2
      replace p3 := (hxr.cell (by show (ad.add (m * 9)).block < _; rw [block_of_add]; exact hb)).trans p3
      replace p4 := (hxr.cell (by show (ad.add (m * 9)).block < _; rw [block_of_add]; exact hb)).trans p4
      replace p5 := (hxr.cell (by show (ad.add (m * 9)).block < _; rw [block_of_add]; exact hb)).trans p5
      replace p6 := (hxr.cell (by show (ad.add (m * 9)).block < _; rw [block_of_add]; exact hb)).trans p6
      replace p7 := (hxr.cell (by show (ad.add (m * 9)).block < _; rw [block_of_add]; exact hb)).trans p7
      replace p8 := (hxr.cell (by show (ad.add (m * 9)).block < _; rw [block_of_add]; exact hb)).trans p8
      have hfs : kfold k (l.take (m + 1)) = kone (kfold k (l.take m)) r := by rw [take_snoc hr.out, kfold_snoc]
      have HFS := hide hfs
      clear hfs
      obtain ⟨km, hkm⟩ : ∃ q, kfold k (l.take m) = q := ⟨_, rfl⟩
      rw [hkm] at hFo hsm hwd HFS
      clear hkm
      obtain ⟨A1, c1, rfl, -, -, -⟩ := id r2.1
      obtain ⟨A2, c2, rfl, -, -, -⟩ := id r3.1
      have hz : Ext wr (wr.alloc (.cells (recells r (.slice A1 r.ent.data.length c1) (.slice A2 r.snap.state.length c2)).toArray 101)) := (Ext.rfl' _).alloc' _
      have hQ := Blk.new wr 101 (recells r (.slice A1 r.ent.data.length c1) (.slice A2 r.snap.state.length c2)).toArray
      obtain ⟨gq, hgq⟩ : ∃ g_, wr.heap.size = g_ := ⟨_, rfl⟩
      rw [hgq] at hQ
      have hm0 : (0 : Int) ≤ m := by omega
      have hml : (m : Int) < l.length := by omega
      have HLT := hide hlt
      clear hlt
      go_upto_region 5 with fail
      try rw [hgq]
      clear hgq p0 p1 p2 p3 p4 p5 p6 p7 p8
      generalize (wr.alloc (.cells (recells r (.slice A1 r.ent.data.length c1) (.slice A2 r.snap.state.length c2)).toArray 101)) = W4 at *
      have q0 := (hQ.cell 0).trans rfl
      have q1 := (hQ.cell 1).trans rfl
      have q2 := (hQ.cell 2).trans rfl
      have q3 := (hQ.cell 3).trans rfl
      have q4 := (hQ.cell 4).trans rfl
      have q5 := (hQ.cell 5).trans rfl
      have q6 := (hQ.cell 6).trans rfl
      have q7 := (hQ.cell 7).trans rfl
      have q8 := (hQ.cell 8).trans rfl
      go_wp2_with fail
      refine (foone_b (XK X g) w1 gf km r (.slice A1 r.ent.data.length c1) (.slice A2 r.snap.state.length c2) W4 hgf1 (hFo.ext hz) hwd (hl r (List.mem_of_getElem? hr.out)).1 hX1 r2 r3 (hxr.trans' hz) (kp_small_len hsm (by omega))).mono ?_
      rintro e W5 ⟨rfl, hF5, hx5⟩
      rw [← HFS.out] at hF5
      clear q0 q1 q2 q3 q4 q5 q6 q7 q8
      go_wp2_with fail
      go_roundw
      case rel => exact ⟨m + 1, by have := HLT.out; omega, by go_num, hF5, hx5⟩
      case measure => have := HLT.out; simp [intOf]; omega
    · obtain rfl : m = l.length := by omega
      rw [List.take_length] at hFo hsm hwd
      rw [HKR.out] at hFo hsm hwd
      obtain ⟨As, cs, Ae, ce, hF⟩ := hFo
      have hR4 := hR_.ext hxr
      have b0 := (hF.1.cell 0).trans rfl
      have b1 := (hF.1.cell 1).trans rfl
      have b2 := (hF.1.cell 2).trans rfl
      have b3 := (hF.1.cell 3).trans rfl
      have b4 := (hF.1.cell 4).trans rfl
      have b5 := (hF.1.cell 5).trans rfl
      go_wp2_with fail
      refine (copied_b (XK X g) kr (.slice As kr.snap.state.length cs) (.slice Ae kr.ents.length ce) wr (fun j hj => Nat.lt_of_lt_of_le (hX1 j hj) hxr.size) hwd (hF.2.1.mono fun j _ h => .inl (.inl h)) (hF.2.2.sl.mono fun j _ h => .inl h) (kp_small_len hsm (by omega)) (Nat.le_trans hsm.state (by decide)) (fun e h => Nat.le_trans (hsm.data e h) (by decide))).mono ?_
      rintro e W6 ⟨As2, cS2, AE2, cE2, rfl, hs6, ho6, hx6⟩
      clear b0 b1 b2 b3 b4 b5
      have hR6 := hR4.ext hx6
      have r0 := (hR6.cell 0).trans rfl
      have r1 := (hR6.cell 1).trans rfl
      have r2 := (hR6.cell 2).trans rfl
      have r3 := (hR6.cell 3).trans rfl
      have r4 := (hR6.cell 4).trans rfl
      have r5 := (hR6.cell 5).trans rfl
      have f0 := hR6.frozen 0
      have f1 := hR6.frozen 1
      have f2 := hR6.frozen 2
      have f3 := hR6.frozen 3
      have f4 := hR6.frozen 4
      have f5 := hR6.frozen 5
      go_wp2
      try simp only [Exit.inBlock, Exit.then]
      have hcf : Chg [g + 1] W6 _ := (Chg.refl [g + 1] W6).sixK (g := g + 1) (by simp) (.int .u64 kr.hard.term) (.int .i64 kr.hard.vote) (.int .u64 kr.snap.index) (.int .u64 kr.snap.term) (.slice As2 kr.snap.state.length cS2) (.slice AE2 kr.ents.length cE2)
      refine bodyPost_ret (results_cell_row rfl _ _ (g + 1) 53 #[.int .u64 kr.hard.term, .int .i64 kr.hard.vote, .int .u64 kr.snap.index, .int .u64 kr.snap.term, .slice As2 kr.snap.state.length cS2, .slice AE2 kr.ents.length cE2] (0, 0) _ rfl (Blk.sixK hR6 _ _ _ _ _ _) Try.underlying53 rfl (by kernel_rfl)) rfl ?_
      exact ⟨As2, cS2, AE2, cE2, rfl, (hs6.chg hcf (fun j hj _ => by have := List.mem_singleton.1 hj; exact .inl (.inr ⟨by omega, by omega⟩))).mono (fun j _ h => h.elim (fun h => .inl (.inl h)) .inr), ((ho6.base (Nat.le_trans hxw.size hxr.size)).chg hcf (fun j hj _ => by have := List.mem_singleton.1 hj; exact .inr ⟨by omega, by omega⟩)).mono (fun j _ h => .inl h), ((hxw.trans' hxr).trans' hx6).then_ hcf (by simp; omega)⟩
end Go.Proofs.Ytlblgopfdadalaa
namespace Go.Proofs.Ytlblgopfdadalaa
set_option linter.unusedVariables false
set_option linter.unusedSimpArgs false
set_option linter.unnecessarySimpa false
set_option maxRecDepth 100000
open Go.RowKit
theorem Own.lit1S {α : Type} {E : Enc α} {w0 w : World} {X : Avoid} {cs : List Value} {a : α} (T : TypeId) (hx : Ext w0 w) (g : Nat) (hg : w.heap.size = g) (hX : ¬ X g) (h : E.rep w (fun k => X k ∨ k = g) cs a) : Own T E w0 (w.alloc (.cells cs.toArray T)) X (.slice (some ⟨g, 0, none⟩) 1 1) [a] := by
  subst hg
  have hl := E.len h
  refine ⟨[cs], by simpa using World.ownsRow_lit (size := E.size) w cs.toArray 1 hx.size (by decide) (by simp [hl]), ?_, fun k hk => ?_⟩
  · exact Enc.Each.single (E.ext (E.mono h fun i hi hm => hm.elim .inl fun h => .inr (Option.some.inj h).symm) ((Ext.rfl' w).alloc' _))
  · obtain rfl := Option.some.inj hk
    exact hX
theorem rHard_wide {k : Kp} (h : k.wide) : (rHard k.hard).wide := ⟨by simp [rHard], by simp [rHard], h.t0, h.t1, h.v0, h.v1, by simp [rHard, En0], by simp [rHard, En0], by simp [rHard], by simp [rHard], by simp [rHard, Sn0], by simp [rHard, Sn0], by simp [rHard, Sn0], by simp [rHard, Sn0]⟩
theorem rSnap_wide {k : Kp} (h : k.wide) : (rSnap k.snap).wide := ⟨by simp [rSnap], by simp [rSnap], by simp [rSnap, Hd0], by simp [rSnap, Hd0], by simp [rSnap, Hd0], by simp [rSnap, Hd0], by simp [rSnap, En0], by simp [rSnap, En0], by simp [rSnap], by simp [rSnap], h.n0, h.n1, h.s0, h.s1⟩
theorem rEnt_wide {e : En} (h : 0 ≤ e.term ∧ e.term ≤ 18446744073709551615) : (rEnt e).wide := ⟨by simp [rEnt], by simp [rEnt], by simp [rEnt, Hd0], by simp [rEnt, Hd0], by simp [rEnt, Hd0], by simp [rEnt, Hd0], h.1, h.2, by simp [rEnt], by simp [rEnt], by simp [rEnt, Sn0], by simp [rEnt, Sn0], by simp [rEnt, Sn0], by simp [rEnt, Sn0]⟩
def krecs1 (k : Kp) : List Rec := rHard k.hard :: (if k.snap.index = 0 then [] else [rSnap k.snap])
theorem krecs_eq (k : Kp) : krecs k = krecs1 k ++ k.ents.map rEnt := rfl
theorem krecs1_len (k : Kp) : (krecs1 k).length ≤ 2 := by unfold krecs1; split <;> simp
def RetRecs (X : Avoid) (w w' : World) (e : Ending) (l : List Rec) : Prop := ∃ (m : List Rec) (A : Option Addr) (c : Nat), Hid (m = l) ∧ e = .returned (.slice A m.length c) ∧ Own 101 reE w w' X (.slice A m.length c) m ∧ Ext w w'
set_option maxHeartbeats 6400000 in
theorem records_b (X : Avoid) (k : Kp) (vs ve : Value) (n : Nat) (w : World) (hX : ∀ j, X j → j < w.heap.size) (hkw : k.wide) (hks : k.small n) (hs : Enc.BsX w X vs k.snap.state) (he : Enc.Sl enE w X ve k.ents) (hn : n ≤ 1000) :
    Calls Try.prog 50 #[.agg (kpcells k vs ve).toArray] w fun e w' => RetRecs X w w' e (krecs k) := by
  obtain ⟨As0, cS0, rfl, -, -, -⟩ := id hs.1
  obtain ⟨Ae0, cE0, rfl, -, -⟩ := he.form
  have hB := Blk.new w 53 (kpcells k (.slice As0 k.snap.state.length cS0) (.slice Ae0 k.ents.length cE0)).toArray
  have hxw : Ext w (w.alloc (.cells (kpcells k (.slice As0 k.snap.state.length cS0) (.slice Ae0 k.ents.length cE0)).toArray 53)) := (Ext.rfl' _).alloc' _
  obtain ⟨g, hg⟩ : ∃ g, w.heap.size = g := ⟨_, rfl⟩
  rw [hg] at hB
  have hXl : ∀ j, X j → j < g := fun j hj => by rw [← hg]; exact hX j hj
  go_enter Try.func50, Try.ntmps50
  go_upto_region 1 with fail
  generalize (w.alloc (.cells (kpcells k (.slice As0 k.snap.state.length cS0) (.slice Ae0 k.ents.length cE0)).toArray 53)) = w1 at *
  try rw [hg]
  have hr1 := hB.lt
  have hX1 : ∀ j, (X j ∨ j = g) → j < w1.heap.size := fun j hj => by rcases hj with h | h; (have := hXl j h; omega); omega
  have hs' := (hs.mono (Y := fun j => X j ∨ j = g) (fun j hj h => h.elim id fun h => by omega)).ext hxw
  have he' := (he.mono (Y := fun j => X j ∨ j = g) (fun j hj h => h.elim id fun h => by omega)).ext hxw
  have b0 := (hB.cell 0).trans rfl
  have b1 := (hB.cell 1).trans rfl
  have b2 := (hB.cell 2).trans rfl
  have b3 := (hB.cell 3).trans rfl
  have b4 := (hB.cell 4).trans rfl
  have b5 := (hB.cell 5).trans rfl
  have hdat : ∀ e ∈ k.ents, e.data.length ≤ 1000000 := fun e h => Nat.le_trans (hks.data e h) (by decide)
  have hsta : k.snap.state.length ≤ 1000000 := Nat.le_trans hks.state (by decide)
  go_wp2_with fail
  refine (copied_b (fun j => X j ∨ j = g) k (.slice As0 k.snap.state.length cS0) (.slice Ae0 k.ents.length cE0) w1 hX1 hkw hs' he' (kp_small_len hks (by omega)) hsta hdat).mono ?_
  rintro e W2 ⟨As, cS, AE, cE, rfl, hs2, ho2, hx2⟩
  clear b0 b1 b2 b3 b4 b5
  replace hB := hB.ext hx2
  have b0 := (hB.cell 0).trans rfl
  have b1 := (hB.cell 1).trans rfl
  have b2 := (hB.cell 2).trans rfl
  have b3 := (hB.cell 3).trans rfl
  have b4 := (hB.cell 4).trans rfl
  have b5 := (hB.cell 5).trans rfl
  have f0 := hB.frozen 0
  have f1 := hB.frozen 1
  have f2 := hB.frozen 2
  have f3 := hB.frozen 3
  have f4 := hB.frozen 4
  have f5 := hB.frozen 5
  have hcg : Chg [g] W2 _ := (Chg.refl [g] W2).sixK (g := g) (by simp) (.int .u64 k.hard.term) (.int .i64 k.hard.vote) (.int .u64 k.snap.index) (.int .u64 k.snap.term) (.slice As k.snap.state.length cS) (.slice AE k.ents.length cE)
  have hB3 := Blk.sixK hB (.int .u64 k.hard.term) (.int .i64 k.hard.vote) (.int .u64 k.snap.index) (.int .u64 k.snap.term) (.slice As k.snap.state.length cS) (.slice AE k.ents.length cE)
  have hs3 := (hs2.chg hcg (fun j hj _ => .inl (.inr (List.mem_singleton.1 hj)))).mono (Y := X) fun j _ h => .inl (.inl h)
  have he3 := (ho2.chg hcg (fun j hj _ => .inr (List.mem_singleton.1 hj))).sl.mono (Y := X) fun j _ h => .inl h
  have hx3 := (hxw.trans' hx2).then_ hcg (by simp; omega)
  go_upto_region 2 with fail
  generalize ((((((W2.setCell ⟨g, 0, none⟩ (.int .u64 k.hard.term)).setCell ⟨g, 1, none⟩ (.int .i64 k.hard.vote)).setCell ⟨g, 2, none⟩ (.int .u64 k.snap.index)).setCell ⟨g, 3, none⟩ (.int .u64 k.snap.term)).setCell ⟨g, 4, none⟩ (.slice As k.snap.state.length cS)).setCell ⟨g, 5, none⟩ (.slice AE k.ents.length cE)) = W3 at *
  clear hB b0 b1 b2 b3 b4 b5 f0 f1 f2 f3 f4 f5 hcg hs2 ho2 hx2 hxw hs' he'
  have b0 := (hB3.cell 0).trans rfl
  have b1 := (hB3.cell 1).trans rfl
  obtain ⟨gl, hgl⟩ : ∃ g_, W3.heap.size = g_ := ⟨_, rfl⟩
  have hglg : g < gl := by rw [← hgl]; exact hB3.lt
  have hgl3 : W3.heap.size = gl := hgl
  have hX3 : ¬ X gl := fun h => by have := hXl _ h; omega
  have hown := Own.lit1S (E := reE) (w0 := W3) (w := W3) (X := X) (cs := recells (rHard k.hard) (.slice none 0 0) (.slice none 0 0)) (a := rHard k.hard) 101 (Ext.rfl' _) gl hgl hX3 (re_rep.2 ⟨_, _, rfl, rHard_wide hkw, Enc.BsX.nil _ _, Enc.BsX.nil _ _⟩)
  have hz : Ext W3 (W3.alloc (.cells #[.int .i64 1, .int .u64 k.hard.term, .int .i64 k.hard.vote, .int .u64 0, .slice none 0 0, .int .u64 0, .int .u64 0, .int .u64 0, .slice none 0 0] 101)) := (Ext.rfl' _).alloc' _
  change Own _ _ _ (W3.alloc (.cells #[.int .i64 1, .int .u64 k.hard.term, .int .i64 k.hard.vote, .int .u64 0, .slice none 0 0, .int .u64 0, .int .u64 0, .int .u64 0, .slice none 0 0] 101)) _ _ _ at hown
  go_upto_region 3 with fail
  try rw [hgl]
  clear b0 b1 hgl
  generalize (W3.alloc (.cells #[.int .i64 1, .int .u64 k.hard.term, .int .i64 k.hard.vote, .int .u64 0, .slice none 0 0, .int .u64 0, .int .u64 0, .int .u64 0, .slice none 0 0] 101)) = W4 at *
  have b2 := ((hB3.ext hz).cell 2).trans rfl
  go_upto_if 15 with fail
  go_cut [3] (fun vo wx => ∃ (l : List Rec) (A : Option Addr) (c : Nat), vo = .slice A l.length c ∧ Hid (l = krecs1 k) ∧ Own 101 reE W3 wx X (.slice A l.length c) l ∧ Ext W3 wx)
  case first =>
    rcases Bool.eq_false_or_eq_true (k.snap.index != 0) with h0 | h0
    · have b3 := ((hB3.ext hz).cell 3).trans rfl
      have b4 := ((hB3.ext hz).cell 4).trans rfl
      have hxa : Ext W4 (W4.alloc (.cells #[.int .i64 4, .int .u64 0, .int .i64 0, .int .u64 0, .slice none 0 0, .int .u64 0, .int .u64 k.snap.index, .int .u64 k.snap.term, .slice As k.snap.state.length cS] 101)) := (Ext.rfl' _).alloc' _
      have hlit : Enc.Sl reE (W4.alloc (.cells #[.int .i64 4, .int .u64 0, .int .i64 0, .int .u64 0, .slice none 0 0, .int .u64 0, .int .u64 k.snap.index, .int .u64 k.snap.term, .slice As k.snap.state.length cS] 101)) (fun j => X j ∨ (Value.slice (some (⟨gl, 0, none⟩ : Addr)) 1 1).ownBlock = some j) (.slice (some ⟨W4.heap.size, 0, none⟩) 1 1) [rSnap k.snap] :=
        Sl.one (E := reE) 101 (cs := recells (rSnap k.snap) (.slice none 0 0) (.slice As k.snap.state.length cS)) (re_rep.2 ⟨_, _, rfl, rSnap_wide hkw, Enc.BsX.nil _ _, (hs3.mono (Y := fun j => X j ∨ (Value.slice (some (⟨gl, 0, none⟩ : Addr)) 1 1).ownBlock = some j) fun j hj h => by
          rcases h with h | h
          · exact h
          · have h9 : gl = j := Option.some.inj h
            omega).ext hz⟩) _ rfl (fun h => by
          rcases h with h | h
          · have := hXl _ h; have := hz.size; omega
          · have := (hown.lt _ h).2; omega)
      go_wp2_with (at_builtin; refine wpList_own elt_re 60 Try.underlying60 rfl _ _ rfl (hown.ext hxa) rfl (hz.trans' hxa) (m := [rSnap k.snap]) (y := .slice (some ⟨W4.heap.size, 0, none⟩) 1 1) rfl hlit (fun h => by have h1 := hXl _ h; have h2 := (hz.trans' hxa).size; omega) (by simp) (by simp) ?_; intro l2 A2 c2 w5 hl2 hown2 hx5 hc5)
      go_meet
      case rel => exact ⟨l2, A2, c2, rfl, hide (by rw [hl2.out]; unfold krecs1; rw [if_neg (by simpa using h0)]; rfl), hown2, hx5⟩
    · go_wp2_with fail
      go_meet
      case rel => exact ⟨[rHard k.hard], _, _, rfl, hide (by unfold krecs1; rw [if_pos (by simpa using h0)]), hown, hz⟩
  case rest =>
    obtain ⟨l1, A1, c1, rfl, hl1, hown1, hx4⟩ := hcut
    generalize wc = W5 at *
    clear b2 hown
    have hl1n : l1.length ≤ 2 := by rw [hl1.out]; exact krecs1_len k
    have hkn := hks.len
    have hKR : Hid (krecs k = l1 ++ k.ents.map rEnt) := hide (by rw [krecs_eq, hl1.out])
    obtain ⟨kr, hkr⟩ : ∃ kr, krecs k = kr := ⟨_, rfl⟩
    have HKR := hide hkr
    clear hkr
    have b5 := ((hB3.ext hx4).cell 5).trans rfl
    go_wp2_with fail
    go_loopw [3, 25] (fun vo i wr => ∃ (m : Nat) (l : List Rec) (A : Option Addr) (c : Nat), m ≤ k.ents.length ∧ vo = .slice A l.length c ∧ i = .int .i64 m ∧ Hid (l = l1 ++ (k.ents.take m).map rEnt) ∧ Own 101 reE W3 wr X (.slice A l.length c) l ∧ Ext W3 wr) (fun _ i _ => (k.ents.length - intOf i).toNat)
    case atStart => exact ⟨0, l1, A1, c1, by omega, rfl, rfl, hide (by simp), hown1, hx4⟩
    case round =>
      clear b5 hown1 hx4
      obtain ⟨m, l, A, c, hm, rfl, rfl, hl, hown, hxr⟩ := hrel
      have hll : Hid (l.length ≤ 2 + m) := hide (by rw [hl.out]; simp; omega)
      by_cases hlt : m < k.ents.length
      · obtain ⟨ad, y, v, rfl, hyk, hbp, p0, p1, hyt, hyd⟩ := en_at he3 (k := m) hlt
        replace p0 := (hxr.cell (by rw [block_of_add]; exact hbp)).trans p0
        replace p1 := (hxr.cell (by show (ad.add (m * 2)).block < _; rw [block_of_add]; exact hbp)).trans p1
        obtain ⟨Ay, cy, rfl, -, -, -⟩ := id hyd.1
        have hm0 : (0 : Int) ≤ m := by omega
        have hml : (m : Int) < k.ents.length := by omega
        have HLT := hide hlt
        have HT : Hid (k.ents.take (m + 1) = k.ents.take m ++ [y]) := hide (take_snoc hyk.out)
        clear hlt
        have hz : Ext wr (wr.alloc (.cells #[.int .u64 y.term, .slice Ay y.data.length cy] 74)) := (Ext.rfl' _).alloc' _
        have hQ := Blk.new wr 74 #[.int .u64 y.term, .slice Ay y.data.length cy]
        obtain ⟨gq, hgq⟩ : ∃ g_, wr.heap.size = g_ := ⟨_, rfl⟩
        rw [hgq] at hQ
        go_upto_region 8 with fail
        try rw [hgq]
        clear hgq p0 p1
        generalize (wr.alloc (.cells #[.int .u64 y.term, .slice Ay y.data.length cy] 74)) = W6 at *
        have q0 := (hQ.cell 0).trans rfl
        have q1 := (hQ.cell 1).trans rfl
        replace hown := hown.ext hz
        replace hxr := hxr.trans' hz
        have hxa : Ext W6 (W6.alloc (.cells #[.int .i64 2, .int .u64 0, .int .i64 0, .int .u64 y.term, .slice Ay y.data.length cy, .int .u64 0, .int .u64 0, .int .u64 0, .slice none 0 0] 101)) := (Ext.rfl' _).alloc' _
        have hown3 := fun j h => (hown.lt j h).1
        have hlit : Enc.Sl reE (W6.alloc (.cells #[.int .i64 2, .int .u64 0, .int .i64 0, .int .u64 y.term, .slice Ay y.data.length cy, .int .u64 0, .int .u64 0, .int .u64 0, .slice none 0 0] 101)) (fun j => X j ∨ (Value.slice A l.length c).ownBlock = some j) (.slice (some ⟨W6.heap.size, 0, none⟩) 1 1) [rEnt y] :=
          Sl.one (E := reE) 101 (cs := recells (rEnt y) (.slice Ay y.data.length cy) (.slice none 0 0)) (re_rep.2 ⟨_, _, rfl, rEnt_wide hyt, (hyd.mono (Y := fun j => X j ∨ (Value.slice A l.length c).ownBlock = some j) fun j hj h => by
            rcases h with h | h
            · exact h
            · have := hown3 j h; omega).ext hxr, Enc.BsX.nil _ _⟩) _ rfl (fun h => by
            have h3 := hxr.size
            rcases h with h | h
            · have := hXl _ h; omega
            · have := (hown.lt _ h).2; omega)
        go_wp2_with (at_builtin; refine wpList_own elt_re 60 Try.underlying60 rfl _ _ rfl (hown.ext hxa) rfl (hxr.trans' hxa) (m := [rEnt y]) (y := .slice (some ⟨W6.heap.size, 0, none⟩) 1 1) rfl hlit (fun h => by have h1 := hXl _ h; have h2 := (hxr.trans' hxa).size; omega) (by have := hll.out; simp only [List.length_singleton]; omega) (by have := hll.out; simp only [List.length_singleton]; omega) ?_; intro l2 A2 c2 w5 hl2 hown2 hx5 hc5)
        go_roundw
        case rel => exact ⟨m + 1, l2, A2, c2, by have := HLT.out; omega, rfl, by go_num, hide (by rw [hl2.out, hl.out, HT.out]; simp), hown2, hx5⟩
        case measure => have := HLT.out; simp [intOf]; omega
      · obtain rfl : m = k.ents.length := by omega
        rw [List.take_length] at hl
        go_wp2
        go_ret
        exact ⟨l, A, c, hide (by rw [hl.out, ← hKR.out]), rfl, hown.base hx3.size, hx3.trans' hxr⟩
end Go.Proofs.Ytlblgopfdadalaa
namespace Go.Proofs.Ytlblgopfdadalaa
set_option linter.unusedVariables false
set_option linter.unusedSimpArgs false
set_option linter.unnecessarySimpa false
set_option maxRecDepth 100000
open Go.RowKit
abbrev Cur := Bytes × Bool
def lnum (n : Nat) (s : Cur) : Int × Cur := if s.1.length < n then (0, (s.1, false)) else (((val (s.1.take n) : Nat) : Int), (s.1.drop n, s.2))
/-- what a reader makes of bytes -/
def lrec (b : Bytes) : Rec × Cur :=
  if (lnum 1 (b, true)).1 = 1 then (⟨1, ⟨(lnum 8 (lnum 1 (b, true)).2).1, (lnum 1 (lnum 8 (lnum 1 (b, true)).2).2).1⟩, En0, 0, Sn0⟩, (lnum 1 (lnum 8 (lnum 1 (b, true)).2).2).2)
  else if (lnum 1 (b, true)).1 = 2 then (⟨2, Hd0, ⟨(lnum 8 (lnum 1 (b, true)).2).1, (lnum 8 (lnum 1 (b, true)).2).2.1⟩, 0, Sn0⟩, ([], (lnum 8 (lnum 1 (b, true)).2).2.2))
  else if (lnum 1 (b, true)).1 = 3 then (⟨3, Hd0, En0, (lnum 8 (lnum 1 (b, true)).2).1, Sn0⟩, (lnum 8 (lnum 1 (b, true)).2).2)
  else if (lnum 1 (b, true)).1 = 4 then (⟨4, Hd0, En0, 0, ⟨(lnum 8 (lnum 1 (b, true)).2).1, (lnum 8 (lnum 8 (lnum 1 (b, true)).2).2).1, (lnum 8 (lnum 8 (lnum 1 (b, true)).2).2).2.1⟩⟩, ([], (lnum 8 (lnum 8 (lnum 1 (b, true)).2).2).2.2))
  else (⟨(lnum 1 (b, true)).1, Hd0, En0, 0, Sn0⟩, (lnum 1 (b, true)).2)
theorem lnum_rng (n : Nat) (s : Cur) (hn : n ≤ 8) : 0 ≤ (lnum n s).1 ∧ (lnum n s).1 ≤ 18446744073709551615 := by
  unfold lnum
  split
  · exact ⟨Int.le_refl _, by show (0 : Int) ≤ _; decide⟩
  · rename_i h
    have hlt := val_lt (s.1.take n)
    have hln : (s.1.take n).length = n := by simp; omega
    rw [hln] at hlt
    have h8 : 256 ^ n ≤ 256 ^ 8 := Nat.pow_le_pow_right (by decide) hn
    simp only
    omega
theorem lnum_one (s : Cur) : (lnum 1 s).1 ≤ 255 := by
  unfold lnum
  split
  · show (0 : Int) ≤ 255
    decide
  · rename_i h
    have hlt := val_lt (s.1.take 1)
    have hln : (s.1.take 1).length = 1 := by simp; omega
    rw [hln] at hlt
    simp only
    omega
theorem lnum_bad (n : Nat) (b : Bytes) : (lnum n (b, false)).2.2 = false := by unfold lnum; split <;> rfl
theorem lnum_short {n : Nat} {b : Bytes} {o : Bool} (h : b.length < n) : lnum n (b, o) = (0, (b, false)) := if_pos h
theorem lnum_ok {n : Nat} {b : Bytes} {o : Bool} (h : n ≤ b.length) : lnum n (b, o) = (((val (b.take n) : Nat) : Int), (b.drop n, o)) := if_neg (by simp only; omega)
theorem lrec_orec (b : Bytes) : orec b = if (lrec b).2.2 = true ∧ (lrec b).2.1 = [] ∧ may (lrec b).1 = true then some (lrec b).1 else none := by
  by_cases h0 : b.length < 1
  · have e : lrec b = (⟨0, Hd0, En0, 0, Sn0⟩, (b, false)) := by
      unfold lrec
      simp only [lnum_short h0]
      rfl
    rw [e, if_neg (by simp), orec, if_pos (by omega)]
  · have e1 := lnum_ok (n := 1) (b := b) (o := true) (by omega)
    by_cases h9 : b.length < 9
    · have e8 := lnum_short (n := 8) (b := b.drop 1) (o := true) (by rw [List.length_drop]; omega)
      rw [orec, if_pos h9, if_neg]
      rintro ⟨h1, h2, h3⟩
      unfold lrec at h1 h2 h3
      simp only [e1, e8] at h1 h2 h3
      split at h1
      · rw [lnum_bad] at h1; cases h1
      · split at h1
        · cases h1
        · split at h1
          · cases h1
          · split at h1
            · rw [lnum_bad] at h1; cases h1
            · rename_i n1 n2 n3 n4
              rw [if_neg n1, if_neg n2, if_neg n3, if_neg n4] at h3
              unfold may at h3
              simp only at h3
              rw [if_neg n1] at h3
              simp at h3
              omega
    · have e8 := lnum_ok (n := 8) (b := b.drop 1) (o := true) (by rw [List.length_drop]; omega)
      have hd : (b.drop 1).drop 8 = b.drop 9 := by rw [List.drop_drop]
      rw [hd] at e8
      by_cases k1 : val (b.take 1) = 1
      · have E : lrec b = (⟨1, ⟨val ((b.drop 1).take 8), (lnum 1 (b.drop 9, true)).1⟩, En0, 0, Sn0⟩, (lnum 1 (b.drop 9, true)).2) := by
          unfold lrec; simp only [e1, e8]; rw [if_pos (by omega)]
        have O : orec b = if (b.drop 9).length = 1 ∧ val (b.drop 9) ≤ 7 then some ⟨1, ⟨val ((b.drop 1).take 8), val (b.drop 9)⟩, En0, 0, Sn0⟩ else none := by rw [orec, if_neg h9, if_pos k1]
        rw [O]
        by_cases hl : (b.drop 9).length < 1
        · rw [lnum_short hl] at E
          rw [E, if_neg (by omega), if_neg (by simp)]
        · rw [lnum_ok (by omega)] at E
          rw [E]
          by_cases hl2 : (b.drop 9).length = 1
          · have ht : (b.drop 9).take 1 = b.drop 9 := List.take_of_length_le (by omega)
            have hd2 : (b.drop 9).drop 1 = [] := List.drop_eq_nil_of_le (by omega)
            rw [ht, hd2]
            by_cases hv : val (b.drop 9) ≤ 7
            · rw [if_pos ⟨hl2, hv⟩, if_pos ⟨rfl, rfl, by unfold may; simp; omega⟩]
            · rw [if_neg (by omega), if_neg]
              rintro ⟨-, -, h3⟩
              unfold may at h3
              simp at h3
              omega
          · rw [if_neg (by omega), if_neg]
            rintro ⟨-, h2, -⟩
            have := congrArg List.length h2
            rw [List.length_drop, List.length_nil] at this
            omega
      · by_cases k2 : val (b.take 1) = 2
        · have E : lrec b = (⟨2, Hd0, ⟨val ((b.drop 1).take 8), b.drop 9⟩, 0, Sn0⟩, ([], true)) := by
            unfold lrec; simp only [e1, e8]; rw [if_neg (by omega), if_pos (by omega)]
          rw [E, if_pos ⟨rfl, rfl, rfl⟩, orec, if_neg h9, if_neg k1, if_pos k2]
        · by_cases k3 : val (b.take 1) = 3
          · have E : lrec b = (⟨3, Hd0, En0, val ((b.drop 1).take 8), Sn0⟩, (b.drop 9, true)) := by
              unfold lrec; simp only [e1, e8]; rw [if_neg (by omega), if_neg (by omega), if_pos (by omega)]
            have O : orec b = if (b.drop 9).length = 0 then some ⟨3, Hd0, En0, val ((b.drop 1).take 8), Sn0⟩ else none := by rw [orec, if_neg h9, if_neg k1, if_neg k2, if_pos k3]
            rw [E, O]
            by_cases hl : (b.drop 9).length = 0
            · rw [if_pos hl, if_pos ⟨rfl, List.eq_nil_of_length_eq_zero hl, rfl⟩]
            · rw [if_neg hl, if_neg]
              rintro ⟨-, h2, -⟩
              exact hl (by rw [show b.drop 9 = [] from h2]; rfl)
          · by_cases k4 : val (b.take 1) = 4
            · have E : lrec b = (⟨4, Hd0, En0, 0, ⟨val ((b.drop 1).take 8), (lnum 8 (b.drop 9, true)).1, (lnum 8 (b.drop 9, true)).2.1⟩⟩, ([], (lnum 8 (b.drop 9, true)).2.2)) := by
                unfold lrec; simp only [e1, e8]; rw [if_neg (by omega), if_neg (by omega), if_neg (by omega), if_pos (by omega)]
              have O : orec b = if 8 ≤ (b.drop 9).length then some ⟨4, Hd0, En0, 0, ⟨val ((b.drop 1).take 8), val ((b.drop 9).take 8), (b.drop 9).drop 8⟩⟩ else none := by rw [orec, if_neg h9, if_neg k1, if_neg k2, if_neg k3, if_pos k4]
              rw [O]
              by_cases hl : 8 ≤ (b.drop 9).length
              · rw [lnum_ok hl] at E
                rw [E, if_pos hl, if_pos ⟨rfl, rfl, rfl⟩]
              · rw [lnum_short (by omega)] at E
                rw [E, if_neg hl, if_neg (by simp)]
            · have E : lrec b = (⟨val (b.take 1), Hd0, En0, 0, Sn0⟩, (b.drop 1, true)) := by
                unfold lrec; simp only [e1, e8]; rw [if_neg (by omega), if_neg (by omega), if_neg (by omega), if_neg (by omega)]
              have O : orec b = none := by rw [orec, if_neg h9, if_neg k1, if_neg k2, if_neg k3, if_neg k4]
              rw [E, O, if_neg]
              rintro ⟨-, -, h3⟩
              unfold may at h3
              simp only at h3
              rw [if_neg (by omega)] at h3
              simp at h3
              omega
/-- a cursor that lies in block g -/
structure CurAt (T : TypeId) (w : World) (g : Nat) (v : Value) (s : Cur) : Prop where
  blk : Blk w g T #[v, .bool s.2]
  bs : Bs w v s.1
  off : Off v [g]
  len : s.1.length ≤ 140737488350000
def CurTo (T : TypeId) (w w' : World) (g : Nat) (v : Value) (s : Cur) : Prop := ∃ v', CurAt T w' g v' s ∧ Chg [g] w w' ∧ ∀ S, Off v S → Off v' S
theorem CurAt.ext {T : TypeId} {w w' : World} {g : Nat} {v : Value} {s : Cur} (h : CurAt T w g v s) (hx : Ext w w') : CurAt T w' g v s := ⟨h.blk.ext hx, h.bs.ext hx, h.off, h.len⟩
theorem CurAt.chg {S : List Nat} {T : TypeId} {w w' : World} {g : Nat} {v : Value} {s : Cur} (h : CurAt T w g v s) (hx : Chg S w w') (hg : g ∉ S) (hv : Off v S) : CurAt T w' g v s :=
  ⟨h.blk.chg hx hg, h.bs.chg hx hv, h.off, h.len⟩
theorem off_cut {A : Option Addr} {c l n c' m : Nat} {S : List Nat} (h : Off (.slice A m c) S) (hn : 0 < n → 0 < m) : Off (.slice (cutA 1 A c l) n c') S := by
  rintro ad k c2 he h0
  simp only [Value.slice.injEq] at he
  obtain ⟨e1, rfl, rfl⟩ := he
  unfold cutA at e1
  rcases A with _ | a
  · split at e1 <;> simp at e1
  · have hb : ad.block = a.block := by
      split at e1
      · rw [Option.some.inj e1]
      · simp only [Option.map_some, Option.some.injEq] at e1
        rw [← e1]
        unfold Addr.add
        split <;> rfl
    rw [hb]
    exact h a m c rfl (hn h0)
set_option maxHeartbeats 1600000 in
theorem cnum_b (T : TypeId) (g : Nat) (v : Value) (s : Cur) (n : Nat) (w : World) (h : CurAt T w g v s) (hn : n ≤ 8) :
    Calls Try.prog 106 #[.pointer (some ⟨g, 0, none⟩), .int .i64 n] w fun e w' => e = .returned (.int .u64 (lnum n s).1) ∧ CurTo T w w' g v (lnum n s).2 := by
  obtain ⟨b, e⟩ := s
  have c0 : w.cell? ⟨g, 0, none⟩ = some v := (h.blk.cell 0).trans rfl
  have c1 : w.cell? ⟨g, 1, none⟩ = some (.bool e) := (h.blk.cell 1).trans rfl
  have f0 := h.blk.frozen 0
  have f1 := h.blk.frozen 1
  have hlb := h.len
  simp only at hlb
  obtain ⟨A, c, rfl, k1, k2, -⟩ := id h.bs
  rcases otake_cases b n hn with ⟨hs, e1⟩ | ⟨hs, e1⟩
  · have ht := take_b _ b n w (by omega) (by omega) h.bs
    rw [e1] at ht
    have HT := hide ht
    clear ht e1
    rw [lnum_short hs]
    go_enter Try.func106, Try.ntmps106
    go_wp2_with (go_at_call 99; refine HT.out.mono ?_; rintro e w1 ⟨rfl, rfl⟩)
    go_ret
    exact ⟨rfl, _, ⟨h.blk.set_ 1 _, h.bs.chg ((Chg.refl [g] _).set (by simp) _) h.off, h.off, h.len⟩, (Chg.refl [g] _).set (by simp) _, fun S hS => hS⟩
  · have ht := take_b _ b n w (by omega) (by omega) h.bs
    rw [e1] at ht
    rw [lnum_ok hs]
    clear e1
    generalize val (b.take n) = V at *
    have HT := hide ht
    clear ht
    obtain ⟨i0, hi0, hz0, hz1, hz2⟩ := info_parts ti5
    have hsl := fun W => run_sl_l (P := Try.prog) (A := A) (n := b.length) (c := c) (kl := .i64) Try.underlying24 hi0 hz1 n rfl hs W
    go_enter Try.func106, Try.ntmps106
    go_wp2_with (go_at_call 99; refine HT.out.mono ?_; rintro e w1 ⟨rfl, rfl⟩)
    go_ret
    have hof : Off (.slice (cutA 1 A c n) (b.length - n) (c - n)) [g] := off_cut h.off (by omega)
    exact ⟨rfl, _, ⟨h.blk.set_ 0 _, (h.bs.rest hs).chg ((Chg.refl [g] _).set (by simp) _) hof, hof, by simp; omega⟩, (Chg.refl [g] _).set (by simp) _, fun S hS => off_cut hS (by omega)⟩
set_option maxHeartbeats 800000 in
theorem crest_b (T : TypeId) (g : Nat) (v : Value) (s : Cur) (w : World) (h : CurAt T w g v s) :
    Calls Try.prog 107 #[.pointer (some ⟨g, 0, none⟩)] w fun e w' => (∃ (m : Bytes) (A : Option Addr) (c : Nat), Hid (m = s.1) ∧ e = .returned (.slice A m.length c) ∧ Nw w w' (.slice A m.length c) m) ∧ CurTo T w w' g v ([], s.2) := by
  obtain ⟨b, e⟩ := s
  have c0 : w.cell? ⟨g, 0, none⟩ = some v := (h.blk.cell 0).trans rfl
  have hlb := h.len
  simp only at hlb
  have hgl := h.blk.lt
  go_enter Try.func107, Try.ntmps107
  go_wp2_with fail
  refine (clone_b v b w (by omega) h.bs).mono ?_
  rintro e1 w1 ⟨m, A, c, hm, rfl, hz, hx⟩
  have hB := h.blk.ext hx
  have d0 := (hB.cell 0).trans rfl
  have f0 := hB.frozen 0
  go_wp2
  go_ret
  have hc : Chg [g] w1 (w1.setCell ⟨g, 0, none⟩ (.slice none 0 0)) := (Chg.refl [g] _).set (by simp) _
  refine ⟨⟨m, A, c, hm, rfl, hz.chg hc fun k hk => ?_⟩, _, ⟨hB.set_ 0 _, Bs.nil _, Off.nil _ _, by simp⟩, (hx.chg _).trans hc, fun S hS => Off.nil _ _⟩
  have := (hz.lt k hk).1
  simp
  omega
end Go.Proofs.Ytlblgopfdadalaa
