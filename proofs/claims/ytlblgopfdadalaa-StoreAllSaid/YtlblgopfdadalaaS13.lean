/- A part of the proof of 'StoreAll'. -/
import Derived.Test.YtlblgopfdadalaaS12
import Derived.RegionTactic
import Derived.Deep.RegionLaw
namespace Go.Proofs.Ytlblgopfdadalaa
set_option linter.unusedVariables false
set_option linter.unusedSimpArgs false
set_option linter.unnecessarySimpa false
set_option maxRecDepth 100000
open Go.RowKit
def snapQ (k : Kp) (s : Sn) : Bool := decide (s.index - k.snap.index ≤ k.ents.length) && (k.ents[(s.index - k.snap.index).toNat - 1]?).any (fun e => decide (e.term = s.term))
theorem ksnapE_q (k : Kp) (s : Sn) : ksnapE k s = if snapQ k s = true then k.ents.drop (s.index - k.snap.index).toNat else [] := by
  unfold ksnapE snapQ
  simp only [Bool.and_eq_true, decide_eq_true_eq]
set_option maxHeartbeats 3200000 in
theorem fosnap_b (X : Avoid) (w0 : World) (g : Nat) (k : Kp) (s : Sn) (v : Value) (w : World) (h : FoAt X w0 w g k) (hk : k.wide) (h0 : 0 ≤ s.index) (h1 : s.index ≤ 18446744073709551615) (hw0 : w0.heap.size ≤ g) (hv : Enc.BsX w (fun j => X j ∨ w0.heap.size ≤ j) v s.state) :
    Calls Try.prog 104 #[.pointer (some ⟨g, 0, none⟩), .agg (sncells s v).toArray] w fun e w' => e = .returned (.tuple #[]) ∧ FoAt X w0 w' g (ksnap k s) ∧ Chg [g] w w' := by
  obtain ⟨As, cs, Ae, ce, hF⟩ := h
  obtain ⟨Av, cv, rfl, -, -, -⟩ := id hv.1
  obtain ⟨gs, hgs⟩ : ∃ g_, w.heap.size = g_ := ⟨_, rfl⟩
  have hS := Blk.new w 26 (sncells s (.slice Av s.state.length cv)).toArray
  rw [hgs] at hS
  have hz : Ext w (w.alloc (.cells (sncells s (.slice Av s.state.length cv)).toArray 26)) := (Ext.rfl' w).alloc' _
  replace hF : FoV X w0 _ g k As cs Ae ce := ⟨hF.1.ext hz, hF.2.1.ext hz, hF.2.2.ext hz⟩
  replace hv := hv.ext hz
  have hgg : g ≠ gs := by intro h; subst h; have := hS; unfold Blk at this; have h9 := hF.1; unfold Blk at h9; rw [this] at h9; injection h9 with h9; injection h9 with h9; exact absurd (congrArg Array.size h9) (by simp)
  obtain ⟨A', c', he', hle, hce⟩ := hF.2.2.form
  simp only [Value.slice.injEq, true_and] at he'
  obtain ⟨rfl, rfl⟩ := he'
  simp only [maxLen] at hce
  have hn0 := hk.n0
  have hn1 := hk.n1
  go_enter Try.func104, Try.ntmps104
  go_upto_region 1 with fail
  try rw [hgs]
  clear hgs
  generalize (w.alloc (.cells (sncells s (.slice Av s.state.length cv)).toArray 26)) = w1 at *
  have b2 := (hF.1.cell 2).trans rfl
  have s0 := (hS.cell 0).trans rfl
  by_cases hle2 : s.index ≤ k.snap.index
  · have HK : Hid (ksnap k s = k) := if_pos hle2
    go_region
    go_wp2
    try simp only [Exit.inBlock, Exit.then]
    refine bodyPost_ret (results_none rfl _ _ _) rfl ?_
    rw [HK.out]
    exact ⟨rfl, ⟨As, cs, Ae, ce, hF.1.drew, hF.2.1.ext (Ext.rfl' _).drew', hF.2.2.ext (Ext.rfl' _).drew'⟩, ((hz.chg _).drew)⟩
  · have HK : Hid (ksnap k s = ⟨k.hard, s, ksnapE k s⟩) := if_neg hle2
    obtain ⟨m, hm⟩ : ∃ m : Nat, s.index - k.snap.index = ((m + 1 : Nat) : Int) := ⟨(s.index - k.snap.index - 1).toNat, by omega⟩
    have hw1 : IntKind.u64.wrap (s.index - k.snap.index) = (m : Int) + 1 := by rw [hm]; exact IntWalk.u64_in _ ⟨by omega, by omega⟩
    have hw2 : IntKind.u64.wrap ((m : Int) + 1 - 1) = (m : Int) := by rw [show (m : Int) + 1 - 1 = m by omega]; exact IntWalk.u64_in _ ⟨by omega, by omega⟩
    have hconv : IntKind.u64.wrap (k.ents.length : Int) = k.ents.length := IntWalk.u64_in _ ⟨by omega, by omega⟩
    have HQ : Hid (snapQ k s = (decide (((m + 1 : Nat) : Int) ≤ k.ents.length) && (k.ents[m]?).any (fun e => decide (e.term = s.term)))) := hide (by unfold snapQ; rw [hm]; rfl)
    have HM := hide hm
    clear hm
    go_region
    go_upto_region 2 with fail
    go_region
    go_upto_region 3 with fail
    have hd2 : Ext w1 w1.drew.drew := ((Ext.rfl' w1).drew').drew'
    replace hF : FoV X w0 _ g k As cs Ae ce := ⟨hF.1.ext hd2, hF.2.1.ext hd2, hF.2.2.ext hd2⟩
    replace hS := hS.ext hd2
    replace hv := hv.ext hd2
    replace hz := hz.trans' hd2
    clear hd2 b2 s0
    generalize w1.drew.drew = w2 at *
    have b5 := (hF.1.cell 5).trans rfl
    have s1 := (hS.cell 1).trans rfl
    have hdx := (Ext.rfl' w2).drew'
    go_cut [46] (fun b wx => b = .bool (snapQ k s) ∧ Ext w2 wx)
    case first =>
      by_cases hlt : ((m : Int) + 1) ≤ k.ents.length
      · obtain ⟨ad, y, vy, rfl, hyk, hbp, p0, p1, -, -⟩ := en_at hF.2.2.sl (k := m) (by omega)
        have hm0 : (0 : Int) ≤ m := by omega
        have hml : (m : Int) < k.ents.length := by omega
        rcases Bool.eq_false_or_eq_true (y.term == s.term) with ht | ht
        · have HQ2 : Hid (snapQ k s = true) := hide (by rw [HQ.out, hyk.out]; simp at ht; simp [ht]; omega)
          go_region
          go_wp2_with fail
          go_meet
          case rel => exact ⟨by rw [HQ2.out], hdx⟩
        · have HQ2 : Hid (snapQ k s = false) := hide (by rw [HQ.out, hyk.out]; simp at ht; simp [ht])
          go_region
          go_wp2_with fail
          go_meet
          case rel => exact ⟨by rw [HQ2.out], hdx⟩
      · have HQ2 : Hid (snapQ k s = false) := hide (by rw [HQ.out, decide_eq_false (by omega)]; rfl)
        go_region
        go_wp2_with fail
        go_meet
        case rel => exact ⟨by rw [HQ2.out], hdx⟩
    case rest =>
      obtain ⟨rfl, hxc⟩ := hcut
      replace hF : FoV X w0 wc g k As cs Ae ce := ⟨hF.1.ext hxc, hF.2.1.ext hxc, hF.2.2.ext hxc⟩
      replace hS := hS.ext hxc
      replace hv := hv.ext hxc
      replace hz := hz.trans' hxc
      clear b5 s1 hdx
      generalize wc = w3 at *
      obtain ⟨q, hq⟩ : ∃ q, snapQ k s = q := ⟨_, rfl⟩
      rw [hq]
      have HQQ := hide hq
      clear hq
      go_upto_if 46 with fail
      go_cut [] (fun wx => ∃ Ae2 ce2, FoV X w0 wx g ⟨k.hard, k.snap, ksnapE k s⟩ As cs Ae2 ce2 ∧ Chg [g] w3 wx)
      case first =>
        have b5 := (hF.1.cell 5).trans rfl
        have f5 := hF.1.frozen 5
        cases q with
        | true =>
          have hml : m + 1 ≤ k.ents.length := by
            have := HQQ.out
            rw [HQ.out] at this
            simp at this
            omega
          obtain ⟨i0, hi0, hz0, hz1, hz2⟩ := info_parts elt_en.info
          have hsl := fun W => run_sl_l (P := Try.prog) (A := Ae) (n := k.ents.length) (c := ce) (lo := (m : Int) + 1) (kl := .u64) Try.underlying23 hi0 hz1 (m + 1) (by simp) (by omega) W
          go_wp2_with fail
          go_meet
          case rel =>
            have ho := hF.2.2.rest hml
            have hl : (k.ents.drop (m + 1)).length = k.ents.length - (m + 1) := List.length_drop
            obtain ⟨h1, h2⟩ := hF.ents (A := cutA 2 Ae ce (m + 1)) (n := k.ents.length - (m + 1)) (c := ce - (m + 1)) (l := k.ents.drop (m + 1)) hl.symm (by rw [hl]; exact cutA_ownO) (by rw [hl]; exact ho)
            rw [ksnapE_q, HQQ.out, if_pos rfl, HM.out]
            exact ⟨_, _, h1, h2⟩
        | false =>
          go_wp2_with fail
          go_meet
          case rel =>
            obtain ⟨h1, h2⟩ := hF.ents (A := none) (n := 0) (c := 0) (l := []) rfl (fun j h => by cases h) (OwnO.nil _ _ _ _ _)
            rw [ksnapE_q, HQQ.out, if_neg (by simp)]
            exact ⟨_, _, h1, h2⟩
      case rest =>
        obtain ⟨Ae2, ce2, hF2, hc3⟩ := hcut
        replace hS := hS.chg hc3 (by simpa using hgg.symm)
        replace hv := hv.chg hc3 (fun j hj _ => by have := List.mem_singleton.1 hj; exact .inr (by omega))
        have hcw := (hz.chg [g]).trans hc3
        generalize wc = w4 at *
        have s0 := (hS.cell 0).trans rfl
        have s1 := (hS.cell 1).trans rfl
        have s2 := (hS.cell 2).trans rfl
        have d2 := (hF2.1.cell 2).trans rfl
        have d3 := (hF2.1.cell 3).trans rfl
        have d4 := (hF2.1.cell 4).trans rfl
        have f2 := hF2.1.frozen 2
        have f3 := hF2.1.frozen 3
        have f4 := hF2.1.frozen 4
        go_wp2
        go_end0
        rw [HK.out]
        have hcg : Chg [g] w4 (((w4.setCell ⟨g, 2, none⟩ (.int .u64 s.index)).setCell ⟨g, 3, none⟩ (.int .u64 s.term)).setCell ⟨g, 4, none⟩ (.slice Av s.state.length cv)) := (((Chg.refl _ _).set (by simp) _).set (by simp) _).set (by simp) _
        refine ⟨rfl, ⟨Av, cv, Ae2, ce2, ((hF2.1.set_ 2 _).set_ 3 _).set_ 4 _, (hv.mono (fun j hj h => by rcases h with (h | h) | h; exact .inl h; exact .inr (by omega); exact .inr (hF2.2.2.own j h).1)).chg hcg (fun j hj _ => .inl (.inr (List.mem_singleton.1 hj))), hF2.2.2.chg hcg (fun j hj _ => .inr (List.mem_singleton.1 hj))⟩, hcw.trans hcg⟩
end Go.Proofs.Ytlblgopfdadalaa
namespace Go.Proofs.Ytlblgopfdadalaa
set_option linter.unusedVariables false
set_option linter.unusedSimpArgs false
set_option linter.unnecessarySimpa false
set_option maxRecDepth 100000
open Go.RowKit
set_option maxHeartbeats 3200000 in
theorem foone_b (X : Avoid) (w0 : World) (g : Nat) (k : Kp) (r : Rec) (v1 v2 : Value) (w : World) (hw0 : w0.heap.size ≤ g) (h : FoAt X w0 w g k) (hk : k.wide) (hr : r.wide) (hX : ∀ j, X j → j < w0.heap.size) (h1 : Enc.BsX w0 X v1 r.ent.data) (h2 : Enc.BsX w0 X v2 r.snap.state) (hx : Ext w0 w) (hl : k.ents.length ≤ 100000) :
    Calls Try.prog 80 #[.pointer (some ⟨g, 0, none⟩), .agg (recells r v1 v2).toArray] w fun e w' => e = .returned (.tuple #[]) ∧ FoAt X w0 w' g (kone k r) ∧ Ext w0 w' := by
  obtain ⟨A1, c1, rfl, -, -, -⟩ := id h1.1
  obtain ⟨A2, c2, rfl, -, -, -⟩ := id h2.1
  obtain ⟨gr, hgr⟩ : ∃ g_, w.heap.size = g_ := ⟨_, rfl⟩
  have hR_ := Blk.new w 101 (recells r (.slice A1 r.ent.data.length c1) (.slice A2 r.snap.state.length c2)).toArray
  rw [hgr] at hR_
  have hz : Ext w (w.alloc (.cells (recells r (.slice A1 r.ent.data.length c1) (.slice A2 r.snap.state.length c2)).toArray 101)) := (Ext.rfl' w).alloc' _
  replace h := h.ext hz
  replace hx := hx.trans' hz
  have hgl := h.lt
  have hv1 := (h1.mono (Y := fun j => j = g) (fun j hj h => by omega)).ext hx
  have hv2 := (h2.mono (Y := fun j => X j ∨ w0.heap.size ≤ j) (fun j hj h => h.elim id fun h => by omega)).ext hx
  go_enter Try.func80, Try.ntmps80
  go_upto_region 1 with fail
  try rw [hgr]
  clear hgr
  generalize (w.alloc (.cells (recells r (.slice A1 r.ent.data.length c1) (.slice A2 r.snap.state.length c2)).toArray 101)) = w1 at *
  have r0 := (hR_.cell 0).trans rfl
  rcases Bool.eq_false_or_eq_true (r.kind == 1) with k1 | k1
  · have HK : Hid (kone k r = ⟨r.hard, k.snap, k.ents⟩) := hide (by unfold kone; rw [if_pos (by simpa using k1)])
    obtain ⟨As, cs, Ae, ce, hF⟩ := h
    have r1 := (hR_.cell 1).trans rfl
    have r2 := (hR_.cell 2).trans rfl
    have d0 := (hF.1.cell 0).trans rfl
    have d1 := (hF.1.cell 1).trans rfl
    have f0 := hF.1.frozen 0
    have f1 := hF.1.frozen 1
    go_wp2
    go_end0
    rw [HK.out]
    have hcg : Chg [g] w1 ((w1.setCell ⟨g, 0, none⟩ (.int .u64 r.hard.term)).setCell ⟨g, 1, none⟩ (.int .i64 r.hard.vote)) := ((Chg.refl _ _).set (by simp) _).set (by simp) _
    exact ⟨rfl, ⟨As, cs, Ae, ce, (hF.1.set_ 0 _).set_ 1 _, hF.2.1.chg hcg (fun j hj _ => .inl (.inr (List.mem_singleton.1 hj))), hF.2.2.chg hcg (fun j hj _ => .inr (List.mem_singleton.1 hj))⟩, hx.then_ hcg (by simpa using hw0)⟩
  have K1 : Hid (¬ r.kind = 1) := hide (by simpa using k1)
  rcases Bool.eq_false_or_eq_true (r.kind == 2) with k2 | k2
  · have HK : Hid (kone k r = ⟨k.hard, k.snap, k.ents ++ [r.ent]⟩) := hide (by unfold kone; rw [if_neg K1.out, if_pos (by simpa using k2)])
    obtain ⟨As, cs, Ae, ce, hF⟩ := h
    have r3 := (hR_.cell 3).trans rfl
    have r4 := (hR_.cell 4).trans rfl
    have d5 := (hF.1.cell 5).trans rfl
    have f5 := hF.1.frozen 5
    obtain ⟨gl, hgl_⟩ : ∃ g_, w1.heap.size = g_ := ⟨_, rfl⟩
    have hgg : g < gl := by rw [← hgl_]; exact hF.1.lt
    have hd1 : Ext w1 w1.drew := (Ext.rfl' w1).drew'
    have hgd : w1.drew.heap.size = gl := hgl_
    have hlit : Enc.Sl enE (w1.drew.alloc (.cells #[.int .u64 r.ent.term, .slice A1 r.ent.data.length c1] 74)) (fun j => (X j ∨ j = g) ∨ (Value.slice Ae k.ents.length ce).ownBlock = some j) (.slice (some ⟨gl, 0, none⟩) 1 1) [r.ent] := by
      refine Sl.one (E := enE) 74 (cs := [.int .u64 r.ent.term, .slice A1 r.ent.data.length c1]) (w := w1.drew) (X := fun j => (X j ∨ j = g) ∨ (Value.slice Ae k.ents.length ce).ownBlock = some j) (en_rep.2 ⟨_, rfl, ⟨hr.e0, hr.e1⟩, ?_⟩) gl hgd ?_
      · refine (h1.mono (Y := fun j => (X j ∨ j = g) ∨ (Value.slice Ae k.ents.length ce).ownBlock = some j) (fun j hj h => ?_)).ext (hx.trans' hd1)
        rcases h with (h | h) | h
        · exact h
        · omega
        · have := (hF.2.2.own j h).1; omega
      · rintro ((h | h) | h)
        · have := hX _ h; omega
        · omega
        · have := (hF.2.2.own _ h).2.1; omega
    have hge : ∀ j, (Value.slice Ae k.ents.length ce).ownBlock = some j → j ≠ g := fun j h e => (hF.2.2.own j h).2.2 (.inr e)
    have hxa : Ext w1 (w1.drew.alloc (.cells #[.int .u64 r.ent.term, .slice A1 r.ent.data.length c1] 74)) := hd1.alloc' _
    have q0 := fun o1 => ((hF.1.drew.alloc o1).cell 5).trans rfl
    have q1 := fun o1 => ((hR_.drew.alloc o1).cell 3).trans rfl
    have q2 := fun o1 => ((hR_.drew.alloc o1).cell 4).trans rfl
    go_wp2_with fail
    go_region_law (refine step_ownO elt_en 23 Try.underlying23 rfl (.tmp 21) (.tmp 24) rfl (hF.2.2.ext hxa) (by simp [Act.eval, Act.put]) (hx.trans' hxa) (a := r.ent) (y := .slice (some ⟨gl, 0, none⟩) 1 1) (by simp [Act.eval, Act.put]) hlit (fun j hj => hj.elim (fun h => Nat.lt_of_lt_of_le (hX _ h) (hx.trans' hxa).size) fun h => by rw [h]; exact (hF.1.ext hxa).lt) (by omega) (by omega) ?_; intro l1 A3 c3 w2 hl1 hown1 hx2 hc2 hob2; have hB2 := Blk.chg (hF.1.ext hxa) hc2 (fun hm => by simp at hm; exact hge g hm rfl); have d5 : w2.cell? ⟨g, 5, none⟩ = some (.slice Ae k.ents.length ce) := (hB2.cell 5).trans rfl; have f5 : w2.frozen? ⟨g, 5, none⟩ = false := hB2.frozen 5)
    all_goals
      go_end0
      rw [HK.out]
      have hs2 : Enc.BsX w2 (fun j => (X j ∨ j = g) ∨ (Value.slice A3 l1.length c3).ownBlock = some j) (.slice As k.snap.state.length cs) k.snap.state := by
        have e1 := (hF.2.1.ext hxa)
        have e2 := e1.mono (Y := fun j => ((X j ∨ j = g) ∨ (Value.slice A3 l1.length c3).ownBlock = some j) ∨ (Value.slice Ae k.ents.length ce).ownBlock = some j) (fun j hj h => by
          rcases h with (h | h) | h
          · exact .inl h
          · rcases hob2 j h with h | h
            · exact .inr h
            · have e9 : (w1.alloc (.cells #[.int .u64 r.ent.term, .slice A1 r.ent.data.length c1] 74)).drew.heap.size = (w1.drew.alloc (.cells #[.int .u64 r.ent.term, .slice A1 r.ent.data.length c1] 74)).heap.size := rfl
              omega
          · exact .inr h)
        exact (e2.chg hc2 (fun j hj _ => .inr (by simpa using hj))).mono fun j _ h => .inl h
      have hcg : Chg [g] w2 (w2.setCell ⟨g, 5, none⟩ (.slice A3 l1.length c3)) := (Chg.refl _ _).set (by simp) _
      rw [← hl1.out]
      exact ⟨rfl, ⟨As, cs, A3, c3, hB2.set_ 5 _, hs2.chg hcg (fun j hj _ => .inl (.inr (List.mem_singleton.1 hj))), hown1.chg hcg (fun j hj _ => .inr (List.mem_singleton.1 hj))⟩, hx2.then_ hcg (by simpa using hw0)⟩
  have K2 : Hid (¬ r.kind = 2) := hide (by simpa using k2)
  rcases Bool.eq_false_or_eq_true (r.kind == 3) with k3 | k3
  · have HK : Hid (kone k r = ⟨k.hard, k.snap, k.ents.take (kcutN k r.index)⟩) := hide (by unfold kone; rw [if_neg K1.out, if_neg K2.out, if_pos (by simpa using k3)])
    have r5 := (hR_.cell 5).trans rfl
    go_wp2_with fail
    refine (focut_b X w0 g k r.index w1 h hk ⟨hr.i0, hr.i1⟩).mono ?_
    rintro e w2 ⟨rfl, hF, hc⟩
    go_wp2
    go_end0
    rw [HK.out]
    exact ⟨rfl, hF, hx.then_ hc (by simpa using hw0)⟩
  have K3 : Hid (¬ r.kind = 3) := hide (by simpa using k3)
  rcases Bool.eq_false_or_eq_true (r.kind == 4) with k4 | k4
  · have HK : Hid (kone k r = ksnap k r.snap) := hide (by unfold kone; rw [if_neg K1.out, if_neg K2.out, if_neg K3.out, if_pos (by simpa using k4)])
    have r6 := (hR_.cell 6).trans rfl
    have r7 := (hR_.cell 7).trans rfl
    have r8 := (hR_.cell 8).trans rfl
    go_wp2_with fail
    refine (fosnap_b X w0 g k r.snap (.slice A2 r.snap.state.length c2) w1 h hk hr.n0 hr.n1 hw0 hv2).mono ?_
    rintro e w2 ⟨rfl, hF, hc⟩
    go_wp2
    go_end0
    rw [HK.out]
    exact ⟨rfl, hF, hx.then_ hc (by simpa using hw0)⟩
  · have HK : Hid (kone k r = k) := hide (by unfold kone; rw [if_neg K1.out, if_neg K2.out, if_neg K3.out, if_neg (by simpa using k4)])
    go_wp2
    go_end0
    rw [HK.out]
    exact ⟨rfl, h, hx⟩
end Go.Proofs.Ytlblgopfdadalaa
