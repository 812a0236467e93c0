import Derived.Test.YtboncnlcomeahaaPk18
import Derived.RegionTactic
import Derived.Deep.RegionLaw
/- What records come to: the folder's one. -/
namespace Go.Proofs.Ytboncnlcomeahaa
set_option linter.unusedVariables false
set_option linter.unusedSimpArgs false
set_option linter.unnecessarySimpa false
set_option maxRecDepth 100000
open Go.RowKit
set_option maxHeartbeats 3200000 in
theorem foone_b (X : Avoid) (w0 : World) (g : Nat) (k : Kp) (r : Rec) (v1 v2 : Value) (w : World) (hw0 : w0.heap.size ≤ g) (h : FoAt X w0 w g k) (hk : k.wide) (hr : r.wide) (hX : ∀ j, X j → j < w0.heap.size) (h1 : Enc.BsX w0 X v1 r.ent.data) (h2 : Enc.BsX w0 X v2 r.snap.state) (hx : Ext w0 w) (hl : k.ents.length ≤ 100000) :
    Calls Try.prog 37 #[.pointer (some ⟨g, 0, none⟩), .agg (recells r v1 v2).toArray] w fun e w' => e = .returned (.tuple #[]) ∧ FoAt X w0 w' g (kone k r) ∧ Ext w0 w' := by
  obtain ⟨A1, c1, rfl, -, -, -⟩ := id h1.1
  obtain ⟨A2, c2, rfl, -, -, -⟩ := id h2.1
  obtain ⟨gr, hgr⟩ : ∃ g_, w.heap.size = g_ := ⟨_, rfl⟩
  have hR_ := Blk.new w 38 (recells r (.slice A1 r.ent.data.length c1) (.slice A2 r.snap.state.length c2)).toArray
  rw [hgr] at hR_
  have hz : Ext w (w.alloc (.cells (recells r (.slice A1 r.ent.data.length c1) (.slice A2 r.snap.state.length c2)).toArray 38)) := (Ext.rfl' w).alloc' _
  replace h := h.ext hz
  replace hx := hx.trans' hz
  have hgl := h.lt
  have hv1 := (h1.mono (Y := fun j => j = g) (fun j hj h => by omega)).ext hx
  have hv2 := (h2.mono (Y := fun j => X j ∨ w0.heap.size ≤ j) (fun j hj h => h.elim id fun h => by omega)).ext hx
  go_enter Try.func37, Try.ntmps37
  go_upto_region 1 with fail
  try rw [hgr]
  clear hgr
  generalize (w.alloc (.cells (recells r (.slice A1 r.ent.data.length c1) (.slice A2 r.snap.state.length c2)).toArray 38)) = w1 at *
  have r0 := (hR_.cell 0).trans rfl
  rcases Bool.eq_false_or_eq_true (r.kind == 1) with k1 | k1
  · have HK : Hid (kone k r = ⟨r.hard, k.snap, k.ents⟩) := hide (by unfold kone; rw [if_pos (by simpa using k1)])
    obtain ⟨As, cs, Ae, ce, hF⟩ := h
    have r1 := (hR_.cell 1).trans rfl
    have r2 := (hR_.cell 2).trans rfl
    have d0 := (hF.1.cell 0).trans rfl
    have d1 := (hF.1.cell 1).trans rfl
    have f0 := hF.1.frozen 0
    have f1 := hF.1.frozen 1
    go_wp2
    go_end0
    rw [HK.out]
    have hcg : Chg [g] w1 ((w1.setCell ⟨g, 0, none⟩ (.int .u64 r.hard.term)).setCell ⟨g, 1, none⟩ (.int .i64 r.hard.vote)) := ((Chg.refl _ _).set (by simp) _).set (by simp) _
    exact ⟨rfl, ⟨As, cs, Ae, ce, (hF.1.set_ 0 _).set_ 1 _, hF.2.1.chg hcg (fun j hj _ => .inl (.inr (List.mem_singleton.1 hj))), hF.2.2.chg hcg (fun j hj _ => .inr (List.mem_singleton.1 hj))⟩, hx.then_ hcg (by simpa using hw0)⟩
  have K1 : Hid (¬ r.kind = 1) := hide (by simpa using k1)
  rcases Bool.eq_false_or_eq_true (r.kind == 2) with k2 | k2
  · have HK : Hid (kone k r = ⟨k.hard, k.snap, k.ents ++ [r.ent]⟩) := hide (by unfold kone; rw [if_neg K1.out, if_pos (by simpa using k2)])
    obtain ⟨As, cs, Ae, ce, hF⟩ := h
    have r3 := (hR_.cell 3).trans rfl
    have r4 := (hR_.cell 4).trans rfl
    have d5 := (hF.1.cell 5).trans rfl
    have f5 := hF.1.frozen 5
    obtain ⟨gl, hgl_⟩ : ∃ g_, w1.heap.size = g_ := ⟨_, rfl⟩
    have hgg : g < gl := by rw [← hgl_]; exact hF.1.lt
    have hd1 : Ext w1 w1.drew := (Ext.rfl' w1).drew'
    have hgd : w1.drew.heap.size = gl := hgl_
    have hlit : Enc.Sl enE (w1.drew.alloc (.cells #[.int .u64 r.ent.term, .slice A1 r.ent.data.length c1] 36)) (fun j => (X j ∨ j = g) ∨ (Value.slice Ae k.ents.length ce).ownBlock = some j) (.slice (some ⟨gl, 0, none⟩) 1 1) [r.ent] := by
      refine Sl.one (E := enE) 36 (cs := [.int .u64 r.ent.term, .slice A1 r.ent.data.length c1]) (w := w1.drew) (X := fun j => (X j ∨ j = g) ∨ (Value.slice Ae k.ents.length ce).ownBlock = some j) (en_rep.2 ⟨_, rfl, ⟨hr.e0, hr.e1⟩, ?_⟩) gl hgd ?_
      · refine (h1.mono (Y := fun j => (X j ∨ j = g) ∨ (Value.slice Ae k.ents.length ce).ownBlock = some j) (fun j hj h => ?_)).ext (hx.trans' hd1)
        rcases h with (h | h) | h
        · exact h
        · omega
        · have := (hF.2.2.own j h).1; omega
      · rintro ((h | h) | h)
        · have := hX _ h; omega
        · omega
        · have := (hF.2.2.own _ h).2.1; omega
    have hge : ∀ j, (Value.slice Ae k.ents.length ce).ownBlock = some j → j ≠ g := fun j h e => (hF.2.2.own j h).2.2 (.inr e)
    have hxa : Ext w1 (w1.drew.alloc (.cells #[.int .u64 r.ent.term, .slice A1 r.ent.data.length c1] 36)) := hd1.alloc' _
    have q0 := fun o1 => ((hF.1.drew.alloc o1).cell 5).trans rfl
    have q1 := fun o1 => ((hR_.drew.alloc o1).cell 3).trans rfl
    have q2 := fun o1 => ((hR_.drew.alloc o1).cell 4).trans rfl
    go_wp2_with fail
    go_region_law (refine step_ownO elt_en 31 Try.underlying31 rfl (.tmp 21) (.tmp 24) rfl (hF.2.2.ext hxa) (by simp [Act.eval, Act.put]) (hx.trans' hxa) (a := r.ent) (y := .slice (some ⟨gl, 0, none⟩) 1 1) (by simp [Act.eval, Act.put]) hlit (fun j hj => hj.elim (fun h => Nat.lt_of_lt_of_le (hX _ h) (hx.trans' hxa).size) fun h => by rw [h]; exact (hF.1.ext hxa).lt) (by omega) (by omega) ?_; intro l1 A3 c3 w2 hl1 hown1 hx2 hc2 hob2; have hB2 := Blk.chg (hF.1.ext hxa) hc2 (fun hm => by simp at hm; exact hge g hm rfl); have d5 : w2.cell? ⟨g, 5, none⟩ = some (.slice Ae k.ents.length ce) := (hB2.cell 5).trans rfl; have f5 : w2.frozen? ⟨g, 5, none⟩ = false := hB2.frozen 5)
    all_goals
      go_end0
      rw [HK.out]
      have hs2 : Enc.BsX w2 (fun j => (X j ∨ j = g) ∨ (Value.slice A3 l1.length c3).ownBlock = some j) (.slice As k.snap.state.length cs) k.snap.state := by
        have e1 := (hF.2.1.ext hxa)
        have e2 := e1.mono (Y := fun j => ((X j ∨ j = g) ∨ (Value.slice A3 l1.length c3).ownBlock = some j) ∨ (Value.slice Ae k.ents.length ce).ownBlock = some j) (fun j hj h => by
          rcases h with (h | h) | h
          · exact .inl h
          · rcases hob2 j h with h | h
            · exact .inr h
            · have e9 : (w1.alloc (.cells #[.int .u64 r.ent.term, .slice A1 r.ent.data.length c1] 36)).drew.heap.size = (w1.drew.alloc (.cells #[.int .u64 r.ent.term, .slice A1 r.ent.data.length c1] 36)).heap.size := rfl
              omega
          · exact .inr h)
        exact (e2.chg hc2 (fun j hj _ => .inr (by simpa using hj))).mono fun j _ h => .inl h
      have hcg : Chg [g] w2 (w2.setCell ⟨g, 5, none⟩ (.slice A3 l1.length c3)) := (Chg.refl _ _).set (by simp) _
      rw [← hl1.out]
      exact ⟨rfl, ⟨As, cs, A3, c3, hB2.set_ 5 _, hs2.chg hcg (fun j hj _ => .inl (.inr (List.mem_singleton.1 hj))), hown1.chg hcg (fun j hj _ => .inr (List.mem_singleton.1 hj))⟩, hx2.then_ hcg (by simpa using hw0)⟩
  have K2 : Hid (¬ r.kind = 2) := hide (by simpa using k2)
  rcases Bool.eq_false_or_eq_true (r.kind == 3) with k3 | k3
  · have HK : Hid (kone k r = ⟨k.hard, k.snap, k.ents.take (kcutN k r.index)⟩) := hide (by unfold kone; rw [if_neg K1.out, if_neg K2.out, if_pos (by simpa using k3)])
    have r5 := (hR_.cell 5).trans rfl
    go_wp2_with fail
    refine (focut_b X w0 g k r.index w1 h hk ⟨hr.i0, hr.i1⟩).mono ?_
    rintro e w2 ⟨rfl, hF, hc⟩
    go_wp2
    go_end0
    rw [HK.out]
    exact ⟨rfl, hF, hx.then_ hc (by simpa using hw0)⟩
  have K3 : Hid (¬ r.kind = 3) := hide (by simpa using k3)
  rcases Bool.eq_false_or_eq_true (r.kind == 4) with k4 | k4
  · have HK : Hid (kone k r = ksnap k r.snap) := hide (by unfold kone; rw [if_neg K1.out, if_neg K2.out, if_neg K3.out, if_pos (by simpa using k4)])
    have r6 := (hR_.cell 6).trans rfl
    have r7 := (hR_.cell 7).trans rfl
    have r8 := (hR_.cell 8).trans rfl
    go_wp2_with fail
    refine (fosnap_b X w0 g k r.snap (.slice A2 r.snap.state.length c2) w1 h hk hr.n0 hr.n1 hw0 hv2).mono ?_
    rintro e w2 ⟨rfl, hF, hc⟩
    go_wp2
    go_end0
    rw [HK.out]
    exact ⟨rfl, hF, hx.then_ hc (by simpa using hw0)⟩
  · have HK : Hid (kone k r = k) := hide (by unfold kone; rw [if_neg K1.out, if_neg K2.out, if_neg K3.out, if_neg (by simpa using k4)])
    go_wp2
    go_end0
    rw [HK.out]
    exact ⟨rfl, h, hx⟩
end Go.Proofs.Ytboncnlcomeahaa

