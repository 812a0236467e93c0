/- A part of the proof of 'StateBytes'. -/
import Derived.Test.YtamimdlaclglkaaGreatB20
import Derived.Deep.RegionWith
namespace Go.Proofs.YtamimdlaclglkaaGreat
set_option linter.unusedVariables false
set_option linter.unusedSimpArgs false
set_option linter.unnecessarySimpa false
set_option maxRecDepth 100000
open Go.RowKit
theorem time_end {w1 w3 : World} {g : Nat} {s : St} {c : Cm} {now : Int} {vt vl vs : Value} {m2 m3 : List Ln} {A3 : Option Addr} {c3 : Nat} (hM : Blk w1 g 107 (mkcells ⟨now, s.count, s.links, s.sess⟩ c vt vl vs).toArray)
    (hm2 : Hid (m2 = s.links)) (hm3 : Hid (m3 = m2.filter (fun a => !!live now a))) (hown3 : Own 53 lnE w1.drew w3 noneAt (.slice A3 m3.length c3) m3) (hx3 : Ext w1.drew w3) :
    ∃ A5 c5, Blk (w3.setCell ⟨g, 3, none⟩ (.slice A3 m3.length c3)) g 107 (mkcells ⟨now, s.count, s.links.filter (live now), s.sess⟩ c vt (.slice A5 (s.links.filter (live now)).length c5) vs).toArray ∧
      Own 53 lnE w1 (w3.setCell ⟨g, 3, none⟩ (.slice A3 m3.length c3)) noneAt (.slice A5 (s.links.filter (live now)).length c5) (s.links.filter (live now)) ∧ Chg [g] w1 (w3.setCell ⟨g, 3, none⟩ (.slice A3 m3.length c3)) := by
  have hx : Ext w1 w3 := ((Ext.rfl' w1).drew').trans' hx3
  have hm : m3 = s.links.filter (live now) := by
    rw [hm3.out, hm2.out]
    simp only [Bool.not_not]
  subst hm
  have hM3 := hM.ext hx
  have hcg : Chg [g] w3 (w3.setCell ⟨g, 3, none⟩ (.slice A3 (s.links.filter (live now)).length c3)) := (Chg.refl [g] w3).set (by simp) _
  exact ⟨A3, c3, hM3.set_ 3 _, (hown3.trans ((Ext.rfl' w1).drew')).lnT hM3 (by decide) hcg, (hx.chg [g]).trans hcg⟩
set_option maxHeartbeats 12800000 in
theorem lktime_b (X : Avoid) (g : Nat) (s : St) (c : Cm) (vt vl vs : Value) (w : World) (hX : ∀ k, X k → k < w.heap.size) (hXg : ¬ X g) (h : Blk w g 107 (mkcells s c vt vl vs).toArray)
    (hsl : Enc.Sl lnE w (fun k => X k ∨ k = g) vl s.links) (hl : s.links.length ≤ 10000) :
    Calls Tryz.prog 90 #[.pointer (some ⟨g, 0, none⟩)] w fun e w' => RetMk X w w' g c vt vs e (ltime s c) := by
  obtain ⟨Al, cl, rfl, -, -⟩ := hsl.form
  have hgw := h.lt
  obtain ⟨gc, hgc⟩ : ∃ gc, w.heap.size = gc := ⟨_, rfl⟩
  obtain ⟨ga, hga⟩ : ∃ ga, gc + 1 = ga := ⟨_, rfl⟩
  have hC := (Blk.new w 104 #[.pointer (some ⟨g, 0, none⟩)]).alloc (.cells (acells ⟨0, []⟩).toArray 33)
  have hA := Blk.new (w.alloc (.cells #[.pointer (some ⟨g, 0, none⟩)] 104)) 33 (acells ⟨0, []⟩).toArray
  have hx0 : Ext w ((w.alloc (.cells #[.pointer (some ⟨g, 0, none⟩)] 104)).alloc (.cells (acells ⟨0, []⟩).toArray 33)) := ((Ext.rfl' w).alloc' _).alloc' _
  rw [show (w.alloc (.cells #[.pointer (some ⟨g, 0, none⟩)] 104)).heap.size = w.heap.size + 1 by simp, hgc, hga] at hA
  rw [hgc] at hC
  have hgg : ga ≠ g := by omega
  have hgaw : w.heap.size ≤ ga := by omega
  have hgcw : w.heap.size ≤ gc := by omega
  go_enter Tryz.func90, Tryz.ntmps90
  go_upto_region 1 with fail
  try rw [hgc]
  try rw [hga]
  generalize hw0 : ((w.alloc (.cells #[.pointer (some ⟨g, 0, none⟩)] 104)).alloc (.cells (acells ⟨0, []⟩).toArray 33)) = w0 at *
  clear hw0 hga
  have c0 : w0.cell? ⟨gc, 0, none⟩ = some (.pointer (some ⟨g, 0, none⟩)) := (hC.cell 0).trans rfl
  have m10 : w0.cell? ⟨g, 10, none⟩ = some (.int .u64 c.till) := ((h.ext hx0).cell 10).trans rfl
  have m1 : w0.cell? ⟨g, 1, none⟩ = some (.int .u64 s.now) := ((h.ext hx0).cell 1).trans rfl
  have f1 := (h.ext hx0).frozen 1
  by_cases hk : 1099511627776 < c.till
  case pos =>
    have HL : Hid (ltime s c = (s, ⟨1, []⟩)) := if_pos hk
    go_wp2_with fail
    refine (lkans_b 1 [] _).mono ?_
    rintro e W9 ⟨rfl, hx9⟩
    rw [if_neg (by decide)]
    have hA9 := hA.ext hx9
    have y0 := (hA9.cell 0).trans rfl
    have y1 := (hA9.cell 1).trans rfl
    have z0 := hA9.frozen 0
    have z1 := hA9.frozen 1
    go_wp2
    try simp only [Exit.inBlock, Exit.then]
    refine bodyPost_ret (results_cell_row rfl _ _ ga 33 (acells ⟨1, []⟩).toArray (0, 0) _ rfl (Blk.two_ hA9 (.int .i64 1) (str [])) Tryz.underlying33 rfl (by kernel_rfl)) rfl ?_
    have hcA : Chg [ga] W9 _ := (Chg.refl [ga] W9).two_ (g := ga) (by simp) (.int .i64 1) (str [])
    have hxe := (hx0.trans' hx9).then_ hcA (by simp; omega)
    exact ⟨s, _, hide HL.out.symm, rfl, _, ((h.ext (hx0.trans' hx9)).chg hcA (by simpa using fun h => hgg h.symm)), (hsl.mono fun _ _ h => .inl h).ext hxe, hxe.chg [g]⟩
  obtain ⟨now, hnow⟩ : ∃ now, max s.now c.till = now := ⟨_, rfl⟩
  have HL : Hid (ltime s c = (⟨now, s.count, s.links.filter (live now), s.sess⟩, ⟨0, []⟩)) := by
    unfold Hid ltime
    rw [if_neg hk, hnow]
  go_upto_region 3 with fail
  go_cut [] (fun wx => Blk wx g 107 (mkcells ⟨now, s.count, s.links, s.sess⟩ c vt (.slice Al s.links.length cl) vs).toArray ∧ Chg [g] w0 wx)
  case first =>
    have hF : Blk (w0.setCell ⟨g, 1, none⟩ (.int .u64 now)) g 107 (mkcells ⟨now, s.count, s.links, s.sess⟩ c vt (.slice Al s.links.length cl) vs).toArray := (h.ext hx0).set_ 1 (.int .u64 now)
    have hCF : Chg [g] w0 (w0.setCell ⟨g, 1, none⟩ (.int .u64 now)) := (Chg.refl [g] w0).set (by simp) _
    by_cases hmx : s.now ≤ c.till
    · obtain rfl : now = c.till := by omega
      have hmx2 : ¬ c.till < s.now := by omega
      go_region
      go_wp2_with fail
      go_meet
      case rel => exact ⟨hF.drew, hCF.drew⟩
    · obtain rfl : now = s.now := by omega
      have hmx2 : c.till < s.now := by omega
      go_region
      go_wp2_with fail
      go_meet
      case rel => exact ⟨hF.drew, hCF.drew⟩
  case rest =>
  obtain ⟨hM, hcM⟩ := hcut
  replace hC := hC.chg hcM (by simp; omega)
  replace hA := hA.chg hcM (by simpa using hgg)
  have hsl1 := (hsl.ext hx0).chg hcM (fun k hk _ => .inr (by simpa using hk))
  have hcw := (hx0.chg [g]).trans hcM
  clear c0 m10 m1 f1 hk hnow hcM hx0
  generalize wc = w1 at *
  have hX1 : ∀ k, X k → k < w1.heap.size := fun k hk => Nat.lt_of_lt_of_le (hX k hk) hcw.size
  go_upto_region 4 with fail
  go_cut [] (fun wx => ∃ A5 c5, Blk wx g 107 (mkcells ⟨now, s.count, s.links.filter (live now), s.sess⟩ c vt (.slice A5 (s.links.filter (live now)).length c5) vs).toArray ∧ Own 53 lnE w1 wx noneAt (.slice A5 (s.links.filter (live now)).length c5) (s.links.filter (live now)) ∧ Chg [g] w1 wx)
  case first =>
    have c1 : w1.cell? ⟨gc, 0, none⟩ = some (.pointer (some ⟨g, 0, none⟩)) := (hC.cell 0).trans rfl
    have m3 : w1.cell? ⟨g, 3, none⟩ = some (.slice Al s.links.length cl) := (hM.cell 3).trans rfl
    have HC := hide (fun W (hx : Ext w1 W) => cloneX_ln noneAt W (fun _ h => h.elim) (.slice Al s.links.length cl) s.links (by omega) ((hsl1.ext hx).mono fun _ _ h => h.elim))
    have HD := hide (fun W (A2 : Option Addr) (c2 : Nat) (m2 : List Ln) (hl2 : m2.length ≤ 100000) (hown : Own 53 lnE w1.drew W noneAt (.slice A2 m2.length c2) m2) (hx : Ext w1.drew W) =>
      delLt_b (fun x => !live now x) (.pointer (some ⟨gc, 0, none⟩)) (.slice A2 m2.length c2) m2 w1.drew W hl2 hown hx (fun W' x hW _ => by
        have hx' : Ext w1 W' := ((Ext.rfl' w1).drew').trans' hW
        exact time1_b x gc g now W' (hC.ext hx').lt (hM.ext hx').lt (((hC.ext hx').cell 0).trans rfl) (((hM.ext hx').cell 1).trans rfl)))
    go_region_with (first
      | (go_at_call 55; go_loud (refine (HC.out _ ?_).mono ?_; exact (Ext.rfl' _).drew'; rintro e w2 ⟨m2, A2, c2, hm2, rfl, hown2, hx2⟩; have hl2 : m2.length ≤ 100000 := (by rw [hm2.out]; omega); have c2_ : w2.cell? ⟨gc, 0, none⟩ = some (.pointer (some ⟨g, 0, none⟩)) := ((hC.ext ((Ext.rfl' w1).drew'.trans' hx2)).cell 0).trans rfl))
      | (go_at_call 108; go_loud (refine (HD.out w2 A2 c2 m2 ?_ ?_ ?_).mono ?_; exact hl2; exact hown2; exact hx2; rintro e w3 ⟨m3, A3, c3, hm3, rfl, hown3, hx3⟩; have hM3 := hM.ext ((Ext.rfl' w1).drew'.trans' hx3); have b3 : w3.cell? ⟨g, 3, none⟩ = some (.slice Al s.links.length cl) := (hM3.cell 3).trans rfl; have g3 := hM3.frozen 3; have c3_ : w3.cell? ⟨gc, 0, none⟩ = some (.pointer (some ⟨g, 0, none⟩)) := ((hC.ext ((Ext.rfl' w1).drew'.trans' hx3)).cell 0).trans rfl)))
    all_goals (go_wp2_with fail; go_meet; case rel => exact time_end hM hm2 hm3 hown3 hx3)
  case rest =>
  obtain ⟨A5, c5, hB5, hO5, hc5⟩ := hcut
  replace hA := hA.chg hc5 (by simpa using hgg)
  have hcw5 := hcw.trans hc5
  have hsz5 : w.heap.size ≤ w1.heap.size := hcw.size
  clear hM hC hsl1
  generalize wc = w5 at *
  have y0 := (hA.cell 0).trans rfl
  have y1 := (hA.cell 1).trans rfl
  have z0 := hA.frozen 0
  have z1 := hA.frozen 1
  go_wp2
  try simp only [Exit.inBlock, Exit.then]
  refine bodyPost_ret (results_cell_row rfl _ _ ga 33 (acells ⟨0, []⟩).toArray (0, 0) _ rfl (Blk.two_ hA (.int .i64 0) (str [])) Tryz.underlying33 rfl (by kernel_rfl)) rfl ?_
  have hcA : Chg [ga] w5 _ := (Chg.refl [ga] w5).two_ (g := ga) (by simp) (.int .i64 0) (str [])
  have hOX := (hO5.lnT hA (by decide) hcA).widen (Y := X) (fun h => ln_widen h) hX1
  exact ⟨_, ⟨0, []⟩, hide HL.out.symm, rfl, _, hB5.chg hcA (by simpa using fun h => hgg h.symm), hOX.sl, hcw5.then_new hcA (by simp; omega)⟩
end Go.Proofs.YtamimdlaclglkaaGreat
