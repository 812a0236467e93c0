/- A part of the proof of 'StoreAll'. -/
import Derived.Test.YtlblgopfdadalaaS30
import Derived.Test.YtlblgopfdadalaaS17
namespace Go.Proofs.Ytlblgopfdadalaa
set_option linter.unusedVariables false
set_option linter.unusedSimpArgs false
set_option linter.unnecessarySimpa false
set_option maxRecDepth 100000
open Go.RowKit
theorem ounframe_len (b : Bytes) : (ounframe b).1.length ≤ b.length := by
  unfold ounframe
  split
  · simp
  · split
    · simp
    · simp only [List.length_take, List.length_drop]
      omega
set_option maxHeartbeats 3200000 in
theorem rscan_b (x : Value) (b : Bytes) (w : World) (hl : b.length ≤ 100000) (hx : Bs w x b) :
    Calls Try.prog 55 #[x] w fun e w' => RetScan w w' e (scan b) := by
  obtain ⟨A, c, rfl, hc1, hc2, -⟩ := id hx
  obtain ⟨i0, hi0, hz0, hz1, hz2⟩ := info_parts ti5
  go_enter Try.func55, Try.ntmps55
  go_wp2_with fail
  go_loopw [4, 5] (fun v2 v3 wr => ∃ (l : List Rec) (B : Option Addr) (cc n : Nat), v2 = .slice B l.length cc ∧ v3 = .int .i64 n ∧ n ≤ b.length ∧ l.length * 8 ≤ n ∧ Own 101 reE w wr noneAt (.slice B l.length cc) l ∧ Hid (scan b = (l ++ (scan (b.drop n)).1, n + (scan (b.drop n)).2)) ∧ Ext w wr) (fun _ v3 _ => (b.length - intOf v3).toNat)
  case atStart => exact ⟨[], none, 0, 0, rfl, rfl, by omega, by simp, Own.nil _ _ _ _ _, hide (by simp), Ext.rfl' _⟩
  case round =>
    obtain ⟨l, B, cc, n, rfl, rfl, hnb, hln, hown, HS, hxr⟩ := hrel
    have hsl := fun W => run_sl_l (P := Try.prog) (A := A) (n := b.length) (c := c) (kl := .i64) Try.underlying24 hi0 hz1 n rfl hnb W
    go_wp2_with fail
    refine (runframe_b _ (b.drop n) wr (by rw [List.length_drop]; omega) ((hx.ext hxr).rest hnb)).mono ?_
    rintro e W1 ⟨m, Am, cm, n1, k, hm, rfl, hz, hx1⟩
    clear hsl
    have hml : m.length ≤ 100000 := by
      have h1 := ounframe_len (b.drop n)
      rw [← hm.out, List.length_drop] at h1
      simp only at h1
      omega
    go_wp2_with fail
    refine (rrecord_b _ m W1 hml hz.bs).mono ?_
    rintro e W2 ⟨R, w1, w2, is, rfl, hrep, HO, hx2⟩
    obtain ⟨v1', v2', hveq, hwide, hb1, hb2⟩ := re_rep.1 hrep
    simp only [recells, List.cons.injEq, true_and, and_true] at hveq
    obtain ⟨rfl, rfl⟩ := hveq
    obtain ⟨A1, c1, rfl, -, -, -⟩ := id hb1.1
    obtain ⟨A2, c2, rfl, -, -, -⟩ := id hb2.1
    have hx3 := (Ext.rfl' W2).alloc' (.cells (recells R (.slice A1 R.ent.data.length c1) (.slice A2 R.snap.state.length c2)).toArray 101)
    obtain ⟨g8, hg8⟩ : ∃ g, W2.heap.size = g := ⟨_, rfl⟩
    have hX := Blk.new W2 101 (recells R (.slice A1 R.ent.data.length c1) (.slice A2 R.snap.state.length c2)).toArray
    rw [hg8] at hX
    have hxs := (hx1.trans' hx2).trans' hx3
    go_upto_region 5 with fail
    change Code.wp _ _ _ _ (W2.alloc (.cells (recells R (.slice A1 R.ent.data.length c1) (.slice A2 R.snap.state.length c2)).toArray 101))
    replace hrep := reE.ext hrep hx3
    generalize W2.alloc (.cells (recells R (.slice A1 R.ent.data.length c1) (.slice A2 R.snap.state.length c2)).toArray 101) = W3 at *
    by_cases hk : k = 0
    · obtain rfl : k = 0 := hk
      obtain ⟨hn1, hn2, -⟩ := ounframe_ok hm.out.symm
      rw [List.length_drop] at hn2
      cases is with
      | false =>
        go_wp2
        go_ret2
        refine ⟨l, B, cc, n, hide ?_, rfl, hown.ext hxs, hxr.trans' hxs⟩
        rw [HS.out, scan_stop (.inr (by rw [← hm.out]; rw [HO.out]; rfl))]
        simp
      | true =>
        have HSTEP := hide (scan_step (b := b.drop n) (s := m) (n := 8 + m.length) (r := R) (by rw [← hm.out, hn1]) (by rw [HO.out]; rfl))
        have hownE := hown.ext hxs
        have x0 := (hX.cell 0).trans rfl
        have x1 := (hX.cell 1).trans rfl
        have x2 := (hX.cell 2).trans rfl
        have x3 := (hX.cell 3).trans rfl
        have x4 := (hX.cell 4).trans rfl
        have x5 := (hX.cell 5).trans rfl
        have x6 := (hX.cell 6).trans rfl
        have x7 := (hX.cell 7).trans rfl
        have x8 := (hX.cell 8).trans rfl
        have hlit := Sl.one 101 (E := reE) (w := W3) (X := fun i => noneAt i ∨ (Value.slice B l.length cc).ownBlock = some i) (cs := recells R (.slice A1 R.ent.data.length c1) (.slice A2 R.snap.state.length c2)) (a := R)
          (reE.mono hrep fun k hk h => h.elim (fun h => h.elim) fun h => by have := (hown.lt k h).2; have := hx1.size; omega) W3.heap.size rfl (fun h => h.elim (fun h => h.elim) fun h => by have := (hownE.lt _ h).2; omega)
        have hxa : Ext W3 (W3.alloc (.cells (recells R (.slice A1 R.ent.data.length c1) (.slice A2 R.snap.state.length c2)).toArray 101)) := (Ext.rfl' W3).alloc' _
        go_wp2_with (at_builtin; refine wpList_own elt_re 60 Try.underlying60 rfl _ _ rfl (hownE.ext hxa) rfl ((hxr.trans' hxs).trans' hxa) (m := [R]) (y := .slice (some ⟨W3.heap.size, 0, none⟩) 1 1) rfl hlit (fun h => h.elim) (by simp only [List.length_singleton]; omega) (by simp only [List.length_singleton]; omega) ?_; intro l3 A6 c6 w6 hl3 hown3 hxx hcc)
        have hl3' := hl3.out
        subst hl3'
        go_roundw
        case rel =>
          refine ⟨l ++ [R], A6, c6, n + (8 + m.length), rfl, by go_num, by omega, by simp; omega, hown3, hide ?_, hxx⟩
          rw [HS.out, HSTEP.out, List.drop_drop]
          simp
          omega
        case measure => simp [intOf]; omega
    · have hk' : ¬ k = 0 := hk
      go_wp2
      go_ret2
      refine ⟨l, B, cc, n, hide ?_, rfl, hown.ext hxs, hxr.trans' hxs⟩
      rw [HS.out, scan_stop (.inl (by rw [← hm.out]; exact hk))]
      simp
end Go.Proofs.Ytlblgopfdadalaa
