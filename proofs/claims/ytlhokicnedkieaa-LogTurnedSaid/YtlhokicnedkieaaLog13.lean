/- LogTurned. -/
import Derived.Test.YtlhokicnedkieaaLog12
import Derived.Test.YtlhokicnedkieaaBitT
namespace Go.Proofs.Ytlhokicnedkieaa
set_option linter.unusedVariables false
set_option linter.unusedSimpArgs false
set_option linter.unnecessarySimpa false
set_option maxRecDepth 100000
open Go.RowKit
theorem split_at {α : Type} {l : List α} {k : Nat} {r : α} (h : l[k]? = some r) : l = l.take k ++ r :: l.drop (k + 1) := by
  obtain ⟨h1, h2⟩ := List.getElem?_eq_some_iff.1 h
  rw [← h2]
  simp
theorem right_id {l : List Rec} (h : ∀ r ∈ l, may r = true ∧ fixr r = r) : right l = l := by
  induction l with
  | nil => rfl
  | cons r l ih =>
    obtain ⟨h1, h2⟩ := h r List.mem_cons_self
    rw [right, if_pos h1, h2, ih fun x hx => h x (List.mem_cons_of_mem _ hx)]
set_option maxHeartbeats 6400000 in
theorem logTurned_walk (xl : Value) (l : List Rec) (which at_ : Int) (w : World) (hl : Enc.Sl reE w noneAt xl l) (hlen : l.length * 104 ≤ 140737488351232) (hwh : 0 ≤ which ∧ which ≤ 255) (hat : 0 ≤ at_ ∧ at_ ≤ 65535) :
    Calls Try.prog 10 #[xl, .int .u8 which, .int .u16 at_] w fun e w' => e = .returned (.bool true) ∧ Ext w w' := by
  obtain ⟨A, c, rfl, -, -⟩ := hl.form
  have hwl : ∀ r ∈ l, r.wide := Sl.wides hl
  obtain ⟨i0, hi0, hz0, hz1, hz2⟩ := info_parts ti5
  obtain ⟨i9, hi9, hy0, hy1, hy2⟩ := info_parts elt_re.info
  go_enter Try.func10, Try.ntmps10
  go_wp2_with fail
  refine (begun22_b _).mono ?_
  rintro e W1 ⟨rfl, hx1⟩
  go_wp2_with fail
  refine (right_b _ l _ hlen (hl.ext hx1)).mono ?_
  rintro e W2 ⟨Aw, cw, m1, hm1, rfl, hownw, hx2⟩
  have hx12 := hx1.trans' hx2
  go_wp2_with fail
  refine (light22_b _ l _ (hl.ext hx12)).mono ?_
  rintro e W3 ⟨b1, rfl, hx3, hb1⟩
  have hx13 := hx12.trans' hx3
  cases b1 with
  | false =>
    go_wp2
    go_ret
    exact ⟨rfl, hx13⟩
  | true =>
    obtain ⟨la1, la2⟩ := hb1 rfl
    have HA : Hid (∀ r ∈ l, r.wide ∧ r.small) := fun r hr => ⟨hwl r hr, la1 r hr⟩
    clear hb1 la1 hwl
    have hm20 : m1.length ≤ 20 := by rw [hm1.out]; exact Nat.le_trans (right_len l) (by omega)
    have HM1 : Hid (∀ r ∈ m1, may r = true ∧ fixr r = r ∧ r.wide ∧ r.small) := by unfold Hid; rw [hm1.out]; exact right_mem HA.out
    have hw3 := slN (hownw.ext hx3).sl
    clear hlen
    by_cases hm0 : m1.length = 0
    · have hm0' : (m1.length : Int) = 0 := by omega
      go_wp2
      go_ret
      exact ⟨rfl, hx13⟩
    · have hm0' : ¬ (m1.length : Int) = 0 := by omega
      have hmp : 0 < m1.length := by omega
      have hmp' : (0 : Int) < m1.length := by omega
      obtain ⟨k, hk, hkb⟩ : ∃ k : Nat, which % (m1.length : Int) = (k : Nat) ∧ k < m1.length := by
        have h1 := Int.emod_nonneg which hm0'
        have h2 := Int.emod_lt_of_pos which hmp'
        exact ⟨(which % (m1.length : Int)).toNat, by omega, by omega⟩
      go_upto_region 7 with fail
      rw [hk]
      clear hk
      obtain ⟨hwc1, hwc2⟩ := hw3.inv.2
      have hsl := fun W => run_sl_h (P := Try.prog) (A := Aw) (n := m1.length) (c := cw) (kh := .i64) Try.underlying46 hi9 hy1 k rfl (by omega) W
      have hsf := Sl.front hw3 (k := k) (by omega)
      have htl : (m1.take k).length = k := by rw [List.length_take]; omega
      have HTK : Hid (∀ r ∈ m1.take k, r.wide ∧ r.small) := fun r hr => ⟨(HM1.out r (List.mem_of_mem_take hr)).2.2.1, (HM1.out r (List.mem_of_mem_take hr)).2.2.2⟩
      obtain ⟨ad, r, v1, v2, hAw, hr, hb, p0, p1, p2, p3, p4, p5, p6, p7, p8, r1, r2, r3⟩ := re_at hw3 (k := k) hkb
      subst hAw
      obtain ⟨A1, c1, rfl, -, -, -⟩ := id r2.1
      obtain ⟨A2, c2, rfl, -, -, -⟩ := id r3.1
      have hab : (ad.add (k * 9)).block < W3.heap.size := by rw [block_of_add]; exact hb
      have HTL := hide htl
      clear htl
      go_wp2_with fail
      refine (lputs_b _ (m1.take k) _ (by rw [HTL.out]; omega) hsf HTK.out).mono ?_
      rintro e W4 ⟨hd, Ah, ch, hhd, rfl, haph, hx4⟩
      have hx14 := hx13.trans' hx4
      clear hsl hsf
      replace p0 := (hx4.cell (p := ad.add (k * 9)) hab).trans p0
      replace p1 := (hx4.cell (p := ⟨(ad.add (k * 9)).block, (ad.add (k * 9)).off + 1, none⟩) hab).trans p1
      replace p2 := (hx4.cell (p := ⟨(ad.add (k * 9)).block, (ad.add (k * 9)).off + 2, none⟩) hab).trans p2
      replace p3 := (hx4.cell (p := ⟨(ad.add (k * 9)).block, (ad.add (k * 9)).off + 3, none⟩) hab).trans p3
      replace p4 := (hx4.cell (p := ⟨(ad.add (k * 9)).block, (ad.add (k * 9)).off + 4, none⟩) hab).trans p4
      replace p5 := (hx4.cell (p := ⟨(ad.add (k * 9)).block, (ad.add (k * 9)).off + 5, none⟩) hab).trans p5
      replace p6 := (hx4.cell (p := ⟨(ad.add (k * 9)).block, (ad.add (k * 9)).off + 6, none⟩) hab).trans p6
      replace p7 := (hx4.cell (p := ⟨(ad.add (k * 9)).block, (ad.add (k * 9)).off + 7, none⟩) hab).trans p7
      replace p8 := (hx4.cell (p := ⟨(ad.add (k * 9)).block, (ad.add (k * 9)).off + 8, none⟩) hab).trans p8
      have hlit := Sl.one 57 (E := reE) (w := W4) (X := noneAt) (cs := recells r (.slice A1 r.ent.data.length c1) (.slice A2 r.snap.state.length c2)) (a := r) (re_rep.2 ⟨_, _, rfl, r1, r2.ext hx4, r3.ext hx4⟩) W4.heap.size rfl (fun h => h)
      have hxa : Ext W4 (W4.alloc (.cells (recells r (.slice A1 r.ent.data.length c1) (.slice A2 r.snap.state.length c2)).toArray 57)) := (Ext.rfl' W4).alloc' _
      obtain ⟨hrm, hrf, hrw, hrs⟩ := HM1.out r (List.mem_of_getElem? hr.out)
      have HRO : Hid (∀ q ∈ [r], q.wide ∧ q.small) := fun q hq => by rw [List.mem_singleton.1 hq]; exact ⟨hrw, hrs⟩
      have HRM := hide hrm
      have HRS := hide hrs
      clear hrm hrf hrw hrs
      go_wp2_with fail
      refine (lputs_b _ [r] _ (by simp) hlit HRO.out).mono ?_
      rintro e W5 ⟨o, Ao, co, ho, rfl, hapo, hx5⟩
      have hx35 := hx4.trans' (hxa.trans' hx5)
      have hx15 := hx13.trans' hx35
      clear hlit p0 p1 p2 p3 p4 p5 p6 p7 p8
      have HMW : Hid (∀ r ∈ m1, r.wide ∧ r.small) := fun r hr => ⟨(HM1.out r hr).2.2.1, (HM1.out r hr).2.2.2⟩
      go_wp2_with fail
      refine (lputs_b _ m1 _ (by omega) (hw3.ext hx35) HMW.out).mono ?_
      rintro e W6 ⟨b, Ab, cb, hbm, rfl, hapb, hx6⟩
      have hx16 := hx15.trans' hx6
      have ho' : o = oframe (one r) := by rw [ho.out]; simp [lput, HRM.out]
      have hol := one_len HRS.out
      have hob : 17 ≤ o.length ∧ o.length ≤ 85 := by rw [ho', oframe_length]; omega
      have hsp : b = hd ++ (o ++ lput (m1.drop (k + 1))) := by
        rw [hbm.out, hhd.out, ho']
        conv => lhs; rw [split_at hr.out, lput_app]
        simp [lput, HRM.out]
      have hbl : hd.length + o.length ≤ b.length := by rw [hsp, List.length_append, List.length_append]; omega
      have hbm2 : b.length ≤ 1700 := by rw [hbm.out]; exact Nat.le_trans (lput_len fun r hr => (HMW.out r hr).2) (by omega)
      obtain ⟨R, hR⟩ := Int.eq_ofNat_of_zero_le (Int.emod_nonneg at_ (show (8 : Int) * ((o.length : Int) - 4) ≠ 0 by omega))
      have hR2 : (R : Int) < 8 * ((o.length : Int) - 4) := hR ▸ Int.emod_lt_of_pos at_ (by omega)
      have HSP := hide hsp
      have HO := hide ho'
      clear hsp ho' hol
      have hb9 : ¬ (o.length : Int) < 9 := by omega
      have hbl' : ¬ (b.length : Int) < (hd.length : Int) + o.length := by omega
      go_upto_region 13 with fail
      clear hR hb9 hbl'
      have hzb : Nw W5 W6 (.slice Ab b.length cb) b := by
        rcases hapb with ⟨h, _⟩ | h
        · have h0 := congrArg List.length h
          simp only [List.length_nil] at h0
          omega
        · exact h
      obtain ⟨g, cap, hv, hg1, hg2⟩ := World.ownsRow.form hzb (by omega)
      simp only [Value.slice.injEq, true_and] at hv
      obtain ⟨rfl, rfl⟩ := hv
      obtain ⟨y, hy⟩ : ∃ y, o[4 + R / 8]? = some y := ⟨o[4 + R / 8]'(by omega), by simp⟩
      have hyb : b[hd.length + (4 + R / 8)]? = some y := by
        rw [HSP.out, List.getElem?_append_right (by omega), Nat.add_sub_cancel_left, List.getElem?_append_left (by omega)]
        exact hy
      have hcell : W6.cell? ⟨g, hd.length + (4 + R / 8), none⟩ = some (.int .u8 (y.toNat : Nat)) := by
        have hc := hzb.cells (g := g) rfl (hd.length + (4 + R / 8)) (.int .u8 (y.toNat : Nat)) (by simp [bv, hyb])
        rwa [show (⟨g, 0, none⟩ : Addr).add (hd.length + (4 + R / 8)) = ⟨g, hd.length + (4 + R / 8), none⟩ by unfold Addr.add; split <;> simp_all] at hc
      have hfr : W6.frozen? ⟨g, hd.length + (4 + R / 8), none⟩ = false := hzb.frozenAt _
      have hjq : (hd.length : Int) + (32 + (R : Int)) / 8 = ((hd.length + (4 + R / 8) : Nat) : Int) := by omega
      have hjr : (32 + (R : Int)) % 8 = ((R % 8 : Nat) : Int) := by omega
      have hjl : ((hd.length + (4 + R / 8) : Nat) : Int) < b.length := by omega
      have hj4 : 4 ≤ 4 + R / 8 := by omega
      have HY := hide hy
      clear hy hyb
      generalize hp : 4 + R / 8 = p at *
      have HP := hide hp
      clear hp
      have HJE : Hid (hd.length + p = hd.length + p) := hide rfl
      generalize hj : hd.length + p = j at *
      have HJ := hide hj
      clear hj HJE
      have h8 : ((R % 8 : Nat) : Int) < 8 := by omega
      generalize R % 8 = t at *
      obtain ⟨z, hzy, hz⟩ := turn_bit y t (by omega)
      have hst := hzb.stored j (.int .u8 (z.toNat : Nat))
      have HJ4 := hide hj4
      have HS := hide hst
      have HZ := hide hz
      have HZY := hide hzy
      clear hj4 hst hz hzy hR2
      go_region
      go_wp2_with fail
      simp only [HZ.out]
      have hb2 : Bs (W6.setCell ⟨g, j, none⟩ (.int .u8 (z.toNat : Nat))).drew (.slice (some ⟨g, 0, none⟩) b.length cb) (b.set j z) := by
        have h9 := HS.out.1
        rw [← bv_set] at h9
        exact Bs.own h9
      have hx37 : Ext W3 (W6.setCell ⟨g, j, none⟩ (.int .u8 (z.toNat : Nat))).drew := ((hx35.trans' hx6).set' (by have := hx35.size; exact Nat.le_trans this hg1) _).drew'
      have hx17 := hx13.trans' hx37
      generalize (W6.setCell ⟨g, j, none⟩ (.int .u8 (z.toNat : Nat))).drew = W7 at *
      have hst : scan (b.set j z) = (m1.take k, hd.length) := by
        have h1 := scan_turned (l1 := m1.take k) (l2 := m1.drop (k + 1)) (r := r) (p := p) (x := z) (y := y) HTK.out HRM.out HRS.out HJ4.out (by rw [← HO.out]; exact HY.out) HZY.out
        rw [← split_at hr.out, ← hbm.out, ← hhd.out, HJ.out] at h1
        rw [h1, right_id fun q hq => ⟨(HM1.out q (List.mem_of_mem_take hq)).1, (HM1.out q (List.mem_of_mem_take hq)).2.1⟩]
      refine (scan_b _ (b.set j z) _ (by rw [List.length_set]; omega) hb2).mono ?_
      rintro e W8 ⟨l5, A5, c5, n5, hln, rfl, hown5, hx8⟩
      obtain ⟨hl5, rfl⟩ := Prod.mk.inj (hln.out.trans hst)
      have hw8 := Sl.front ((hw3.ext hx37).ext hx8) (k := k) (by omega)
      have hl5l : l5.length = k := by rw [hl5]; exact HTL.out
      have hs5 := slN hown5.sl
      rw [← hl5] at hw8
      have HSR := hide (sameRecords_b _ _ l5 _ hs5 hw8)
      have hsl := fun W => run_sl_h (P := Try.prog) (A := some ad) (n := m1.length) (c := cw) (kh := .i64) Try.underlying46 hi9 hy1 k rfl (by omega) W
      clear hl5 hl5l hst hw8 hs5
      go_wp2_with fail
      refine HSR.out.mono ?_
      rintro e W9 ⟨rfl, hx9⟩
      go_wp2
      go_ret
      exact ⟨rfl, (hx17.trans' hx8).trans' hx9⟩
end Go.Proofs.Ytlhokicnedkieaa
