import Derived.Test.YtggfemdgccgbpaaPk36
import Derived.Test.YtggfemdgccgbpaaPk1
/- LinksTaken, in plain Lean. -/
namespace Go.Proofs.Ytggfemdgccgbpaa
set_option linter.unusedVariables false
set_option linter.unusedSimpArgs false
set_option linter.unnecessarySimpa false
set_option maxRecDepth 100000
open Go.RowKit
theorem ldo_name (s : St) {c : Cm} (hk : c.kind = 2) : ldo s c = lnameW lfind lwith s c := by
  unfold ldo ldoW
  rw [if_neg (by omega), if_neg (by omega), if_pos hk]
theorem ldo_time (s : St) {c : Cm} (hk : c.kind = 4) : ldo s c = ltime s c := by
  unfold ldo ldoW
  rw [if_pos hk]
theorem ldo_none {t : St} {n : Bytes} (h : lfind t.links n = none) : ldo t ⟨3, 0, 0, n, [], 0⟩ = (t, ⟨10, []⟩) := by
  unfold ldo ldoW
  rw [if_neg (by simp), if_neg (by simp), if_neg (by simp), if_pos rfl]
  unfold lfindW
  simp only
  rw [h]
/-- a name stands for an address -/
structure Named (t : St) (n a : Bytes) (till : Int) : Prop where
  inv : LInv t
  ok : isAlias n = true
  may : lmay ⟨2, 0, 0, n, a, till⟩ t.now = 0
  there : ∃ y, lfind t.links n = some y ∧ y.url = a ∧ y.till = till
variable {t : St} {n a b : Bytes} {till : Int}
theorem Named.again (h : Named t n a till) : ldo t ⟨2, 0, 0, n, a, till⟩ = (t, ⟨0, n⟩) := by
  obtain ⟨y, h1, h2, h3⟩ := h.there
  rw [ldo_name _ rfl]
  unfold lnameW
  simp only
  rw [if_neg (by rw [h.ok]; simp), if_neg (by rw [h.may]; simp), h1]
  simp only
  rw [if_pos (by unfold lown; simp [h2, h3])]
theorem Named.other (h : Named t n a till) (hb : b ≠ []) (hbl : b.length ≤ 400) (hab : a ≠ b) : ldo t ⟨2, 0, 0, n, b, till⟩ = (t, ⟨11, []⟩) := by
  obtain ⟨y, h1, h2, h3⟩ := h.there
  obtain ⟨-, -, m3, m4⟩ := lmay_zero h.may
  simp only at m3 m4
  have hm : lmay ⟨2, 0, 0, n, b, till⟩ t.now = 0 := by
    unfold lmay
    simp only
    rw [if_neg (by rw [not_or, not_or]; exact ⟨hb, by omega, by omega⟩), if_neg (by omega)]
  rw [ldo_name _ rfl]
  unfold lnameW
  simp only
  rw [if_neg (by rw [h.ok]; simp), if_neg (by rw [hm]; simp), h1]
  simp only
  rw [if_neg (by unfold lown; simp [h2, hab])]
theorem Named.stays (h : Named t n a 0) (late : Int) : ∃ w an, ldo t ⟨4, 0, 0, [], [], late⟩ = (w, an) ∧ ldo w ⟨3, 0, 0, n, [], 0⟩ = (w, ⟨0, a⟩) := by
  obtain ⟨y, h1, h2, h3⟩ := h.there
  have hn := (lfind_some h1).1
  rw [ldo_time _ rfl]
  unfold ltime
  simp only
  split
  · refine ⟨t, _, rfl, ?_⟩
    rw [← h2, ← hn]
    exact ldo_find (by rw [hn]; exact h1)
  · refine ⟨_, _, rfl, ?_⟩
    rw [← h2, ← hn]
    exact ldo_find (lfind_of (List.Pairwise.filter _ h.inv.rise) (List.mem_filter.2 ⟨lfind_mem h1, by unfold live; simp [h3]⟩))
theorem Named.goes (h : Named t n a till) (h0 : 0 < till) : ∃ w an, ldo t ⟨4, 0, 0, [], [], till⟩ = (w, an) ∧ ldo w ⟨3, 0, 0, n, [], 0⟩ = (w, ⟨10, []⟩) := by
  obtain ⟨y, h1, h2, h3⟩ := h.there
  obtain ⟨-, -, m3, m4⟩ := lmay_zero h.may
  simp only at m3 m4
  rw [ldo_time _ rfl]
  unfold ltime
  simp only
  rw [if_neg (by omega)]
  refine ⟨_, _, rfl, ldo_none ?_⟩
  rw [lfind_none (List.Pairwise.filter _ h.inv.rise)]
  intro x hx e
  obtain ⟨x1, x2⟩ := List.mem_filter.1 hx
  have := lfind_of h.inv.rise x1
  rw [e, h1] at this
  obtain rfl := Option.some.inj this
  unfold live at x2
  rw [h3] at x2
  simp at x2
  omega
theorem name_law {s : St} (h : LInv s) (h0 : 0 ≤ till) : ∃ t x, ldo s ⟨2, 0, 0, n, a, till⟩ = (t, x) ∧ x.text.length ≤ n.length ∧ ((x.err ≠ 0 ∧ t = s ∧ x.text = []) ∨ (x = ⟨0, n⟩ ∧ Named t n a till)) := by
  have hst := h.step (c := ⟨2, 0, 0, n, a, till⟩) h0
  revert hst
  rw [ldo_name _ rfl]
  intro hst
  cases ha : isAlias n with
  | false =>
    have e : lnameW lfind lwith s ⟨2, 0, 0, n, a, till⟩ = (s, ⟨9, []⟩) := if_pos ha
    exact ⟨_, _, e, by simp, .inl ⟨by simp, rfl, rfl⟩⟩
  | true =>
  by_cases hm : lmay ⟨2, 0, 0, n, a, till⟩ s.now = 0
  case neg =>
    have e : lnameW lfind lwith s ⟨2, 0, 0, n, a, till⟩ = (s, ⟨lmay ⟨2, 0, 0, n, a, till⟩ s.now, []⟩) := by unfold lnameW; rw [if_neg (by simp [ha]), if_pos hm]
    exact ⟨_, _, e, by simp, .inl ⟨hm, rfl, rfl⟩⟩
  cases hf : lfind s.links n with
  | some y =>
    by_cases ho : lown ⟨2, 0, 0, n, a, till⟩ y = true
    · have e : lnameW lfind lwith s ⟨2, 0, 0, n, a, till⟩ = (s, ⟨0, n⟩) := by unfold lnameW; simp only; rw [if_neg (by simp [ha]), if_neg (by simp [hm]), hf]; simp only; rw [if_pos ho]
      exact ⟨_, _, e, by simp, .inr ⟨rfl, h, ha, hm, y, hf, lown_eq ho⟩⟩
    · have e : lnameW lfind lwith s ⟨2, 0, 0, n, a, till⟩ = (s, ⟨11, []⟩) := by unfold lnameW; simp only; rw [if_neg (by simp [ha]), if_neg (by simp [hm]), hf]; simp only; rw [if_neg ho]
      exact ⟨_, _, e, by simp, .inl ⟨by simp, rfl, rfl⟩⟩
  | none =>
    by_cases hl : 40 ≤ s.links.length
    · have e : lnameW lfind lwith s ⟨2, 0, 0, n, a, till⟩ = (s, ⟨12, []⟩) := by unfold lnameW; simp only; rw [if_neg (by simp [ha]), if_neg (by simp [hm]), hf]; simp only; rw [if_pos hl]
      exact ⟨_, _, e, by simp, .inl ⟨by simp, rfl, rfl⟩⟩
    · have e : lnameW lfind lwith s ⟨2, 0, 0, n, a, till⟩ = (⟨s.now, s.count, lkput s.links ⟨n, a, till, false⟩, s.sess⟩, ⟨0, n⟩) := by
        unfold lnameW; simp only; rw [if_neg (by simp [ha]), if_neg (by simp [hm]), hf]; simp only; rw [if_neg hl, lwith_new (x := ⟨n, a, till, false⟩) hf]
      rw [e] at hst
      exact ⟨_, _, e, by simp, .inr ⟨rfl, hst, ha, hm, _, lkput_find (x := ⟨n, a, till, false⟩) h.rise hf, rfl, rfl⟩⟩
end Go.Proofs.Ytggfemdgccgbpaa

/- LinksTaken. -/
namespace Go.Proofs.Ytggfemdgccgbpaa
set_option linter.unusedVariables false
set_option linter.unusedSimpArgs false
set_option linter.unnecessarySimpa false
set_option maxRecDepth 100000
open Go.RowKit
abbrev nmB : Bytes := [115, 111, 109, 101, 45, 110, 97, 109, 101]
set_option maxHeartbeats 12800000 in
theorem linksTaken_walk (x : Value) (b : Bytes) (av bv : ByteArray) (n : Int) (w : World) (hx : Bs w x b) (ha : av.size ≤ maxLen) (hb : bv.size ≤ maxLen) (hn : 0 ≤ n ∧ n ≤ 65535) :
    Calls Try.prog 6 #[x, .string av, .string bv, .int .u16 n] w fun e w' => e = .returned (.bool true) ∧ Ext w w' := by
  obtain ⟨u, rfl⟩ : ∃ u : Bytes, av = ⟨u.toArray⟩ := ⟨av.data.toList, by simp⟩
  obtain ⟨v, rfl⟩ : ∃ v : Bytes, bv = ⟨v.toArray⟩ := ⟨bv.data.toList, by simp⟩
  change Calls Try.prog 6 #[x, str u, str v, .int .u16 n] w _
  obtain ⟨Ax, cx, rfl, -, -, -⟩ := id hx
  have hul : (u.length : Int) ≤ 9223372036854775807 := by simp [ByteArray.size, maxLen] at ha; omega
  have hvl : (v.length : Int) ≤ 9223372036854775807 := by simp [ByteArray.size, maxLen] at hb; omega
  go_enter Try.func6, Try.ntmps6
  go_wp2_with fail
  refine (begun18_b w).mono ?_
  rintro e w1 ⟨rfl, hx1⟩
  rcases Bool.eq_false_or_eq_true (decide ((80 : Int) < b.length)) with f1 | f1
  · go_wp2_with fail
    go_ret
    exact ⟨rfl, hx1⟩
  rcases Bool.eq_false_or_eq_true (decide ((20 : Int) < u.length)) with f2 | f2
  · go_wp2_with fail
    go_ret
    exact ⟨rfl, hx1⟩
  rcases Bool.eq_false_or_eq_true (decide ((20 : Int) < v.length)) with f3 | f3
  · go_wp2_with fail
    go_ret
    exact ⟨rfl, hx1⟩
  rcases Bool.eq_false_or_eq_true ((u.length : Int) == 0) with f4 | f4
  · go_wp2_with fail
    go_ret
    exact ⟨rfl, hx1⟩
  rcases Bool.eq_false_or_eq_true ((v.length : Int) == 0) with f5 | f5
  · go_wp2_with fail
    go_ret
    exact ⟨rfl, hx1⟩
  rcases Bool.eq_false_or_eq_true (u == v) with f6 | f6
  · go_wp2_with fail
    go_ret
    exact ⟨rfl, hx1⟩
  have HB : Hid (b.length ≤ 80) := hide (by have := of_decide_eq_false f1; omega)
  have HU : Hid (u.length ≤ 20) := hide (by have := of_decide_eq_false f2; omega)
  have HV : Hid (v.length ≤ 20) := hide (by have := of_decide_eq_false f3; omega)
  have HVN : Hid (v ≠ []) := hide (by rintro rfl; simp at f5)
  have HUV : Hid (u ≠ v) := hide (by simpa using f6)
  go_wp2_with fail
  refine (run_b _ b w1 (hx.ext hx1) (by have := HB.out; omega)).mono ?_
  rintro e w2 ⟨s, A0, c0, B0, d0, hi, hse, rfl, hr, hxd⟩
  replace hx1 := hx1.trans' hxd
  clear hxd
  obtain ⟨t, a, e1, e2, e3⟩ := name_law (n := nmB) (a := u) (till := n) hi hn.1
  have hit := hi.step (c := ⟨2, 0, 0, nmB, u, n⟩) hn.1
  have hst := (ldo_sess s ⟨2, 0, 0, nmB, u, n⟩).trans hse
  rw [e1] at hit hst
  have HSE := hide hse
  have HST := hide hst
  clear hse hst
  have hcw : ∀ z : Bytes, z.length ≤ 20 → Cm.wide ⟨2, 0, 0, nmB, z, n⟩ := fun z hz => ⟨by simp, by simp, by simp, by simp, by simp, by simp, by simp [maxLen, nmB], by simp only [maxLen]; omega, hn.1, by simp only; omega⟩
  have H1 := hide (fun W cs h => ldoL_b noneAt s cs ⟨2, 0, 0, nmB, u, n⟩ W (fun _ h => h.elim) h hi HSE.out (hcw u HU.out) (by have := HU.out; simp only; omega) (by simp [nmB]))
  rw [e1] at H1
  have HE := hide e3
  clear e3
  obtain ⟨hS, hC, hz⟩ := two_al w2 28 37 (#[.int .u64 s.now, .int .u64 s.count, .slice A0 s.links.length c0, .slice B0 s.sess.length d0]) (#[.int .i64 2, .int .i64 0, .int .u64 0, str nmB, str u, .int .u64 n])
  obtain ⟨g1, hg⟩ : ∃ g_, w2.heap.size = g_ := ⟨_, rfl⟩
  replace hr := stE.ext hr hz
  replace hx1 := hx1.trans' hz
  clear hz
  rw [hg] at hS hC
  go_upto_region 7 with fail
  try rw [hg]
  clear hg
  generalize ((w2.alloc (.cells (#[.int .u64 s.now, .int .u64 s.count, .slice A0 s.links.length c0, .slice B0 s.sess.length d0]) 28)).alloc (.cells (#[.int .i64 2, .int .i64 0, .int .u64 0, str nmB, str u, .int .u64 n]) 37)) = w3 at *
  have hS_0 := (hS.cell 0).trans rfl
  have hS_1 := (hS.cell 1).trans rfl
  have hS_2 := (hS.cell 2).trans rfl
  have hS_3 := (hS.cell 3).trans rfl
  have hC_0 := (hC.cell 0).trans rfl
  have hC_1 := (hC.cell 1).trans rfl
  have hC_2 := (hC.cell 2).trans rfl
  have hC_3 := (hC.cell 3).trans rfl
  have hC_4 := (hC.cell 4).trans rfl
  have hC_5 := (hC.cell 5).trans rfl
  go_wp2_with fail
  refine (H1.out _ _ hr).mono ?_
  rintro e w4 hret
  obtain ⟨A1, c1, B1, d1, rfl, hrt, hxd⟩ := hret.at
  clear hret
  clear hS_0 hS_1 hS_2 hS_3 hC_0 hC_1 hC_2 hC_3 hC_4 hC_5
  replace hS := hS.ext hxd
  replace hC := hC.ext hxd
  replace hr := stE.ext hr hxd
  replace hx1 := hx1.trans' hxd
  clear hxd
  obtain ⟨hT, hA, hz⟩ := two_al w4 28 33 (#[.int .u64 t.now, .int .u64 t.count, .slice A1 t.links.length c1, .slice B1 t.sess.length d1]) (#[.int .i64 a.err, str a.text])
  obtain ⟨g2, hg⟩ : ∃ g_, w4.heap.size = g_ := ⟨_, rfl⟩
  replace hS := hS.ext hz
  replace hC := hC.ext hz
  replace hr := stE.ext hr hz
  replace hrt := stE.ext hrt hz
  replace hx1 := hx1.trans' hz
  clear hz
  rw [hg] at hT hA
  go_upto_region 8 with fail
  try rw [hg]
  clear hg
  generalize ((w4.alloc (.cells (#[.int .u64 t.now, .int .u64 t.count, .slice A1 t.links.length c1, .slice B1 t.sess.length d1]) 28)).alloc (.cells (#[.int .i64 a.err, str a.text]) 33)) = w5 at *
  rcases HE.out with ⟨h0, h1, h2⟩ | ⟨h1, hN⟩
  · clear HE
    obtain ⟨er, tx⟩ := a
    simp only at h0 h2
    subst h2 h1
    simp only at hA
    have h0n : (er != 0) = true := by simpa using h0
    have hA_0 := (hA.cell 0).trans rfl
    have hA_1 := (hA.cell 1).trans rfl
    have hS_0 := (hS.cell 0).trans rfl
    have hS_1 := (hS.cell 1).trans rfl
    have hS_2 := (hS.cell 2).trans rfl
    have hS_3 := (hS.cell 3).trans rfl
    have hT_0 := (hT.cell 0).trans rfl
    have hT_1 := (hT.cell 1).trans rfl
    have hT_2 := (hT.cell 2).trans rfl
    have hT_3 := (hT.cell 3).trans rfl
    go_wp2_with fail
    refine (sameL_b _ _ _ _ HST.out hr hrt).mono ?_
    rintro e w8 ⟨rfl, hxd⟩
    clear hA_0 hA_1 hS_0 hS_1 hS_2 hS_3 hT_0 hT_1 hT_2 hT_3
    replace hS := hS.ext hxd
    replace hC := hC.ext hxd
    replace hT := hT.ext hxd
    replace hA := hA.ext hxd
    replace hr := stE.ext hr hxd
    replace hrt := stE.ext hrt hxd
    replace hx1 := hx1.trans' hxd
    clear hxd
    go_wp2_with fail
    go_ret
    exact ⟨rfl, hx1⟩
  · clear HE
    subst h1
    simp only at hA
    have H2 := hide (fun W cs h => ldoL_b noneAt t cs ⟨2, 0, 0, nmB, v, n⟩ W (fun _ h => h.elim) h hit HST.out (hcw v HV.out) (by have := HV.out; simp only; omega) (by simp [nmB]))
    rw [hN.other HVN.out (by have := HV.out; omega) HUV.out] at H2
    have H3 := hide (fun W cs h => ldoL_b noneAt t cs ⟨2, 0, 0, nmB, u, n⟩ W (fun _ h => h.elim) h hit HST.out (hcw u HU.out) (by have := HU.out; simp only; omega) (by simp [nmB]))
    rw [hN.again] at H3
    have hA_0 := (hA.cell 0).trans rfl
    have hA_1 := (hA.cell 1).trans rfl
    have hC_0 := (hC.cell 0).trans rfl
    have hC_1 := (hC.cell 1).trans rfl
    have hC_2 := (hC.cell 2).trans rfl
    have hC_3 := (hC.cell 3).trans rfl
    have hC_4 := (hC.cell 4).trans rfl
    have hC_5 := (hC.cell 5).trans rfl
    obtain ⟨g3, hg⟩ : ∃ g_, w5.heap.size = g_ := ⟨_, rfl⟩
    have hD := Blk.new w5 37 #[.int .i64 2, .int .i64 0, .int .u64 0, str nmB, str v, .int .u64 n]
    rw [hg] at hD
    have hz : Ext w5 (w5.alloc (.cells (#[.int .i64 2, .int .i64 0, .int .u64 0, str nmB, str v, .int .u64 n]) 37)) := (Ext.rfl' w5).alloc' _
    go_upto_region 12 with fail
    try rw [hg]
    clear hA_0 hA_1 hC_0 hC_1 hC_2 hC_3 hC_4 hC_5
    replace hS := hS.ext hz
    replace hC := hC.ext hz
    replace hT := hT.ext hz
    replace hA := hA.ext hz
    replace hr := stE.ext hr hz
    replace hrt := stE.ext hrt hz
    replace hx1 := hx1.trans' hz
    clear hz hg
    generalize w5.alloc (.cells (#[.int .i64 2, .int .i64 0, .int .u64 0, str nmB, str v, .int .u64 n]) 37) = w6 at *
    have hT_0 := (hT.cell 0).trans rfl
    have hT_1 := (hT.cell 1).trans rfl
    have hT_2 := (hT.cell 2).trans rfl
    have hT_3 := (hT.cell 3).trans rfl
    have hD_0 := (hD.cell 0).trans rfl
    have hD_1 := (hD.cell 1).trans rfl
    have hD_2 := (hD.cell 2).trans rfl
    have hD_3 := (hD.cell 3).trans rfl
    have hD_4 := (hD.cell 4).trans rfl
    have hD_5 := (hD.cell 5).trans rfl
    go_wp2_with fail
    refine (H2.out _ _ hrt).mono ?_
    rintro e w7 hret
    obtain ⟨A2, c2, B2, d2, rfl, hru, hxd⟩ := hret.at
    clear hret
    clear hT_0 hT_1 hT_2 hT_3 hD_0 hD_1 hD_2 hD_3 hD_4 hD_5
    replace hS := hS.ext hxd
    replace hC := hC.ext hxd
    replace hT := hT.ext hxd
    replace hA := hA.ext hxd
    replace hD := hD.ext hxd
    replace hr := stE.ext hr hxd
    replace hrt := stE.ext hrt hxd
    replace hx1 := hx1.trans' hxd
    clear hxd
    obtain ⟨hU, hE, hz⟩ := two_al w7 28 33 (#[.int .u64 t.now, .int .u64 t.count, .slice A2 t.links.length c2, .slice B2 t.sess.length d2]) (#[.int .i64 11, str []])
    obtain ⟨g4, hg⟩ : ∃ g_, w7.heap.size = g_ := ⟨_, rfl⟩
    replace hS := hS.ext hz
    replace hC := hC.ext hz
    replace hT := hT.ext hz
    replace hA := hA.ext hz
    replace hD := hD.ext hz
    replace hr := stE.ext hr hz
    replace hrt := stE.ext hrt hz
    replace hru := stE.ext hru hz
    replace hx1 := hx1.trans' hz
    clear hz
    rw [hg] at hU hE
    go_upto_region 13 with fail
    try rw [hg]
    clear hg
    generalize ((w7.alloc (.cells (#[.int .u64 t.now, .int .u64 t.count, .slice A2 t.links.length c2, .slice B2 t.sess.length d2]) 28)).alloc (.cells (#[.int .i64 11, str []]) 33)) = w8 at *
    have hT_0 := (hT.cell 0).trans rfl
    have hT_1 := (hT.cell 1).trans rfl
    have hT_2 := (hT.cell 2).trans rfl
    have hT_3 := (hT.cell 3).trans rfl
    have hC_0 := (hC.cell 0).trans rfl
    have hC_1 := (hC.cell 1).trans rfl
    have hC_2 := (hC.cell 2).trans rfl
    have hC_3 := (hC.cell 3).trans rfl
    have hC_4 := (hC.cell 4).trans rfl
    have hC_5 := (hC.cell 5).trans rfl
    go_wp2_with fail
    refine (H3.out _ _ hrt).mono ?_
    rintro e w9 hret
    obtain ⟨A3, c3, B3, d3, rfl, hrv, hxd⟩ := hret.at
    clear hret
    clear hT_0 hT_1 hT_2 hT_3 hC_0 hC_1 hC_2 hC_3 hC_4 hC_5
    replace hS := hS.ext hxd
    replace hC := hC.ext hxd
    replace hT := hT.ext hxd
    replace hA := hA.ext hxd
    replace hD := hD.ext hxd
    replace hU := hU.ext hxd
    replace hE := hE.ext hxd
    replace hr := stE.ext hr hxd
    replace hrt := stE.ext hrt hxd
    replace hru := stE.ext hru hxd
    replace hx1 := hx1.trans' hxd
    clear hxd
    obtain ⟨hV, hF, hz⟩ := two_al w9 28 33 (#[.int .u64 t.now, .int .u64 t.count, .slice A3 t.links.length c3, .slice B3 t.sess.length d3]) (#[.int .i64 0, str nmB])
    obtain ⟨g5, hg⟩ : ∃ g_, w9.heap.size = g_ := ⟨_, rfl⟩
    replace hS := hS.ext hz
    replace hC := hC.ext hz
    replace hT := hT.ext hz
    replace hA := hA.ext hz
    replace hD := hD.ext hz
    replace hU := hU.ext hz
    replace hE := hE.ext hz
    replace hr := stE.ext hr hz
    replace hrt := stE.ext hrt hz
    replace hru := stE.ext hru hz
    replace hrv := stE.ext hrv hz
    replace hx1 := hx1.trans' hz
    clear hz
    rw [hg] at hV hF
    go_upto_region 14 with fail
    try rw [hg]
    clear hg
    generalize ((w9.alloc (.cells (#[.int .u64 t.now, .int .u64 t.count, .slice A3 t.links.length c3, .slice B3 t.sess.length d3]) 28)).alloc (.cells (#[.int .i64 0, str nmB]) 33)) = w10 at *
    have hnow0 := hit.now0
    have hnow1 := hit.now1
    rcases Int.lt_or_eq_of_le hn.1 with hp | hp
    · obtain ⟨ws, an, e5, e6⟩ := hN.goes hp
      have hiw := hit.step (c := ⟨4, 0, 0, [], [], n⟩) (by simp only; omega)
      have hsw := (ldo_sess t ⟨4, 0, 0, [], [], n⟩).trans HST.out
      rw [e5] at hiw hsw
      have HSW := hide hsw
      clear hsw
      have H4 := hide (fun W cs h => ldoL_b noneAt t cs ⟨4, 0, 0, [], [], n⟩ W (fun _ h => h.elim) h hit HST.out ⟨by simp, by simp, by simp, by simp, by simp, by simp, by simp [maxLen], by simp [maxLen], by simp only; omega, by simp only; omega⟩ (by simp) (by simp))
      rw [e5] at H4
      have H5 := hide (fun W cs h => ldoL_b noneAt ws cs ⟨3, 0, 0, nmB, [], 0⟩ W (fun _ h => h.elim) h hiw HSW.out ⟨by simp, by simp, by simp, by simp, by simp, by simp, by simp [maxLen, nmB], by simp [maxLen], by simp, by simp⟩ (by simp) (by simp [nmB]))
      rw [e6] at H5
      have hT_0 := (hT.cell 0).trans rfl
      have hT_1 := (hT.cell 1).trans rfl
      have hT_2 := (hT.cell 2).trans rfl
      have hT_3 := (hT.cell 3).trans rfl
      go_wp2_with fail
      refine (H4.out _ _ hrt).mono ?_
      rintro e w11 hret
      obtain ⟨A4, c4, B4, d4, rfl, hrw, hxd⟩ := hret.at
      clear hret
      clear hT_0 hT_1 hT_2 hT_3
      replace hS := hS.ext hxd
      replace hC := hC.ext hxd
      replace hT := hT.ext hxd
      replace hA := hA.ext hxd
      replace hD := hD.ext hxd
      replace hU := hU.ext hxd
      replace hE := hE.ext hxd
      replace hV := hV.ext hxd
      replace hF := hF.ext hxd
      replace hr := stE.ext hr hxd
      replace hrt := stE.ext hrt hxd
      replace hru := stE.ext hru hxd
      replace hrv := stE.ext hrv hxd
      replace hx1 := hx1.trans' hxd
      clear hxd
      obtain ⟨hY, hJ, hz⟩ := two_al w11 28 33 (#[.int .u64 ws.now, .int .u64 ws.count, .slice A4 ws.links.length c4, .slice B4 ws.sess.length d4]) (#[.int .i64 an.err, str an.text])
      obtain ⟨g6, hg⟩ : ∃ g_, w11.heap.size = g_ := ⟨_, rfl⟩
      replace hS := hS.ext hz
      replace hC := hC.ext hz
      replace hT := hT.ext hz
      replace hA := hA.ext hz
      replace hD := hD.ext hz
      replace hU := hU.ext hz
      replace hE := hE.ext hz
      replace hV := hV.ext hz
      replace hF := hF.ext hz
      replace hr := stE.ext hr hz
      replace hrt := stE.ext hrt hz
      replace hru := stE.ext hru hz
      replace hrv := stE.ext hrv hz
      replace hrw := stE.ext hrw hz
      replace hx1 := hx1.trans' hz
      clear hz
      rw [hg] at hY hJ
      go_upto_region 18 with fail
      try rw [hg]
      clear hg
      generalize ((w11.alloc (.cells (#[.int .u64 ws.now, .int .u64 ws.count, .slice A4 ws.links.length c4, .slice B4 ws.sess.length d4]) 28)).alloc (.cells (#[.int .i64 an.err, str an.text]) 33)) = w12 at *
      have hY_0 := (hY.cell 0).trans rfl
      have hY_1 := (hY.cell 1).trans rfl
      have hY_2 := (hY.cell 2).trans rfl
      have hY_3 := (hY.cell 3).trans rfl
      go_wp2_with fail
      refine (H5.out _ _ hrw).mono ?_
      rintro e w13 hret
      obtain ⟨A5, c5, B5, d5, rfl, hrx, hxd⟩ := hret.at
      clear hret
      clear hY_0 hY_1 hY_2 hY_3
      replace hS := hS.ext hxd
      replace hC := hC.ext hxd
      replace hT := hT.ext hxd
      replace hA := hA.ext hxd
      replace hD := hD.ext hxd
      replace hU := hU.ext hxd
      replace hE := hE.ext hxd
      replace hV := hV.ext hxd
      replace hF := hF.ext hxd
      replace hY := hY.ext hxd
      replace hJ := hJ.ext hxd
      replace hr := stE.ext hr hxd
      replace hrt := stE.ext hrt hxd
      replace hru := stE.ext hru hxd
      replace hrv := stE.ext hrv hxd
      replace hrw := stE.ext hrw hxd
      replace hx1 := hx1.trans' hxd
      clear hxd
      obtain ⟨hZ, hG, hz⟩ := two_al w13 28 33 (#[.int .u64 ws.now, .int .u64 ws.count, .slice A5 ws.links.length c5, .slice B5 ws.sess.length d5]) (#[.int .i64 10, str []])
      obtain ⟨g7, hg⟩ : ∃ g_, w13.heap.size = g_ := ⟨_, rfl⟩
      replace hS := hS.ext hz
      replace hC := hC.ext hz
      replace hT := hT.ext hz
      replace hA := hA.ext hz
      replace hD := hD.ext hz
      replace hU := hU.ext hz
      replace hE := hE.ext hz
      replace hV := hV.ext hz
      replace hF := hF.ext hz
      replace hY := hY.ext hz
      replace hJ := hJ.ext hz
      replace hr := stE.ext hr hz
      replace hrt := stE.ext hrt hz
      replace hru := stE.ext hru hz
      replace hrv := stE.ext hrv hz
      replace hrw := stE.ext hrw hz
      replace hrx := stE.ext hrx hz
      replace hx1 := hx1.trans' hz
      clear hz
      rw [hg] at hZ hG
      go_upto_region 19 with fail
      try rw [hg]
      clear hg
      generalize ((w13.alloc (.cells (#[.int .u64 ws.now, .int .u64 ws.count, .slice A5 ws.links.length c5, .slice B5 ws.sess.length d5]) 28)).alloc (.cells (#[.int .i64 10, str []]) 33)) = w14 at *
      have hA_0 := (hA.cell 0).trans rfl
      have hA_1 := (hA.cell 1).trans rfl
      have hE_0 := (hE.cell 0).trans rfl
      have hE_1 := (hE.cell 1).trans rfl
      have hU_0 := (hU.cell 0).trans rfl
      have hU_1 := (hU.cell 1).trans rfl
      have hU_2 := (hU.cell 2).trans rfl
      have hU_3 := (hU.cell 3).trans rfl
      have hT_0 := (hT.cell 0).trans rfl
      have hT_1 := (hT.cell 1).trans rfl
      have hT_2 := (hT.cell 2).trans rfl
      have hT_3 := (hT.cell 3).trans rfl
      go_wp2_with fail
      refine (sameL_b _ _ _ _ HST.out hru hrt).mono ?_
      rintro e w15 ⟨rfl, hxd⟩
      clear hA_0 hA_1 hE_0 hE_1 hU_0 hU_1 hU_2 hU_3 hT_0 hT_1 hT_2 hT_3
      replace hS := hS.ext hxd
      replace hC := hC.ext hxd
      replace hT := hT.ext hxd
      replace hA := hA.ext hxd
      replace hD := hD.ext hxd
      replace hU := hU.ext hxd
      replace hE := hE.ext hxd
      replace hV := hV.ext hxd
      replace hF := hF.ext hxd
      replace hY := hY.ext hxd
      replace hJ := hJ.ext hxd
      replace hZ := hZ.ext hxd
      replace hG := hG.ext hxd
      replace hr := stE.ext hr hxd
      replace hrt := stE.ext hrt hxd
      replace hru := stE.ext hru hxd
      replace hrv := stE.ext hrv hxd
      replace hrw := stE.ext hrw hxd
      replace hrx := stE.ext hrx hxd
      replace hx1 := hx1.trans' hxd
      clear hxd
      have hA_0 := (hA.cell 0).trans rfl
      have hA_1 := (hA.cell 1).trans rfl
      have hF_0 := (hF.cell 0).trans rfl
      have hF_1 := (hF.cell 1).trans rfl
      have hV_0 := (hV.cell 0).trans rfl
      have hV_1 := (hV.cell 1).trans rfl
      have hV_2 := (hV.cell 2).trans rfl
      have hV_3 := (hV.cell 3).trans rfl
      have hT_0 := (hT.cell 0).trans rfl
      have hT_1 := (hT.cell 1).trans rfl
      have hT_2 := (hT.cell 2).trans rfl
      have hT_3 := (hT.cell 3).trans rfl
      go_wp2_with fail
      refine (sameL_b _ _ _ _ HST.out hrv hrt).mono ?_
      rintro e w16 ⟨rfl, hxd⟩
      clear hA_0 hA_1 hF_0 hF_1 hV_0 hV_1 hV_2 hV_3 hT_0 hT_1 hT_2 hT_3
      replace hS := hS.ext hxd
      replace hC := hC.ext hxd
      replace hT := hT.ext hxd
      replace hA := hA.ext hxd
      replace hD := hD.ext hxd
      replace hU := hU.ext hxd
      replace hE := hE.ext hxd
      replace hV := hV.ext hxd
      replace hF := hF.ext hxd
      replace hY := hY.ext hxd
      replace hJ := hJ.ext hxd
      replace hZ := hZ.ext hxd
      replace hG := hG.ext hxd
      replace hr := stE.ext hr hxd
      replace hrt := stE.ext hrt hxd
      replace hru := stE.ext hru hxd
      replace hrv := stE.ext hrv hxd
      replace hrw := stE.ext hrw hxd
      replace hrx := stE.ext hrx hxd
      replace hx1 := hx1.trans' hxd
      clear hxd
      have hG_0 := (hG.cell 0).trans rfl
      have hG_1 := (hG.cell 1).trans rfl
      go_wp2_with fail
      go_ret
      exact ⟨rfl, hx1⟩
    · subst hp
      obtain ⟨ws, an, e5, e6⟩ := hN.stays (t.now + 1)
      have hiw := hit.step (c := ⟨4, 0, 0, [], [], (t.now + 1)⟩) (by simp only; omega)
      have hsw := (ldo_sess t ⟨4, 0, 0, [], [], (t.now + 1)⟩).trans HST.out
      rw [e5] at hiw hsw
      have HSW := hide hsw
      clear hsw
      have H4 := hide (fun W cs h => ldoL_b noneAt t cs ⟨4, 0, 0, [], [], (t.now + 1)⟩ W (fun _ h => h.elim) h hit HST.out ⟨by simp, by simp, by simp, by simp, by simp, by simp, by simp [maxLen], by simp [maxLen], by simp only; omega, by simp only; omega⟩ (by simp) (by simp))
      rw [e5] at H4
      have H5 := hide (fun W cs h => ldoL_b noneAt ws cs ⟨3, 0, 0, nmB, [], 0⟩ W (fun _ h => h.elim) h hiw HSW.out ⟨by simp, by simp, by simp, by simp, by simp, by simp, by simp [maxLen, nmB], by simp [maxLen], by simp, by simp⟩ (by simp) (by simp [nmB]))
      rw [e6] at H5
      have hT_0 := (hT.cell 0).trans rfl
      have hT_1 := (hT.cell 1).trans rfl
      have hT_2 := (hT.cell 2).trans rfl
      have hT_3 := (hT.cell 3).trans rfl
      go_wp2_with fail
      refine (H4.out _ _ hrt).mono ?_
      rintro e w11 hret
      obtain ⟨A4, c4, B4, d4, rfl, hrw, hxd⟩ := hret.at
      clear hret
      clear hT_0 hT_1 hT_2 hT_3
      replace hS := hS.ext hxd
      replace hC := hC.ext hxd
      replace hT := hT.ext hxd
      replace hA := hA.ext hxd
      replace hD := hD.ext hxd
      replace hU := hU.ext hxd
      replace hE := hE.ext hxd
      replace hV := hV.ext hxd
      replace hF := hF.ext hxd
      replace hr := stE.ext hr hxd
      replace hrt := stE.ext hrt hxd
      replace hru := stE.ext hru hxd
      replace hrv := stE.ext hrv hxd
      replace hx1 := hx1.trans' hxd
      clear hxd
      obtain ⟨hY, hJ, hz⟩ := two_al w11 28 33 (#[.int .u64 ws.now, .int .u64 ws.count, .slice A4 ws.links.length c4, .slice B4 ws.sess.length d4]) (#[.int .i64 an.err, str an.text])
      obtain ⟨g6, hg⟩ : ∃ g_, w11.heap.size = g_ := ⟨_, rfl⟩
      replace hS := hS.ext hz
      replace hC := hC.ext hz
      replace hT := hT.ext hz
      replace hA := hA.ext hz
      replace hD := hD.ext hz
      replace hU := hU.ext hz
      replace hE := hE.ext hz
      replace hV := hV.ext hz
      replace hF := hF.ext hz
      replace hr := stE.ext hr hz
      replace hrt := stE.ext hrt hz
      replace hru := stE.ext hru hz
      replace hrv := stE.ext hrv hz
      replace hrw := stE.ext hrw hz
      replace hx1 := hx1.trans' hz
      clear hz
      rw [hg] at hY hJ
      go_upto_region 18 with fail
      try rw [hg]
      clear hg
      generalize ((w11.alloc (.cells (#[.int .u64 ws.now, .int .u64 ws.count, .slice A4 ws.links.length c4, .slice B4 ws.sess.length d4]) 28)).alloc (.cells (#[.int .i64 an.err, str an.text]) 33)) = w12 at *
      have hY_0 := (hY.cell 0).trans rfl
      have hY_1 := (hY.cell 1).trans rfl
      have hY_2 := (hY.cell 2).trans rfl
      have hY_3 := (hY.cell 3).trans rfl
      go_wp2_with fail
      refine (H5.out _ _ hrw).mono ?_
      rintro e w13 hret
      obtain ⟨A5, c5, B5, d5, rfl, hrx, hxd⟩ := hret.at
      clear hret
      clear hY_0 hY_1 hY_2 hY_3
      replace hS := hS.ext hxd
      replace hC := hC.ext hxd
      replace hT := hT.ext hxd
      replace hA := hA.ext hxd
      replace hD := hD.ext hxd
      replace hU := hU.ext hxd
      replace hE := hE.ext hxd
      replace hV := hV.ext hxd
      replace hF := hF.ext hxd
      replace hY := hY.ext hxd
      replace hJ := hJ.ext hxd
      replace hr := stE.ext hr hxd
      replace hrt := stE.ext hrt hxd
      replace hru := stE.ext hru hxd
      replace hrv := stE.ext hrv hxd
      replace hrw := stE.ext hrw hxd
      replace hx1 := hx1.trans' hxd
      clear hxd
      obtain ⟨hZ, hG, hz⟩ := two_al w13 28 33 (#[.int .u64 ws.now, .int .u64 ws.count, .slice A5 ws.links.length c5, .slice B5 ws.sess.length d5]) (#[.int .i64 0, str u])
      obtain ⟨g7, hg⟩ : ∃ g_, w13.heap.size = g_ := ⟨_, rfl⟩
      replace hS := hS.ext hz
      replace hC := hC.ext hz
      replace hT := hT.ext hz
      replace hA := hA.ext hz
      replace hD := hD.ext hz
      replace hU := hU.ext hz
      replace hE := hE.ext hz
      replace hV := hV.ext hz
      replace hF := hF.ext hz
      replace hY := hY.ext hz
      replace hJ := hJ.ext hz
      replace hr := stE.ext hr hz
      replace hrt := stE.ext hrt hz
      replace hru := stE.ext hru hz
      replace hrv := stE.ext hrv hz
      replace hrw := stE.ext hrw hz
      replace hrx := stE.ext hrx hz
      replace hx1 := hx1.trans' hz
      clear hz
      rw [hg] at hZ hG
      go_upto_region 19 with fail
      try rw [hg]
      clear hg
      generalize ((w13.alloc (.cells (#[.int .u64 ws.now, .int .u64 ws.count, .slice A5 ws.links.length c5, .slice B5 ws.sess.length d5]) 28)).alloc (.cells (#[.int .i64 0, str u]) 33)) = w14 at *
      have hA_0 := (hA.cell 0).trans rfl
      have hA_1 := (hA.cell 1).trans rfl
      have hE_0 := (hE.cell 0).trans rfl
      have hE_1 := (hE.cell 1).trans rfl
      have hU_0 := (hU.cell 0).trans rfl
      have hU_1 := (hU.cell 1).trans rfl
      have hU_2 := (hU.cell 2).trans rfl
      have hU_3 := (hU.cell 3).trans rfl
      have hT_0 := (hT.cell 0).trans rfl
      have hT_1 := (hT.cell 1).trans rfl
      have hT_2 := (hT.cell 2).trans rfl
      have hT_3 := (hT.cell 3).trans rfl
      go_wp2_with fail
      refine (sameL_b _ _ _ _ HST.out hru hrt).mono ?_
      rintro e w15 ⟨rfl, hxd⟩
      clear hA_0 hA_1 hE_0 hE_1 hU_0 hU_1 hU_2 hU_3 hT_0 hT_1 hT_2 hT_3
      replace hS := hS.ext hxd
      replace hC := hC.ext hxd
      replace hT := hT.ext hxd
      replace hA := hA.ext hxd
      replace hD := hD.ext hxd
      replace hU := hU.ext hxd
      replace hE := hE.ext hxd
      replace hV := hV.ext hxd
      replace hF := hF.ext hxd
      replace hY := hY.ext hxd
      replace hJ := hJ.ext hxd
      replace hZ := hZ.ext hxd
      replace hG := hG.ext hxd
      replace hr := stE.ext hr hxd
      replace hrt := stE.ext hrt hxd
      replace hru := stE.ext hru hxd
      replace hrv := stE.ext hrv hxd
      replace hrw := stE.ext hrw hxd
      replace hrx := stE.ext hrx hxd
      replace hx1 := hx1.trans' hxd
      clear hxd
      have hA_0 := (hA.cell 0).trans rfl
      have hA_1 := (hA.cell 1).trans rfl
      have hF_0 := (hF.cell 0).trans rfl
      have hF_1 := (hF.cell 1).trans rfl
      have hV_0 := (hV.cell 0).trans rfl
      have hV_1 := (hV.cell 1).trans rfl
      have hV_2 := (hV.cell 2).trans rfl
      have hV_3 := (hV.cell 3).trans rfl
      have hT_0 := (hT.cell 0).trans rfl
      have hT_1 := (hT.cell 1).trans rfl
      have hT_2 := (hT.cell 2).trans rfl
      have hT_3 := (hT.cell 3).trans rfl
      go_wp2_with fail
      refine (sameL_b _ _ _ _ HST.out hrv hrt).mono ?_
      rintro e w16 ⟨rfl, hxd⟩
      clear hA_0 hA_1 hF_0 hF_1 hV_0 hV_1 hV_2 hV_3 hT_0 hT_1 hT_2 hT_3
      replace hS := hS.ext hxd
      replace hC := hC.ext hxd
      replace hT := hT.ext hxd
      replace hA := hA.ext hxd
      replace hD := hD.ext hxd
      replace hU := hU.ext hxd
      replace hE := hE.ext hxd
      replace hV := hV.ext hxd
      replace hF := hF.ext hxd
      replace hY := hY.ext hxd
      replace hJ := hJ.ext hxd
      replace hZ := hZ.ext hxd
      replace hG := hG.ext hxd
      replace hr := stE.ext hr hxd
      replace hrt := stE.ext hrt hxd
      replace hru := stE.ext hru hxd
      replace hrv := stE.ext hrv hxd
      replace hrw := stE.ext hrw hxd
      replace hrx := stE.ext hrx hxd
      replace hx1 := hx1.trans' hxd
      clear hxd
      have hG_0 := (hG.cell 0).trans rfl
      have hG_1 := (hG.cell 1).trans rfl
      go_wp2_with fail
      go_ret
      exact ⟨rfl, hx1⟩
end Go.Proofs.Ytggfemdgccgbpaa

/- The statement 'LinksTakenSaid': whatever is handed in, the law answers true, and what was handed in is as it was. -/
namespace Go.Proofs.Ytggfemdgccgbpaa.linksTaken
set_option linter.unusedVariables false
set_option linter.unusedSimpArgs false
set_option linter.unnecessarySimpa false
set_option maxRecDepth 100000
open Go.ChangeShapes Go.WideShapes Go.ChangeAt Go.RowKit
open Go.ChangeMaps (open_string shut_string)

set_option maxRecDepth 100000 in
set_option maxHeartbeats 2000000 in
theorem lifted (os : Os) (started : os.Started) (H : Type) (enc : TypeId × Value → H) :
    ReturnsInHanded {} Try.checked os 6 .any (Rows.linksTakenSpec.pre6 enc Try.prog Try.f6 Rows.linksTakenRow.domain false) (Rows.linksTakenSpec.post enc Try.prog Try.f6 false true false false) := by
  refine returnsInHanded_of_change (C := Try.checked) own started (by kernel_rfl) Try.func6
    (ChangeSpec.witness6 (enc := enc) (C := Try.checked) false ⟨#[], #[.slice none 0 0, .string ByteArray.empty, .string ByteArray.empty, .int .u16 0], []⟩ 8 (by kernel_rfl) (by kernel_rfl) (by kernel_rfl) (by kernel_rfl)) ?_
  intro W base args ds gs before hval0 hW hcnd _
  have hval : ∀ (j : Nat) t v, Try.f6.params[j]? = some t → args[j]? = some v → Value.okWide Try.prog W .any base t v := hval0
  have hW' := hW
  obtain ⟨p, q, hA0, hV, rfl, hfz, hnd⟩ := hW
  have hA : DataW.TrodAll enc Try.prog W 0 (fun _ => true) true Try.f6.params.toList args.toList ds p := hA0
  rw [Try.params6] at hA hval
  obtain ⟨v0, vs0, d0, ds0, p0, q0, hargs, rfl, rfl, h0, r0⟩ := trodAll_cons hA
  obtain ⟨v1, vs1, d1, ds1, p1, q1, rfl, rfl, rfl, h1, r1⟩ := trodAll_cons r0
  obtain ⟨v2, vs2, d2, ds2, p2, q2, rfl, rfl, rfl, h2, r2⟩ := trodAll_cons r1
  obtain ⟨v3, vs3, d3, ds3, p3, q3, rfl, rfl, rfl, h3, r3⟩ := trodAll_cons r2
  obtain ⟨rfl, rfl, rfl⟩ := trodAll_nil r3
  obtain rfl : args = #[v0, v1, v2, v3] := by cases args; simp_all
  obtain ⟨rfl, rfl⟩ := trodVars_none hV
  obtain ⟨a0, len0, cap0, rfl⟩ := okWide_slice Try.underlying22 (hval 0 22 v0 rfl rfl)
  have k0 := h0
  have lt0 : ∀ x ∈ p0, x.block < W.heap.size := by obtain ⟨m, hm⟩ := k0; exact DataW.trod_lt m _ _ _ hm
  obtain ⟨b0, hb0⟩ : ∃ b, Bs W (.slice a0 len0 cap0) b := by
    obtain ⟨fuel, hf⟩ := h0
    rcases open_ints Try.underlying22 Try.underlying5 (by kernel_rfl) hf with ⟨hcs, _⟩ | ⟨x, l, c, zs, hcs, _, hl, hm, hz, _, hcell, hwz⟩
    · simp [Value.cells] at hcs
      obtain ⟨rfl, rfl, rfl⟩ := hcs
      exact ⟨[], bs_none⟩
    · simp [Value.cells] at hcs
      obtain ⟨rfl, rfl, rfl⟩ := hcs
      exact bs_of_ints hl hm (by simpa using hz) hcell hwz
  obtain ⟨a1, rfl, rfl, rfl, w1⟩ := open_string Try.underlying9 (hval 1 9 v1 rfl rfl) h1
  obtain ⟨a2, rfl, rfl, rfl, w2⟩ := open_string Try.underlying9 (hval 2 9 v2 rfl rfl) h2
  obtain ⟨a3, rfl, rfl, rfl, w3⟩ := open_int Try.underlying45 (hval 3 45 v3 rfl rfl) h3
  have i3 := w3
  simp [Lit.wf, IntKind.min, IntKind.max, IntKind.bits, IntKind.signed] at i3
  clear hA0 hval0
  refine (linksTaken_walk _ b0 a1 a2 a3 W hb0 w1 w2 i3).mono fun e W' ⟨he, bel⟩ => ?_
  subst he
  exact ⟨_, rfl, _, _, _, [], _, [], hW', trodAll_mk1 (shut_bool Try.underlying4 _), (trodAll_cons_mk (Below.trod laidOut (by kernel_rfl) (of_decide_eq_true (by kernel_rfl)) k0 bel lt0) (trodAll_cons_mk (shut_string Try.underlying9 w1) (trodAll_cons_mk (shut_string Try.underlying9 w2) (trodAll_cons_mk (shut_int Try.underlying45 w3) trodAll_mk0)))), rfl, bel.frame _, fun h => by cases h⟩

theorem over : Rows.linksTakenRow.holds Try.pinned (OpenSpec.ofChange Rows.linksTakenSpec) :=
  OpenClaim.holds_of_wide 6 Try.f6 rfl rfl rfl rfl rfl rfl rfl ⟨rfl, rfl, rfl, rfl, rfl⟩ rfl rfl rfl rfl rfl (by kernel_rfl) Try.func6 (by kernel_rfl)
    (of_decide_eq_true (by kernel_rfl)) (by unfold Func.isWrapper; first | (rw [if_pos (by decide +kernel)]; kernel_rfl) | (rw [if_neg (by decide +kernel)]; exact ⟨rfl, rfl⟩))
    (fun os started H enc _ => lifted os started H enc)

/-- THE STATEMENT -/
theorem proved : Rows.LinksTakenSaid := over
#print axioms proved
end Go.Proofs.Ytggfemdgccgbpaa.linksTaken

