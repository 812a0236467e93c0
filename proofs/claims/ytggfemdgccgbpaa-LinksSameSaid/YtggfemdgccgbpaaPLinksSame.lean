import Derived.Test.YtggfemdgccgbpaaPk36
import Derived.Test.YtggfemdgccgbpaaPk1
/- LinksSame. -/
namespace Go.Proofs.Ytggfemdgccgbpaa
set_option linter.unusedVariables false
set_option linter.unusedSimpArgs false
set_option linter.unnecessarySimpa false
set_option maxRecDepth 100000
open Go.RowKit
set_option maxHeartbeats 6400000 in
theorem linksSame_walk (x : Value) (b : Bytes) (sv : ByteArray) (n : Int) (w : World) (hx : Bs w x b) (hs : sv.size ≤ maxLen) (hn : 0 ≤ n ∧ n ≤ 4294967295) :
    Calls Try.prog 5 #[x, .string sv, .int .u32 n] w fun e w' => e = .returned (.bool true) ∧ Ext w w' := by
  obtain ⟨u, rfl⟩ : ∃ u : Bytes, sv = ⟨u.toArray⟩ := ⟨sv.data.toList, by simp⟩
  change Calls Try.prog 5 #[x, str u, .int .u32 n] w _
  obtain ⟨Ax, cx, rfl, -, -, -⟩ := id hx
  have hul : (u.length : Int) ≤ 9223372036854775807 := by simp [ByteArray.size, maxLen] at hs; omega
  go_enter Try.func5, Try.ntmps5
  go_wp2_with fail
  refine (begun18_b w).mono ?_
  rintro e w1 ⟨rfl, hx1⟩
  rcases Bool.eq_false_or_eq_true (decide ((100 : Int) < b.length) || decide ((30 : Int) < u.length) || ((u.length : Int) == 0)) with hc | hc
  · go_wp2_with fail
    all_goals (go_ret; exact ⟨rfl, hx1⟩)
  have hc' := hc
  simp only [Bool.or_eq_false_iff, decide_eq_false_iff_not] at hc'
  obtain ⟨⟨hb, hu⟩, -⟩ := hc'
  have HB := hide hb
  have HU := hide hu
  clear hb hu
  go_wp2_with fail
  refine (run_b _ b w1 (hx.ext hx1) (by have := HB.out; omega)).mono ?_
  rintro e w2 ⟨s, A0, c0, B0, d0, hi, hse, rfl, hr, hxd⟩
  replace hx1 := hx1.trans' hxd
  clear hxd
  obtain ⟨t, a, e1, e2, e3, e4, e5, e7⟩ := make_law hi (c := ⟨1, 0, 0, [], u, n⟩) rfl
  have hit := hi.step (c := ⟨1, 0, 0, [], u, n⟩) hn.1
  have hst := (ldo_sess s ⟨1, 0, 0, [], u, n⟩).trans hse
  rw [e1] at hit hst
  have HSE := hide hse
  have HST := hide hst
  clear hse hst
  have hcw : Cm.wide ⟨1, 0, 0, [], u, n⟩ := ⟨by simp, by simp, by simp, by simp, by simp, by simp, by simp [maxLen], by have := HU.out; simp only [maxLen]; omega, hn.1, by simp only; omega⟩
  have H1 := hide (fun W cs h => ldoL_b noneAt s cs ⟨1, 0, 0, [], u, n⟩ W (fun _ h => h.elim) h hi HSE.out hcw (by have := HU.out; simp only; omega) (by simp))
  rw [e1] at H1
  have H2 := hide (fun W cs h => ldoL_b noneAt t cs ⟨1, 0, 0, [], u, n⟩ W (fun _ h => h.elim) h hit HST.out hcw (by have := HU.out; simp only; omega) (by simp))
  rw [e2] at H2
  obtain ⟨hS, hC, hz⟩ := two_al w2 28 37 (#[.int .u64 s.now, .int .u64 s.count, .slice A0 s.links.length c0, .slice B0 s.sess.length d0]) (#[.int .i64 1, .int .i64 0, .int .u64 0, str [], str u, .int .u64 n])
  obtain ⟨g1, hg⟩ : ∃ g_, w2.heap.size = g_ := ⟨_, rfl⟩
  replace hr := stE.ext hr hz
  replace hx1 := hx1.trans' hz
  clear hz
  rw [hg] at hS hC
  go_upto_region 7 with fail
  try rw [hg]
  clear hg
  generalize ((w2.alloc (.cells (#[.int .u64 s.now, .int .u64 s.count, .slice A0 s.links.length c0, .slice B0 s.sess.length d0]) 28)).alloc (.cells (#[.int .i64 1, .int .i64 0, .int .u64 0, str [], str u, .int .u64 n]) 37)) = w3 at *
  have hS_0 := (hS.cell 0).trans rfl
  have hS_1 := (hS.cell 1).trans rfl
  have hS_2 := (hS.cell 2).trans rfl
  have hS_3 := (hS.cell 3).trans rfl
  have hC_0 := (hC.cell 0).trans rfl
  have hC_1 := (hC.cell 1).trans rfl
  have hC_2 := (hC.cell 2).trans rfl
  have hC_3 := (hC.cell 3).trans rfl
  have hC_4 := (hC.cell 4).trans rfl
  have hC_5 := (hC.cell 5).trans rfl
  go_wp2_with fail
  refine (H1.out _ _ hr).mono ?_
  rintro e w4 hret
  obtain ⟨A1, c1, B1, d1, rfl, hrt, hxd⟩ := hret.at
  clear hret
  clear hS_0 hS_1 hS_2 hS_3 hC_0 hC_1 hC_2 hC_3 hC_4 hC_5
  replace hS := hS.ext hxd
  replace hC := hC.ext hxd
  replace hr := stE.ext hr hxd
  replace hx1 := hx1.trans' hxd
  clear hxd
  obtain ⟨hT, hA, hz⟩ := two_al w4 28 33 (#[.int .u64 t.now, .int .u64 t.count, .slice A1 t.links.length c1, .slice B1 t.sess.length d1]) (#[.int .i64 a.err, str a.text])
  obtain ⟨g2, hg⟩ : ∃ g_, w4.heap.size = g_ := ⟨_, rfl⟩
  replace hS := hS.ext hz
  replace hC := hC.ext hz
  replace hr := stE.ext hr hz
  replace hrt := stE.ext hrt hz
  replace hx1 := hx1.trans' hz
  clear hz
  rw [hg] at hT hA
  go_upto_region 8 with fail
  try rw [hg]
  clear hg
  generalize ((w4.alloc (.cells (#[.int .u64 t.now, .int .u64 t.count, .slice A1 t.links.length c1, .slice B1 t.sess.length d1]) 28)).alloc (.cells (#[.int .i64 a.err, str a.text]) 33)) = w5 at *
  have hT_0 := (hT.cell 0).trans rfl
  have hT_1 := (hT.cell 1).trans rfl
  have hT_2 := (hT.cell 2).trans rfl
  have hT_3 := (hT.cell 3).trans rfl
  have hC_0 := (hC.cell 0).trans rfl
  have hC_1 := (hC.cell 1).trans rfl
  have hC_2 := (hC.cell 2).trans rfl
  have hC_3 := (hC.cell 3).trans rfl
  have hC_4 := (hC.cell 4).trans rfl
  have hC_5 := (hC.cell 5).trans rfl
  go_wp2_with fail
  refine (H2.out _ _ hrt).mono ?_
  rintro e w6 hret
  obtain ⟨A2, c2, B2, d2, rfl, hru, hxd⟩ := hret.at
  clear hret
  clear hT_0 hT_1 hT_2 hT_3 hC_0 hC_1 hC_2 hC_3 hC_4 hC_5
  replace hS := hS.ext hxd
  replace hC := hC.ext hxd
  replace hT := hT.ext hxd
  replace hA := hA.ext hxd
  replace hr := stE.ext hr hxd
  replace hrt := stE.ext hrt hxd
  replace hx1 := hx1.trans' hxd
  clear hxd
  obtain ⟨hU, hB, hz⟩ := two_al w6 28 33 (#[.int .u64 t.now, .int .u64 t.count, .slice A2 t.links.length c2, .slice B2 t.sess.length d2]) (#[.int .i64 a.err, str a.text])
  obtain ⟨g3, hg⟩ : ∃ g_, w6.heap.size = g_ := ⟨_, rfl⟩
  replace hS := hS.ext hz
  replace hC := hC.ext hz
  replace hT := hT.ext hz
  replace hA := hA.ext hz
  replace hr := stE.ext hr hz
  replace hrt := stE.ext hrt hz
  replace hru := stE.ext hru hz
  replace hx1 := hx1.trans' hz
  clear hz
  rw [hg] at hU hB
  go_upto_region 9 with fail
  try rw [hg]
  clear hg
  generalize ((w6.alloc (.cells (#[.int .u64 t.now, .int .u64 t.count, .slice A2 t.links.length c2, .slice B2 t.sess.length d2]) 28)).alloc (.cells (#[.int .i64 a.err, str a.text]) 33)) = w7 at *
  have hA_0 := (hA.cell 0).trans rfl
  have hA_1 := (hA.cell 1).trans rfl
  rcases Bool.eq_false_or_eq_true (a.err == 0) with h0 | h0
  · have hz : a.err = 0 := by simpa using h0
    have e6 := e4 hz
    have h0n : (a.err != 0) = false := by simp [bne, h0]
    have H3 := hide (fun W cs h => ldoL_b noneAt t cs ⟨3, 0, 0, a.text, [], 0⟩ W (fun _ h => h.elim) h hit HST.out ⟨by simp, by simp, by simp, by simp, by simp, by simp, by simp only [maxLen]; omega, by simp [maxLen], by simp, by simp⟩ (by simp) (by simp only; omega))
    rw [e6] at H3
    have hT_0 := (hT.cell 0).trans rfl
    have hT_1 := (hT.cell 1).trans rfl
    have hT_2 := (hT.cell 2).trans rfl
    have hT_3 := (hT.cell 3).trans rfl
    go_wp2_with fail
    refine (H3.out _ _ hrt).mono ?_
    rintro e w8 hret
    obtain ⟨A3, c3, B3, d3, rfl, hrv, hxd⟩ := hret.at
    clear hret
    clear hA_0 hA_1 hT_0 hT_1 hT_2 hT_3
    replace hS := hS.ext hxd
    replace hC := hC.ext hxd
    replace hT := hT.ext hxd
    replace hA := hA.ext hxd
    replace hU := hU.ext hxd
    replace hB := hB.ext hxd
    replace hr := stE.ext hr hxd
    replace hrt := stE.ext hrt hxd
    replace hru := stE.ext hru hxd
    replace hx1 := hx1.trans' hxd
    clear hxd
    obtain ⟨hV, hD, hz⟩ := two_al w8 28 33 (#[.int .u64 t.now, .int .u64 t.count, .slice A3 t.links.length c3, .slice B3 t.sess.length d3]) (#[.int .i64 0, str u])
    obtain ⟨g4, hg⟩ : ∃ g_, w8.heap.size = g_ := ⟨_, rfl⟩
    replace hS := hS.ext hz
    replace hC := hC.ext hz
    replace hT := hT.ext hz
    replace hA := hA.ext hz
    replace hU := hU.ext hz
    replace hB := hB.ext hz
    replace hr := stE.ext hr hz
    replace hrt := stE.ext hrt hz
    replace hru := stE.ext hru hz
    replace hrv := stE.ext hrv hz
    replace hx1 := hx1.trans' hz
    clear hz
    rw [hg] at hV hD
    go_upto_region 12 with fail
    try rw [hg]
    clear hg
    generalize ((w8.alloc (.cells (#[.int .u64 t.now, .int .u64 t.count, .slice A3 t.links.length c3, .slice B3 t.sess.length d3]) 28)).alloc (.cells (#[.int .i64 0, str u]) 33)) = w9 at *
    have hA_0 := (hA.cell 0).trans rfl
    have hA_1 := (hA.cell 1).trans rfl
    have hB_0 := (hB.cell 0).trans rfl
    have hB_1 := (hB.cell 1).trans rfl
    have hT_0 := (hT.cell 0).trans rfl
    have hT_1 := (hT.cell 1).trans rfl
    have hT_2 := (hT.cell 2).trans rfl
    have hT_3 := (hT.cell 3).trans rfl
    have hU_0 := (hU.cell 0).trans rfl
    have hU_1 := (hU.cell 1).trans rfl
    have hU_2 := (hU.cell 2).trans rfl
    have hU_3 := (hU.cell 3).trans rfl
    go_wp2_with fail
    refine (sameL_b _ _ _ _ HST.out hrt hru).mono ?_
    rintro e w10 ⟨rfl, hxd⟩
    clear hA_0 hA_1 hB_0 hB_1 hT_0 hT_1 hT_2 hT_3 hU_0 hU_1 hU_2 hU_3
    replace hS := hS.ext hxd
    replace hC := hC.ext hxd
    replace hT := hT.ext hxd
    replace hA := hA.ext hxd
    replace hU := hU.ext hxd
    replace hB := hB.ext hxd
    replace hV := hV.ext hxd
    replace hD := hD.ext hxd
    replace hr := stE.ext hr hxd
    replace hrt := stE.ext hrt hxd
    replace hru := stE.ext hru hxd
    replace hrv := stE.ext hrv hxd
    replace hx1 := hx1.trans' hxd
    clear hxd
    have hD_0 := (hD.cell 0).trans rfl
    have hD_1 := (hD.cell 1).trans rfl
    have hT_0 := (hT.cell 0).trans rfl
    have hT_1 := (hT.cell 1).trans rfl
    have hT_2 := (hT.cell 2).trans rfl
    have hT_3 := (hT.cell 3).trans rfl
    have hV_0 := (hV.cell 0).trans rfl
    have hV_1 := (hV.cell 1).trans rfl
    have hV_2 := (hV.cell 2).trans rfl
    have hV_3 := (hV.cell 3).trans rfl
    go_wp2_with fail
    refine (sameL_b _ _ _ _ HST.out hrv hrt).mono ?_
    rintro e w11 ⟨rfl, hxd⟩
    clear hD_0 hD_1 hT_0 hT_1 hT_2 hT_3 hV_0 hV_1 hV_2 hV_3
    replace hS := hS.ext hxd
    replace hC := hC.ext hxd
    replace hT := hT.ext hxd
    replace hA := hA.ext hxd
    replace hU := hU.ext hxd
    replace hB := hB.ext hxd
    replace hV := hV.ext hxd
    replace hD := hD.ext hxd
    replace hr := stE.ext hr hxd
    replace hrt := stE.ext hrt hxd
    replace hru := stE.ext hru hxd
    replace hrv := stE.ext hrv hxd
    replace hx1 := hx1.trans' hxd
    clear hxd
    have hd1 : 0 ≤ t.count - s.count := by omega
    have hd2 : t.count - s.count ≤ 1 := by omega
    have hT_0 := (hT.cell 0).trans rfl
    have hT_1 := (hT.cell 1).trans rfl
    have hT_2 := (hT.cell 2).trans rfl
    have hT_3 := (hT.cell 3).trans rfl
    have hS_0 := (hS.cell 0).trans rfl
    have hS_1 := (hS.cell 1).trans rfl
    have hS_2 := (hS.cell 2).trans rfl
    have hS_3 := (hS.cell 3).trans rfl
    go_wp2_with fail
    go_ret
    exact ⟨rfl, hx1⟩
  · have hz : a.err ≠ 0 := by simpa using h0
    obtain rfl := e3 hz
    have hS_0 := (hS.cell 0).trans rfl
    have hS_1 := (hS.cell 1).trans rfl
    have hS_2 := (hS.cell 2).trans rfl
    have hS_3 := (hS.cell 3).trans rfl
    have hT_0 := (hT.cell 0).trans rfl
    have hT_1 := (hT.cell 1).trans rfl
    have hT_2 := (hT.cell 2).trans rfl
    have hT_3 := (hT.cell 3).trans rfl
    have hB_0 := (hB.cell 0).trans rfl
    have hB_1 := (hB.cell 1).trans rfl
    go_wp2_with fail
    refine (sameL_b _ _ _ _ HST.out hr hrt).mono ?_
    rintro e w8 ⟨rfl, hxd⟩
    clear hA_0 hA_1 hS_0 hS_1 hS_2 hS_3 hT_0 hT_1 hT_2 hT_3 hB_0 hB_1
    replace hS := hS.ext hxd
    replace hC := hC.ext hxd
    replace hT := hT.ext hxd
    replace hA := hA.ext hxd
    replace hU := hU.ext hxd
    replace hB := hB.ext hxd
    replace hr := stE.ext hr hxd
    replace hrt := stE.ext hrt hxd
    replace hru := stE.ext hru hxd
    replace hx1 := hx1.trans' hxd
    clear hxd
    have hA_0 := (hA.cell 0).trans rfl
    have hA_1 := (hA.cell 1).trans rfl
    have hB_0 := (hB.cell 0).trans rfl
    have hB_1 := (hB.cell 1).trans rfl
    go_wp2_with fail
    go_ret
    exact ⟨rfl, hx1⟩
end Go.Proofs.Ytggfemdgccgbpaa

/- The statement 'LinksSameSaid': whatever is handed in, the law answers true, and what was handed in is as it was. -/
namespace Go.Proofs.Ytggfemdgccgbpaa.linksSame
set_option linter.unusedVariables false
set_option linter.unusedSimpArgs false
set_option linter.unnecessarySimpa false
set_option maxRecDepth 100000
open Go.ChangeShapes Go.WideShapes Go.ChangeAt Go.RowKit
open Go.ChangeMaps (open_string shut_string)

set_option maxRecDepth 100000 in
set_option maxHeartbeats 2000000 in
theorem lifted (os : Os) (started : os.Started) (H : Type) (enc : TypeId × Value → H) :
    ReturnsInHanded {} Try.checked os 5 .any (Rows.linksSameSpec.pre6 enc Try.prog Try.f5 Rows.linksSameRow.domain false) (Rows.linksSameSpec.post enc Try.prog Try.f5 false true false false) := by
  refine returnsInHanded_of_change (C := Try.checked) own started (by kernel_rfl) Try.func5
    (ChangeSpec.witness6 (enc := enc) (C := Try.checked) false ⟨#[], #[.slice none 0 0, .string ByteArray.empty, .int .u32 0], []⟩ 8 (by kernel_rfl) (by kernel_rfl) (by kernel_rfl) (by kernel_rfl)) ?_
  intro W base args ds gs before hval0 hW hcnd _
  have hval : ∀ (j : Nat) t v, Try.f5.params[j]? = some t → args[j]? = some v → Value.okWide Try.prog W .any base t v := hval0
  have hW' := hW
  obtain ⟨p, q, hA0, hV, rfl, hfz, hnd⟩ := hW
  have hA : DataW.TrodAll enc Try.prog W 0 (fun _ => true) true Try.f5.params.toList args.toList ds p := hA0
  rw [Try.params5] at hA hval
  obtain ⟨v0, vs0, d0, ds0, p0, q0, hargs, rfl, rfl, h0, r0⟩ := trodAll_cons hA
  obtain ⟨v1, vs1, d1, ds1, p1, q1, rfl, rfl, rfl, h1, r1⟩ := trodAll_cons r0
  obtain ⟨v2, vs2, d2, ds2, p2, q2, rfl, rfl, rfl, h2, r2⟩ := trodAll_cons r1
  obtain ⟨rfl, rfl, rfl⟩ := trodAll_nil r2
  obtain rfl : args = #[v0, v1, v2] := by cases args; simp_all
  obtain ⟨rfl, rfl⟩ := trodVars_none hV
  obtain ⟨a0, len0, cap0, rfl⟩ := okWide_slice Try.underlying22 (hval 0 22 v0 rfl rfl)
  have k0 := h0
  have lt0 : ∀ x ∈ p0, x.block < W.heap.size := by obtain ⟨m, hm⟩ := k0; exact DataW.trod_lt m _ _ _ hm
  obtain ⟨b0, hb0⟩ : ∃ b, Bs W (.slice a0 len0 cap0) b := by
    obtain ⟨fuel, hf⟩ := h0
    rcases open_ints Try.underlying22 Try.underlying5 (by kernel_rfl) hf with ⟨hcs, _⟩ | ⟨x, l, c, zs, hcs, _, hl, hm, hz, _, hcell, hwz⟩
    · simp [Value.cells] at hcs
      obtain ⟨rfl, rfl, rfl⟩ := hcs
      exact ⟨[], bs_none⟩
    · simp [Value.cells] at hcs
      obtain ⟨rfl, rfl, rfl⟩ := hcs
      exact bs_of_ints hl hm (by simpa using hz) hcell hwz
  obtain ⟨a1, rfl, rfl, rfl, w1⟩ := open_string Try.underlying9 (hval 1 9 v1 rfl rfl) h1
  obtain ⟨a2, rfl, rfl, rfl, w2⟩ := open_int Try.underlying42 (hval 2 42 v2 rfl rfl) h2
  have i2 := w2
  simp [Lit.wf, IntKind.min, IntKind.max, IntKind.bits, IntKind.signed] at i2
  clear hA0 hval0
  refine (linksSame_walk _ b0 a1 a2 W hb0 w1 i2).mono fun e W' ⟨he, bel⟩ => ?_
  subst he
  exact ⟨_, rfl, _, _, _, [], _, [], hW', trodAll_mk1 (shut_bool Try.underlying4 _), (trodAll_cons_mk (Below.trod laidOut (by kernel_rfl) (of_decide_eq_true (by kernel_rfl)) k0 bel lt0) (trodAll_cons_mk (shut_string Try.underlying9 w1) (trodAll_cons_mk (shut_int Try.underlying42 w2) trodAll_mk0))), rfl, bel.frame _, fun h => by cases h⟩

theorem over : Rows.linksSameRow.holds Try.pinned (OpenSpec.ofChange Rows.linksSameSpec) :=
  OpenClaim.holds_of_wide 5 Try.f5 rfl rfl rfl rfl rfl rfl rfl ⟨rfl, rfl, rfl, rfl, rfl⟩ rfl rfl rfl rfl rfl (by kernel_rfl) Try.func5 (by kernel_rfl)
    (of_decide_eq_true (by kernel_rfl)) (by unfold Func.isWrapper; first | (rw [if_pos (by decide +kernel)]; kernel_rfl) | (rw [if_neg (by decide +kernel)]; exact ⟨rfl, rfl⟩))
    (fun os started H enc _ => lifted os started H enc)

/-- THE STATEMENT -/
theorem proved : Rows.LinksSameSaid := over
#print axioms proved
end Go.Proofs.Ytggfemdgccgbpaa.linksSame

