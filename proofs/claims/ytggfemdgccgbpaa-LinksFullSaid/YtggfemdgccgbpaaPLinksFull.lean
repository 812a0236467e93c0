import Derived.Test.YtggfemdgccgbpaaPk36
import Derived.Test.YtggfemdgccgbpaaPk1
/- LinksFull, in plain Lean. -/
namespace Go.Proofs.Ytggfemdgccgbpaa
set_option linter.unusedVariables false
set_option linter.unusedSimpArgs false
set_option linter.unnecessarySimpa false
set_option maxRecDepth 100000
open Go.RowKit
def mkC (i : Nat) : Cm := ⟨1, 0, 0, [], [UInt8.ofNat (97 + i % 20), UInt8.ofNat (97 + i / 20)], 5 + (i : Int) % 2⟩
def sF : Nat → St
  | 0 => s0L
  | k + 1 => (ldo (sF k) (mkC k)).1
theorem sF_inv : ∀ k, LInv (sF k)
  | 0 => linv0
  | k + 1 => (sF_inv k).step (by unfold mkC; simp only; omega)
theorem sF_sess : ∀ k, (sF k).sess = []
  | 0 => rfl
  | k + 1 => (ldo_sess _ _).trans (sF_sess k)
theorem sF_ok : ∀ k, k < 40 → (ldo (sF k) (mkC k)).2.err = 0 := by decide +kernel
theorem sF_full : ldo (sF 40) ⟨1, 0, 0, [], [122], 0⟩ = (sF 40, ⟨12, []⟩) := by kernel_rfl
theorem sF_full2 : ldo (sF 40) ⟨2, 0, 0, [122, 122, 122, 122], [122], 0⟩ = (sF 40, ⟨12, []⟩) := by kernel_rfl
theorem sF_aa : (ldo (sF 40) ⟨1, 0, 0, [], [97, 97], 5⟩).2 = ⟨0, [48, 48, 48]⟩ := by kernel_rfl
theorem sF_time : (ldo (sF 40) ⟨4, 0, 0, [], [], 5⟩).1.links.length = 20 := by decide +kernel
theorem sF_room : (ldo (ldo (sF 40) ⟨4, 0, 0, [], [], 5⟩).1 ⟨1, 0, 0, [], [122], 0⟩).2.err = 0 := by decide +kernel
abbrev mostS : St := ⟨0, 238328, [], []⟩
theorem mostS_inv : LInv mostS := ⟨.nil, by simp, by simp, by simp, by simp, by simp, by simp, by simp, by simp⟩
theorem mostS_full : ldo mostS ⟨1, 0, 0, [], [122], 0⟩ = (mostS, ⟨12, []⟩) := by kernel_rfl
theorem mostS_name : (ldo mostS ⟨2, 0, 0, [122, 122, 122, 122], [122], 0⟩).2.err = 0 := by decide +kernel
theorem mostS_rep (w : World) (X : Avoid) : stE.rep w X [.int .u64 0, .int .u64 238328, .slice none 0 0, .slice none 0 0] mostS :=
  st_rep.2 ⟨.slice none 0 0, .slice none 0 0, rfl, ⟨by simp, by simp⟩, ⟨by simp, by simp⟩, Enc.Sl.nil _ _ _, Enc.Sl.nil _ _ _⟩
end Go.Proofs.Ytggfemdgccgbpaa

/- LinksFull. -/
namespace Go.Proofs.Ytggfemdgccgbpaa
set_option linter.unusedVariables false
set_option linter.unusedSimpArgs false
set_option linter.unnecessarySimpa false
set_option maxRecDepth 100000
open Go.RowKit
set_option maxHeartbeats 12800000 in
theorem linksFull_walk (w : World) :
    Calls Try.prog 8 #[] w fun e w' => e = .returned (.bool true) ∧ Ext w w' := by
  have HL := hide (fun (g ga : Nat) (k : Nat) (W : World) cs h hX hY => ldoL_b (fun j => j = g ∨ j = ga) (sF k) cs (mkC k) W (fun j hj => hj.elim (fun hj => by subst hj; exact hX) (fun hj => by subst hj; exact hY)) h (sF_inv k) (sF_sess k) ⟨by simp [mkC], by simp [mkC], by simp [mkC], by simp [mkC], by simp [mkC], by simp [mkC], by simp [mkC, maxLen], by simp [mkC, maxLen], by unfold mkC; simp only; omega, by unfold mkC; simp only; omega⟩ (by simp [mkC]) (by simp [mkC]))
  go_enter Try.func8, Try.ntmps8
  go_wp2_with fail
  refine (begun18_b w).mono ?_
  rintro e w1 ⟨rfl, hx1⟩
  obtain ⟨g1, hg⟩ : ∃ g_, w1.heap.size = g_ := ⟨_, rfl⟩
  have hS := Blk.new w1 28 #[.int .u64 0, .int .u64 0, .slice none 0 0, .slice none 0 0]
  rw [hg] at hS
  have hx2 : Ext w (w1.alloc (.cells #[.int .u64 0, .int .u64 0, .slice none 0 0, .slice none 0 0] 28)) := hx1.alloc' _
  have hw1 : w.heap.size ≤ g1 := by have := hx1.size; omega
  go_upto_region 4 with fail
  try rw [hg]
  clear hg
  generalize (w1.alloc (.cells #[.int .u64 0, .int .u64 0, .slice none 0 0, .slice none 0 0] 28)) = w2 at *
  go_wp2_with fail
  go_loopw [2] (fun i wr => ∃ (k : Nat) (s : St) (A : Option Addr) (c : Nat) (B : Option Addr) (d : Nat), k ≤ 40 ∧ s = sF k ∧ i = .int .i64 k ∧ Blk wr g1 28 #[.int .u64 s.now, .int .u64 s.count, .slice A s.links.length c, .slice B s.sess.length d] ∧
      stE.rep wr (fun j => j = g1) [.int .u64 s.now, .int .u64 s.count, .slice A s.links.length c, .slice B s.sess.length d] s ∧ Ext w wr) (fun i _ => (40 - intOf i).toNat)
  case atStart => exact ⟨0, s0L, none, 0, none, 0, by omega, rfl, rfl, hS, stN_rep _ _, hx2⟩
  case round =>
    clear hS hx2
    obtain ⟨k, s, A, c, B, d, hk, hsk, rfl, hS, hr, hxr⟩ := hrel
    by_cases hlt : (k : Int) < 40
    · subst hsk
      obtain ⟨ga, hg⟩ : ∃ g_, wr.heap.size = g_ := ⟨_, rfl⟩
      have hA := Blk.new wr 33 (acells ⟨0, []⟩).toArray
      rw [hg] at hA
      have hz : Ext wr (wr.alloc (.cells (acells ⟨0, []⟩).toArray 33)) := (Ext.rfl' wr).alloc' _
      have hga : g1 < ga := by have := hS.lt; omega
      have hgw : w.heap.size ≤ ga := by have := hxr.size; omega
      replace hS := hS.ext hz
      replace hr := stE.ext (stE.mono hr (Y := fun j => j = g1 ∨ j = ga) (fun j hj h => h.elim id fun h => by omega)) hz
      replace hxr := hxr.trans' hz
      go_upto_region 8 with fail
      try rw [hg]
      clear hz hg
      generalize (wr.alloc (.cells (acells ⟨0, []⟩).toArray 33)) = w3 at *
      have hS_0 := (hS.cell 0).trans rfl
      have hS_1 := (hS.cell 1).trans rfl
      have hS_2 := (hS.cell 2).trans rfl
      have hS_3 := (hS.cell 3).trans rfl
      have hk0 : (0 : Int) ≤ k := by omega
      have hbv : (bv (mkC k).url).toArray = #[.int .u8 (97 + (k : Int) % 20), .int .u8 (97 + (k : Int) / 20)] := by
        simp [bv, mkC, UInt8.toNat_ofNat]
        omega
      have hb := Bs.lit (w := w3) 5 (mkC k).url _ rfl (by simp [mkC, maxLen]) (0, 0)
      rw [hbv] at hb
      have hcs : (convert 22 9 (.slice (some ⟨w3.heap.size, 0, none⟩) 2 2)).run Try.prog (w3.alloc (.cells #[.int .u8 (97 + (k : Int) % 20), .int .u8 (97 + (k : Int) / 20)] 5)) = .ok (str (mkC k).url) (w3.alloc (.cells #[.int .u8 (97 + (k : Int) % 20), .int .u8 (97 + (k : Int) / 20)] 5)) :=
        run_str hb Try.underlying22 Try.underlying5 Try.underlying9
      have hz : Ext w3 (w3.alloc (.cells #[.int .u8 (97 + (k : Int) % 20), .int .u8 (97 + (k : Int) / 20)] 5)) := (Ext.rfl' w3).alloc' _
      have hr3 := stE.ext hr hz
      have hl3 := (hS.ext hz).lt
      have hl4 := (hA.ext hz).lt
      go_wp2_with fail
      refine (HL.out g1 ga k _ _ hr3 hl3 hl4).mono ?_
      rintro e w4 hret
      obtain ⟨a, ha⟩ : ∃ a, (ldo (sF k) (mkC k)).2 = a := ⟨_, rfl⟩
      have hp : ldo (sF k) (mkC k) = (sF (k + 1), a) := by rw [← ha]; rfl
      have H0 : Hid (a.err = 0) := hide (by rw [← ha]; exact sF_ok k (by omega))
      rw [hp] at hret
      clear hp ha
      obtain ⟨t, ht⟩ : ∃ t, sF (k + 1) = t := ⟨_, rfl⟩
      rw [ht] at hret
      have HT := hide ht
      clear ht
      obtain ⟨A1, c1, B1, d1, rfl, hr4, hx4⟩ := hret.at
      clear hret hcs hb hbv hS_0 hS_1 hS_2 hS_3
      replace hS := (hS.ext hz).ext hx4
      replace hA := (hA.ext hz).ext hx4
      replace hxr := (hxr.trans' hz).trans' hx4
      have hS_0 := (hS.cell 0).trans rfl
      have hS_1 := (hS.cell 1).trans rfl
      have hS_2 := (hS.cell 2).trans rfl
      have hS_3 := (hS.cell 3).trans rfl
      have fS_0 := hS.frozen 0
      have fS_1 := hS.frozen 1
      have fS_2 := hS.frozen 2
      have fS_3 := hS.frozen 3
      have hA_0 := (hA.cell 0).trans rfl
      have hA_1 := (hA.cell 1).trans rfl
      have fA_0 := hA.frozen 0
      have fA_1 := hA.frozen 1
      have n1 : ¬ g1 = ga := by omega
      have n2 : ¬ ga = g1 := by omega
      go_upto_region 9 with fail
      have hcg : Chg [g1] w4 _ := (Chg.refl [g1] w4).four (g := g1) (by simp) (.int .u64 t.now) (.int .u64 t.count) (.slice A1 t.links.length c1) (.slice B1 t.sess.length d1)
      have hSn := Blk.four hS (.int .u64 t.now) (.int .u64 t.count) (.slice A1 t.links.length c1) (.slice B1 t.sess.length d1)
      have hAn := Blk.two_ (hA.chg hcg (by simp; omega)) (.int .i64 a.err) (str a.text)
      have hc2 : Chg [ga] _ _ := (Chg.refl [ga] ((((w4.setCell ⟨g1, 0, none⟩ (.int .u64 t.now)).setCell ⟨g1, 1, none⟩ (.int .u64 t.count)).setCell ⟨g1, 2, none⟩ (.slice A1 t.links.length c1)).setCell ⟨g1, 3, none⟩ (.slice B1 t.sess.length d1))).two_ (g := ga) (by simp) (.int .i64 a.err) (str a.text)
      have hS2 := hSn.chg hc2 (by simp; omega)
      have hr5 := stE.mono (stE.chg (stE.chg hr4 hcg (fun j hj _ => .inl (by simpa using hj))) hc2 (fun j hj _ => .inr (by simpa using hj))) (Y := fun j => j = g1) (fun j _ h => .inl h)
      have hx5 := (hxr.then_ hcg (by simp; omega)).then_ hc2 (by simp; omega)
      generalize (((((w4.setCell ⟨g1, 0, none⟩ (.int .u64 t.now)).setCell ⟨g1, 1, none⟩ (.int .u64 t.count)).setCell ⟨g1, 2, none⟩ (.slice A1 t.links.length c1)).setCell ⟨g1, 3, none⟩ (.slice B1 t.sess.length d1)).setCell ⟨ga, 0, none⟩ (.int .i64 a.err)).setCell ⟨ga, 1, none⟩ (str a.text) = w5 at *
      clear hcg hc2 hSn
      have a_0 := (hAn.cell 0).trans rfl
      rw [H0.out] at a_0
      go_wp2_with fail
      go_roundw
      case rel => exact ⟨k + 1, t, A1, c1, B1, d1, by omega, HT.out.symm, by go_num, hS2, hr5, hx5⟩
      case measure => simp [intOf]; omega
    · obtain rfl : k = 40 := by omega
      replace hr := stE.mono hr (Y := noneAt) (fun _ _ h => h.elim)
      have hi := sF_inv 40
      have hse := sF_sess 40
      have e1 := sF_full
      have e2 := sF_full2
      have e3 := sF_aa
      have e4 := sF_time
      have e5 := sF_room
      rw [← hsk] at hi hse e1 e2 e3 e4 e5
      clear hsk
      obtain ⟨⟨t3, a3⟩, q3⟩ : ∃ r, ldo s ⟨1, 0, 0, [], [97, 97], 5⟩ = r := ⟨_, rfl⟩
      obtain ⟨⟨v, a4⟩, q4⟩ : ∃ r, ldo s ⟨4, 0, 0, [], [], 5⟩ = r := ⟨_, rfl⟩
      rw [q3] at e3
      rw [q4] at e4 e5
      obtain ⟨⟨t5, a5⟩, q5⟩ : ∃ r, ldo v ⟨1, 0, 0, [], [122], 0⟩ = r := ⟨_, rfl⟩
      rw [q5] at e5
      obtain ⟨⟨t7, a7⟩, q7⟩ : ∃ r, ldo mostS ⟨2, 0, 0, [122, 122, 122, 122], [122], 0⟩ = r := ⟨_, rfl⟩
      have e7 := mostS_name
      rw [q7] at e7
      simp only at e3 e4 e5 e7
      have hiv := hi.step (c := ⟨4, 0, 0, [], [], 5⟩) (by simp)
      have hsv := (ldo_sess s ⟨4, 0, 0, [], [], 5⟩).trans hse
      rw [q4] at hiv hsv
      have cw : ∀ (kd : Int) (nm u : Bytes) (tl : Int), 0 ≤ kd → kd ≤ 4 → nm.length ≤ 4 → u.length ≤ 4 → 0 ≤ tl → tl ≤ 5 → Cm.wide ⟨kd, 0, 0, nm, u, tl⟩ := fun kd nm u tl a b c d e f => ⟨by simp only; omega, by simp only; omega, by simp, by simp, by simp, by simp, by simp only [maxLen]; omega, by simp only [maxLen]; omega, e, by simp only; omega⟩
      have HSE := hide hse
      have HSV := hide hsv
      have H1 := hide (fun W cs h => ldoL_b noneAt s cs ⟨1, 0, 0, [], [122], 0⟩ W (fun _ h => h.elim) h hi HSE.out (cw _ _ _ _ (by simp) (by simp) (by simp) (by simp) (by simp) (by simp)) (by simp) (by simp))
      rw [e1] at H1
      have H2 := hide (fun W cs h => ldoL_b noneAt s cs ⟨2, 0, 0, [122, 122, 122, 122], [122], 0⟩ W (fun _ h => h.elim) h hi HSE.out (cw _ _ _ _ (by simp) (by simp) (by simp) (by simp) (by simp) (by simp)) (by simp) (by simp))
      rw [e2] at H2
      have H3 := hide (fun W cs h => ldoL_b noneAt s cs ⟨1, 0, 0, [], [97, 97], 5⟩ W (fun _ h => h.elim) h hi HSE.out (cw _ _ _ _ (by simp) (by simp) (by simp) (by simp) (by simp) (by simp)) (by simp) (by simp))
      rw [q3] at H3
      have H4 := hide (fun W cs h => ldoL_b noneAt s cs ⟨4, 0, 0, [], [], 5⟩ W (fun _ h => h.elim) h hi HSE.out (cw _ _ _ _ (by simp) (by simp) (by simp) (by simp) (by simp) (by simp)) (by simp) (by simp))
      rw [q4] at H4
      have H5 := hide (fun W cs h => ldoL_b noneAt v cs ⟨1, 0, 0, [], [122], 0⟩ W (fun _ h => h.elim) h hiv HSV.out (cw _ _ _ _ (by simp) (by simp) (by simp) (by simp) (by simp) (by simp)) (by simp) (by simp))
      rw [q5] at H5
      have H6 := hide (fun W cs h => ldoL_b noneAt mostS cs ⟨1, 0, 0, [], [122], 0⟩ W (fun _ h => h.elim) h mostS_inv rfl (cw _ _ _ _ (by simp) (by simp) (by simp) (by simp) (by simp) (by simp)) (by simp) (by simp))
      rw [mostS_full] at H6
      have H7 := hide (fun W cs h => ldoL_b noneAt mostS cs ⟨2, 0, 0, [122, 122, 122, 122], [122], 0⟩ W (fun _ h => h.elim) h mostS_inv rfl (cw _ _ _ _ (by simp) (by simp) (by simp) (by simp) (by simp) (by simp)) (by simp) (by simp))
      rw [q7] at H7
      subst e3
      have E4 := hide e4
      have E5 := hide e5
      have E7 := hide e7
      clear e1 e2 e4 e5 e7 q3 q4 q5 q7 hse hsv
      have hS_0 := (hS.cell 0).trans rfl
      have hS_1 := (hS.cell 1).trans rfl
      have hS_2 := (hS.cell 2).trans rfl
      have hS_3 := (hS.cell 3).trans rfl
      go_wp2_with fail
      refine (H1.out _ _ hr).mono ?_
      rintro e x1 hret
      obtain ⟨A1, c1, B1, d1, rfl, hr1, hxd⟩ := hret.at
      clear hret
      clear hS_0 hS_1 hS_2 hS_3
      replace hS := hS.ext hxd
      replace hr := stE.ext hr hxd
      replace hxr := hxr.trans' hxd
      clear hxd
      obtain ⟨h4, h5, hz⟩ := two_al x1 28 33 (#[.int .u64 s.now, .int .u64 s.count, .slice A1 s.links.length c1, .slice B1 s.sess.length d1]) (#[.int .i64 12, str []])
      obtain ⟨g4, hg⟩ : ∃ g_, x1.heap.size = g_ := ⟨_, rfl⟩
      replace hS := hS.ext hz
      replace hr := stE.ext hr hz
      replace hr1 := stE.ext hr1 hz
      replace hxr := hxr.trans' hz
      clear hz
      rw [hg] at h4 h5
      go_upto_region 12 with fail
      try rw [hg]
      clear hg
      generalize ((x1.alloc (.cells (#[.int .u64 s.now, .int .u64 s.count, .slice A1 s.links.length c1, .slice B1 s.sess.length d1]) 28)).alloc (.cells (#[.int .i64 12, str []]) 33)) = x2 at *
      have hS_0 := (hS.cell 0).trans rfl
      have hS_1 := (hS.cell 1).trans rfl
      have hS_2 := (hS.cell 2).trans rfl
      have hS_3 := (hS.cell 3).trans rfl
      go_wp2_with fail
      refine (H2.out _ _ hr).mono ?_
      rintro e x3 hret
      obtain ⟨A2, c2, B2, d2, rfl, hr2, hxd⟩ := hret.at
      clear hret
      clear hS_0 hS_1 hS_2 hS_3
      replace hS := hS.ext hxd
      replace h4 := h4.ext hxd
      replace h5 := h5.ext hxd
      replace hr := stE.ext hr hxd
      replace hr1 := stE.ext hr1 hxd
      replace hxr := hxr.trans' hxd
      clear hxd
      obtain ⟨h6, h7, hz⟩ := two_al x3 28 33 (#[.int .u64 s.now, .int .u64 s.count, .slice A2 s.links.length c2, .slice B2 s.sess.length d2]) (#[.int .i64 12, str []])
      obtain ⟨g6, hg⟩ : ∃ g_, x3.heap.size = g_ := ⟨_, rfl⟩
      replace hS := hS.ext hz
      replace h4 := h4.ext hz
      replace h5 := h5.ext hz
      replace hr := stE.ext hr hz
      replace hr1 := stE.ext hr1 hz
      replace hr2 := stE.ext hr2 hz
      replace hxr := hxr.trans' hz
      clear hz
      rw [hg] at h6 h7
      go_upto_region 13 with fail
      try rw [hg]
      clear hg
      generalize ((x3.alloc (.cells (#[.int .u64 s.now, .int .u64 s.count, .slice A2 s.links.length c2, .slice B2 s.sess.length d2]) 28)).alloc (.cells (#[.int .i64 12, str []]) 33)) = x4 at *
      have hS_0 := (hS.cell 0).trans rfl
      have hS_1 := (hS.cell 1).trans rfl
      have hS_2 := (hS.cell 2).trans rfl
      have hS_3 := (hS.cell 3).trans rfl
      go_wp2_with fail
      refine (H3.out _ _ hr).mono ?_
      rintro e x5 hret
      obtain ⟨A3, c3, B3, d3, rfl, hr3, hxd⟩ := hret.at
      clear hret
      clear hS_0 hS_1 hS_2 hS_3
      replace hS := hS.ext hxd
      replace h4 := h4.ext hxd
      replace h5 := h5.ext hxd
      replace h6 := h6.ext hxd
      replace h7 := h7.ext hxd
      replace hr := stE.ext hr hxd
      replace hr1 := stE.ext hr1 hxd
      replace hr2 := stE.ext hr2 hxd
      replace hxr := hxr.trans' hxd
      clear hxd
      obtain ⟨h8, h9, hz⟩ := two_al x5 28 33 (#[.int .u64 t3.now, .int .u64 t3.count, .slice A3 t3.links.length c3, .slice B3 t3.sess.length d3]) (#[.int .i64 0, str [48, 48, 48]])
      obtain ⟨g8, hg⟩ : ∃ g_, x5.heap.size = g_ := ⟨_, rfl⟩
      replace hS := hS.ext hz
      replace h4 := h4.ext hz
      replace h5 := h5.ext hz
      replace h6 := h6.ext hz
      replace h7 := h7.ext hz
      replace hr := stE.ext hr hz
      replace hr1 := stE.ext hr1 hz
      replace hr2 := stE.ext hr2 hz
      replace hr3 := stE.ext hr3 hz
      replace hxr := hxr.trans' hz
      clear hz
      rw [hg] at h8 h9
      go_upto_region 14 with fail
      try rw [hg]
      clear hg
      generalize ((x5.alloc (.cells (#[.int .u64 t3.now, .int .u64 t3.count, .slice A3 t3.links.length c3, .slice B3 t3.sess.length d3]) 28)).alloc (.cells (#[.int .i64 0, str [48, 48, 48]]) 33)) = x6 at *
      have hS_0 := (hS.cell 0).trans rfl
      have hS_1 := (hS.cell 1).trans rfl
      have hS_2 := (hS.cell 2).trans rfl
      have hS_3 := (hS.cell 3).trans rfl
      go_wp2_with fail
      refine (H4.out _ _ hr).mono ?_
      rintro e x7 hret
      obtain ⟨A4, c4, B4, d4, rfl, hrv, hxd⟩ := hret.at
      clear hret
      clear hS_0 hS_1 hS_2 hS_3
      replace hS := hS.ext hxd
      replace h4 := h4.ext hxd
      replace h5 := h5.ext hxd
      replace h6 := h6.ext hxd
      replace h7 := h7.ext hxd
      replace h8 := h8.ext hxd
      replace h9 := h9.ext hxd
      replace hr := stE.ext hr hxd
      replace hr1 := stE.ext hr1 hxd
      replace hr2 := stE.ext hr2 hxd
      replace hr3 := stE.ext hr3 hxd
      replace hxr := hxr.trans' hxd
      clear hxd
      obtain ⟨h10, h11, hz⟩ := two_al x7 28 33 (#[.int .u64 v.now, .int .u64 v.count, .slice A4 v.links.length c4, .slice B4 v.sess.length d4]) (#[.int .i64 a4.err, str a4.text])
      obtain ⟨g10, hg⟩ : ∃ g_, x7.heap.size = g_ := ⟨_, rfl⟩
      replace hS := hS.ext hz
      replace h4 := h4.ext hz
      replace h5 := h5.ext hz
      replace h6 := h6.ext hz
      replace h7 := h7.ext hz
      replace h8 := h8.ext hz
      replace h9 := h9.ext hz
      replace hr := stE.ext hr hz
      replace hr1 := stE.ext hr1 hz
      replace hr2 := stE.ext hr2 hz
      replace hr3 := stE.ext hr3 hz
      replace hrv := stE.ext hrv hz
      replace hxr := hxr.trans' hz
      clear hz
      rw [hg] at h10 h11
      go_upto_region 15 with fail
      try rw [hg]
      clear hg
      generalize ((x7.alloc (.cells (#[.int .u64 v.now, .int .u64 v.count, .slice A4 v.links.length c4, .slice B4 v.sess.length d4]) 28)).alloc (.cells (#[.int .i64 a4.err, str a4.text]) 33)) = x8 at *
      have h10_0 := (h10.cell 0).trans rfl
      have h10_1 := (h10.cell 1).trans rfl
      have h10_2 := (h10.cell 2).trans rfl
      have h10_3 := (h10.cell 3).trans rfl
      go_wp2_with fail
      refine (H5.out _ _ hrv).mono ?_
      rintro e x9 hret
      obtain ⟨A5, c5, B5, d5, rfl, hr5, hxd⟩ := hret.at
      clear hret
      clear h10_0 h10_1 h10_2 h10_3
      replace hS := hS.ext hxd
      replace h4 := h4.ext hxd
      replace h5 := h5.ext hxd
      replace h6 := h6.ext hxd
      replace h7 := h7.ext hxd
      replace h8 := h8.ext hxd
      replace h9 := h9.ext hxd
      replace h10 := h10.ext hxd
      replace h11 := h11.ext hxd
      replace hr := stE.ext hr hxd
      replace hr1 := stE.ext hr1 hxd
      replace hr2 := stE.ext hr2 hxd
      replace hr3 := stE.ext hr3 hxd
      replace hrv := stE.ext hrv hxd
      replace hxr := hxr.trans' hxd
      clear hxd
      obtain ⟨h12, h13, hz⟩ := two_al x9 28 33 (#[.int .u64 t5.now, .int .u64 t5.count, .slice A5 t5.links.length c5, .slice B5 t5.sess.length d5]) (#[.int .i64 a5.err, str a5.text])
      obtain ⟨g12, hg⟩ : ∃ g_, x9.heap.size = g_ := ⟨_, rfl⟩
      replace hS := hS.ext hz
      replace h4 := h4.ext hz
      replace h5 := h5.ext hz
      replace h6 := h6.ext hz
      replace h7 := h7.ext hz
      replace h8 := h8.ext hz
      replace h9 := h9.ext hz
      replace h10 := h10.ext hz
      replace h11 := h11.ext hz
      replace hr := stE.ext hr hz
      replace hr1 := stE.ext hr1 hz
      replace hr2 := stE.ext hr2 hz
      replace hr3 := stE.ext hr3 hz
      replace hrv := stE.ext hrv hz
      replace hr5 := stE.ext hr5 hz
      replace hxr := hxr.trans' hz
      clear hz
      rw [hg] at h12 h13
      go_upto_region 16 with fail
      try rw [hg]
      clear hg
      generalize ((x9.alloc (.cells (#[.int .u64 t5.now, .int .u64 t5.count, .slice A5 t5.links.length c5, .slice B5 t5.sess.length d5]) 28)).alloc (.cells (#[.int .i64 a5.err, str a5.text]) 33)) = x10 at *
      go_wp2_with fail
      refine (most_b _).mono ?_
      rintro e x11 ⟨rfl, rfl⟩
      obtain ⟨g14, hg⟩ : ∃ g_, x10.heap.size = g_ := ⟨_, rfl⟩
      have h14 := Blk.new x10 28 #[.int .u64 0, .int .u64 238328, .slice none 0 0, .slice none 0 0]
      rw [hg] at h14
      have hz : Ext x10 (x10.alloc (.cells #[.int .u64 0, .int .u64 238328, .slice none 0 0, .slice none 0 0] 28)) := (Ext.rfl' x10).alloc' _
      replace hS := hS.ext hz
      replace h4 := h4.ext hz
      replace h5 := h5.ext hz
      replace h6 := h6.ext hz
      replace h7 := h7.ext hz
      replace h8 := h8.ext hz
      replace h9 := h9.ext hz
      replace h10 := h10.ext hz
      replace h11 := h11.ext hz
      replace h12 := h12.ext hz
      replace h13 := h13.ext hz
      replace hr := stE.ext hr hz
      replace hr1 := stE.ext hr1 hz
      replace hr2 := stE.ext hr2 hz
      replace hr3 := stE.ext hr3 hz
      replace hrv := stE.ext hrv hz
      replace hr5 := stE.ext hr5 hz
      replace hxr := hxr.trans' hz
      go_upto_region 17 with fail
      try rw [hg]
      clear hz hg
      generalize (x10.alloc (.cells #[.int .u64 0, .int .u64 238328, .slice none 0 0, .slice none 0 0] 28)) = x12 at *
      have hrm := mostS_rep x12 noneAt
      have h14_0 := (h14.cell 0).trans rfl
      have h14_1 := (h14.cell 1).trans rfl
      have h14_2 := (h14.cell 2).trans rfl
      have h14_3 := (h14.cell 3).trans rfl
      go_wp2_with fail
      refine (H6.out _ _ hrm).mono ?_
      rintro e x13 hret
      obtain ⟨A6, c6, B6, d6, rfl, hr6, hxd⟩ := hret.at
      clear hret
      clear h14_0 h14_1 h14_2 h14_3
      replace hS := hS.ext hxd
      replace h4 := h4.ext hxd
      replace h5 := h5.ext hxd
      replace h6 := h6.ext hxd
      replace h7 := h7.ext hxd
      replace h8 := h8.ext hxd
      replace h9 := h9.ext hxd
      replace h10 := h10.ext hxd
      replace h11 := h11.ext hxd
      replace h12 := h12.ext hxd
      replace h13 := h13.ext hxd
      replace h14 := h14.ext hxd
      replace hr := stE.ext hr hxd
      replace hr1 := stE.ext hr1 hxd
      replace hr2 := stE.ext hr2 hxd
      replace hr3 := stE.ext hr3 hxd
      replace hrv := stE.ext hrv hxd
      replace hr5 := stE.ext hr5 hxd
      replace hrm := stE.ext hrm hxd
      replace hxr := hxr.trans' hxd
      clear hxd
      obtain ⟨h15, h16, hz⟩ := two_al x13 28 33 (#[.int .u64 0, .int .u64 238328, .slice A6 0 c6, .slice B6 0 d6]) (#[.int .i64 12, str []])
      obtain ⟨g15, hg⟩ : ∃ g_, x13.heap.size = g_ := ⟨_, rfl⟩
      replace hS := hS.ext hz
      replace h4 := h4.ext hz
      replace h5 := h5.ext hz
      replace h6 := h6.ext hz
      replace h7 := h7.ext hz
      replace h8 := h8.ext hz
      replace h9 := h9.ext hz
      replace h10 := h10.ext hz
      replace h11 := h11.ext hz
      replace h12 := h12.ext hz
      replace h13 := h13.ext hz
      replace h14 := h14.ext hz
      replace hr := stE.ext hr hz
      replace hr1 := stE.ext hr1 hz
      replace hr2 := stE.ext hr2 hz
      replace hr3 := stE.ext hr3 hz
      replace hrv := stE.ext hrv hz
      replace hr5 := stE.ext hr5 hz
      replace hrm := stE.ext hrm hz
      replace hr6 := stE.ext hr6 hz
      replace hxr := hxr.trans' hz
      clear hz
      rw [hg] at h15 h16
      go_upto_region 18 with fail
      try rw [hg]
      clear hg
      generalize ((x13.alloc (.cells (#[.int .u64 0, .int .u64 238328, .slice A6 0 c6, .slice B6 0 d6]) 28)).alloc (.cells (#[.int .i64 12, str []]) 33)) = x14 at *
      have h14_0 := (h14.cell 0).trans rfl
      have h14_1 := (h14.cell 1).trans rfl
      have h14_2 := (h14.cell 2).trans rfl
      have h14_3 := (h14.cell 3).trans rfl
      go_wp2_with fail
      refine (H7.out _ _ hrm).mono ?_
      rintro e x15 hret
      obtain ⟨A7, c7, B7, d7, rfl, hr7, hxd⟩ := hret.at
      clear hret
      clear h14_0 h14_1 h14_2 h14_3
      replace hS := hS.ext hxd
      replace h4 := h4.ext hxd
      replace h5 := h5.ext hxd
      replace h6 := h6.ext hxd
      replace h7 := h7.ext hxd
      replace h8 := h8.ext hxd
      replace h9 := h9.ext hxd
      replace h10 := h10.ext hxd
      replace h11 := h11.ext hxd
      replace h12 := h12.ext hxd
      replace h13 := h13.ext hxd
      replace h14 := h14.ext hxd
      replace h15 := h15.ext hxd
      replace h16 := h16.ext hxd
      replace hr := stE.ext hr hxd
      replace hr1 := stE.ext hr1 hxd
      replace hr2 := stE.ext hr2 hxd
      replace hr3 := stE.ext hr3 hxd
      replace hrv := stE.ext hrv hxd
      replace hr5 := stE.ext hr5 hxd
      replace hrm := stE.ext hrm hxd
      replace hr6 := stE.ext hr6 hxd
      replace hxr := hxr.trans' hxd
      clear hxd
      obtain ⟨h17, h18, hz⟩ := two_al x15 28 33 (#[.int .u64 t7.now, .int .u64 t7.count, .slice A7 t7.links.length c7, .slice B7 t7.sess.length d7]) (#[.int .i64 a7.err, str a7.text])
      obtain ⟨g17, hg⟩ : ∃ g_, x15.heap.size = g_ := ⟨_, rfl⟩
      replace hS := hS.ext hz
      replace h4 := h4.ext hz
      replace h5 := h5.ext hz
      replace h6 := h6.ext hz
      replace h7 := h7.ext hz
      replace h8 := h8.ext hz
      replace h9 := h9.ext hz
      replace h10 := h10.ext hz
      replace h11 := h11.ext hz
      replace h12 := h12.ext hz
      replace h13 := h13.ext hz
      replace h14 := h14.ext hz
      replace h15 := h15.ext hz
      replace h16 := h16.ext hz
      replace hr := stE.ext hr hz
      replace hr1 := stE.ext hr1 hz
      replace hr2 := stE.ext hr2 hz
      replace hr3 := stE.ext hr3 hz
      replace hrv := stE.ext hrv hz
      replace hr5 := stE.ext hr5 hz
      replace hrm := stE.ext hrm hz
      replace hr6 := stE.ext hr6 hz
      replace hr7 := stE.ext hr7 hz
      replace hxr := hxr.trans' hz
      clear hz
      rw [hg] at h17 h18
      go_upto_region 19 with fail
      try rw [hg]
      clear hg
      generalize ((x15.alloc (.cells (#[.int .u64 t7.now, .int .u64 t7.count, .slice A7 t7.links.length c7, .slice B7 t7.sess.length d7]) 28)).alloc (.cells (#[.int .i64 a7.err, str a7.text]) 33)) = x16 at *
      have h5_0 := (h5.cell 0).trans rfl
      have h5_1 := (h5.cell 1).trans rfl
      have h7_0 := (h7.cell 0).trans rfl
      have h7_1 := (h7.cell 1).trans rfl
      have hS_0 := (hS.cell 0).trans rfl
      have hS_1 := (hS.cell 1).trans rfl
      have hS_2 := (hS.cell 2).trans rfl
      have hS_3 := (hS.cell 3).trans rfl
      have h4_0 := (h4.cell 0).trans rfl
      have h4_1 := (h4.cell 1).trans rfl
      have h4_2 := (h4.cell 2).trans rfl
      have h4_3 := (h4.cell 3).trans rfl
      go_wp2_with fail
      refine (sameL_b _ _ _ _ HSE.out hr hr1).mono ?_
      rintro e x17 ⟨rfl, hxd⟩
      clear h5_0 h5_1 h7_0 h7_1 hS_0 hS_1 hS_2 hS_3 h4_0 h4_1 h4_2 h4_3
      replace hS := hS.ext hxd
      replace h4 := h4.ext hxd
      replace h5 := h5.ext hxd
      replace h6 := h6.ext hxd
      replace h7 := h7.ext hxd
      replace h8 := h8.ext hxd
      replace h9 := h9.ext hxd
      replace h10 := h10.ext hxd
      replace h11 := h11.ext hxd
      replace h12 := h12.ext hxd
      replace h13 := h13.ext hxd
      replace h14 := h14.ext hxd
      replace h15 := h15.ext hxd
      replace h16 := h16.ext hxd
      replace h17 := h17.ext hxd
      replace h18 := h18.ext hxd
      replace hr := stE.ext hr hxd
      replace hr1 := stE.ext hr1 hxd
      replace hr2 := stE.ext hr2 hxd
      replace hr3 := stE.ext hr3 hxd
      replace hrv := stE.ext hrv hxd
      replace hr5 := stE.ext hr5 hxd
      replace hrm := stE.ext hrm hxd
      replace hr6 := stE.ext hr6 hxd
      replace hr7 := stE.ext hr7 hxd
      replace hxr := hxr.trans' hxd
      clear hxd
      have h5_0 := (h5.cell 0).trans rfl
      have h5_1 := (h5.cell 1).trans rfl
      have h7_0 := (h7.cell 0).trans rfl
      have h7_1 := (h7.cell 1).trans rfl
      have hS_0 := (hS.cell 0).trans rfl
      have hS_1 := (hS.cell 1).trans rfl
      have hS_2 := (hS.cell 2).trans rfl
      have hS_3 := (hS.cell 3).trans rfl
      have h6_0 := (h6.cell 0).trans rfl
      have h6_1 := (h6.cell 1).trans rfl
      have h6_2 := (h6.cell 2).trans rfl
      have h6_3 := (h6.cell 3).trans rfl
      go_wp2_with fail
      refine (sameL_b _ _ _ _ HSE.out hr hr2).mono ?_
      rintro e x18 ⟨rfl, hxd⟩
      clear h5_0 h5_1 h7_0 h7_1 hS_0 hS_1 hS_2 hS_3 h6_0 h6_1 h6_2 h6_3
      replace hS := hS.ext hxd
      replace h4 := h4.ext hxd
      replace h5 := h5.ext hxd
      replace h6 := h6.ext hxd
      replace h7 := h7.ext hxd
      replace h8 := h8.ext hxd
      replace h9 := h9.ext hxd
      replace h10 := h10.ext hxd
      replace h11 := h11.ext hxd
      replace h12 := h12.ext hxd
      replace h13 := h13.ext hxd
      replace h14 := h14.ext hxd
      replace h15 := h15.ext hxd
      replace h16 := h16.ext hxd
      replace h17 := h17.ext hxd
      replace h18 := h18.ext hxd
      replace hr := stE.ext hr hxd
      replace hr1 := stE.ext hr1 hxd
      replace hr2 := stE.ext hr2 hxd
      replace hr3 := stE.ext hr3 hxd
      replace hrv := stE.ext hrv hxd
      replace hr5 := stE.ext hr5 hxd
      replace hrm := stE.ext hrm hxd
      replace hr6 := stE.ext hr6 hxd
      replace hr7 := stE.ext hr7 hxd
      replace hxr := hxr.trans' hxd
      clear hxd
      have h9_0 := (h9.cell 0).trans rfl
      have h9_1 := (h9.cell 1).trans rfl
      have h10_0 := (h10.cell 0).trans rfl
      have h10_1 := (h10.cell 1).trans rfl
      have h10_2 := (h10.cell 2).trans rfl
      have h10_3 := (h10.cell 3).trans rfl
      have h13_0 := (h13.cell 0).trans rfl
      have h13_1 := (h13.cell 1).trans rfl
      have h16_0 := (h16.cell 0).trans rfl
      have h16_1 := (h16.cell 1).trans rfl
      have h18_0 := (h18.cell 0).trans rfl
      have h18_1 := (h18.cell 1).trans rfl
      rw [E4.out] at h10_2
      rw [E5.out] at h13_0
      rw [E7.out] at h18_0
      go_wp2_with fail
      go_ret
      exact ⟨rfl, hxr⟩
end Go.Proofs.Ytggfemdgccgbpaa

/- The statement 'LinksFullSaid': whatever is handed in, the law answers true, and what was handed in is as it was. -/
namespace Go.Proofs.Ytggfemdgccgbpaa.linksFull
set_option linter.unusedVariables false
set_option linter.unusedSimpArgs false
set_option linter.unnecessarySimpa false
set_option maxRecDepth 100000
open Go.ChangeShapes Go.WideShapes Go.ChangeAt Go.RowKit
open Go.ChangeMaps (open_string shut_string)

set_option maxRecDepth 100000 in
set_option maxHeartbeats 2000000 in
theorem lifted (os : Os) (started : os.Started) (H : Type) (enc : TypeId × Value → H) :
    ReturnsInHanded {} Try.checked os 8 .any (Rows.linksFullSpec.pre6 enc Try.prog Try.f8 Rows.linksFullRow.domain false) (Rows.linksFullSpec.post enc Try.prog Try.f8 false true false false) := by
  refine returnsInHanded_of_change (C := Try.checked) own started (by kernel_rfl) Try.func8
    (ChangeSpec.witness6 (enc := enc) (C := Try.checked) false ⟨#[], #[], []⟩ 8 (by kernel_rfl) (by kernel_rfl) (by kernel_rfl) (by kernel_rfl)) ?_
  intro W base args ds gs before hval0 hW hcnd _
  have hval : ∀ (j : Nat) t v, Try.f8.params[j]? = some t → args[j]? = some v → Value.okWide Try.prog W .any base t v := hval0
  have hW' := hW
  obtain ⟨p, q, hA0, hV, rfl, hfz, hnd⟩ := hW
  have hA : DataW.TrodAll enc Try.prog W 0 (fun _ => true) true Try.f8.params.toList args.toList ds p := hA0
  rw [Try.params8] at hA hval
  obtain ⟨hargs, rfl, rfl⟩ := trodAll_nil hA
  obtain rfl : args = #[] := by cases args; simp_all
  obtain ⟨rfl, rfl⟩ := trodVars_none hV
  clear hA0 hval0
  refine (linksFull_walk  W ).mono fun e W' ⟨he, bel⟩ => ?_
  subst he
  exact ⟨_, rfl, _, _, _, [], _, [], hW', trodAll_mk1 (shut_bool Try.underlying4 _), trodAll_mk0, rfl, bel.frame _, fun h => by cases h⟩

theorem over : Rows.linksFullRow.holds Try.pinned (OpenSpec.ofChange Rows.linksFullSpec) :=
  OpenClaim.holds_of_wide 8 Try.f8 rfl rfl rfl rfl rfl rfl rfl ⟨rfl, rfl, rfl, rfl, rfl⟩ rfl rfl rfl rfl rfl (by kernel_rfl) Try.func8 (by kernel_rfl)
    (of_decide_eq_true (by kernel_rfl)) (by unfold Func.isWrapper; first | (rw [if_pos (by decide +kernel)]; kernel_rfl) | (rw [if_neg (by decide +kernel)]; exact ⟨rfl, rfl⟩))
    (fun os started H enc _ => lifted os started H enc)

/-- THE STATEMENT -/
theorem proved : Rows.LinksFullSaid := over
#print axioms proved
end Go.Proofs.Ytggfemdgccgbpaa.linksFull

