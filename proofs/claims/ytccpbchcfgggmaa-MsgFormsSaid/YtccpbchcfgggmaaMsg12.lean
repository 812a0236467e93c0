/- MsgForms. -/
import Derived.Test.YtccpbchcfgggmaaMsg9
import Derived.Test.YtccpbchcfgggmaaNB
import Derived.LoopN
namespace Go.Proofs.Ytccpbchcfgggmaa
set_option linter.unusedVariables false
set_option linter.unusedSimpArgs false
set_option linter.unnecessarySimpa false
set_option maxRecDepth 100000
open Go.RowKit
theorem mtake_c (A : Option Addr) (n c : Nat) (b : Bytes) (w : World) (hl : b.length ≤ 140737488350000) (hx : Bs w (.slice A n c) b) (M : Mg) (E : Int) (h : mtake b = (M, E)) :
    Calls Try.prog 22 #[.slice A n c] w fun e w' => ∃ Ae ce As cs, e = .returned (.tuple #[.agg (mgcells M (.slice Ae M.ents.length ce) (.slice As M.snap.state.length cs)).toArray, .int .i64 E]) ∧ Enc.Sl enE w' noneAt (.slice Ae M.ents.length ce) M.ents ∧ Bs w' (.slice As M.snap.state.length cs) M.snap.state ∧ Ext w w' := by
  refine (mtake_b _ b w hl hx).mono ?_
  rw [h]
  rintro e w' ⟨ve, vs, rfl, h1, h2, h3⟩
  obtain ⟨Ae, ce, rfl, -, -⟩ := h1.form
  obtain ⟨As, cs, rfl, -, -, -⟩ := id h2
  exact ⟨Ae, ce, As, cs, rfl, h1, h2, h3⟩
def M7 : Mg := { Mg0 with kind := 7, fro := -1, too := 300, ok := true }
theorem M7_wide : M7.wide := by
  constructor <;> first | exact ⟨by decide, by decide⟩ | (constructor <;> simp [M7, Mg0, Cm.zero]) | simp [M7, Mg0]
theorem M7_light : M7.light := by constructor <;> simp [M7, Mg0, Cm.zero, Sn0]
theorem M7_ok : msgC.ok M7 := Mg.okC M7_wide M7_light (by decide) (by decide) (by decide) (.inr rfl) (by simp [M7, Mg0])
def want24 : Bytes := [7, 255, 255, 1, 44, 0, 0, 0, 0, 0, 0, 0, 0, 0, 0, 0, 0, 0, 0, 0, 0, 0, 0, 0, 0, 0, 0, 0, 0, 0, 0, 0, 0, 0, 0, 0, 0, 0, 0, 0, 0, 0, 0, 0, 0, 1, 0, 0, 0, 0, 0, 0, 0, 0, 0, 0, 0, 0, 0, 0, 0, 0, 0, 0, 0, 0, 0, 0, 0, 0, 0, 0, 0, 0, 0, 0, 0]
theorem M7_enc : msgC.enc M7 = want24 := by rfl
theorem t24_w : mtake want24 = (M7, 0) := by rw [← M7_enc]; exact mtake_put M7_ok
theorem t24_s : mtake (want24.take 76) = (Mg0, 3) := by rw [← M7_enc]; exact mtake_cut M7_ok 76 (by decide)
theorem t24_m : mtake (want24 ++ [0]) = (Mg0, 2) := by rw [← M7_enc]; exact mtake_more M7_ok 0
theorem t24_n : mtake [] = (Mg0, 3) := by rfl
theorem t24_0 : mtake (want24.set 0 0) = (Mg0, 2) := by rfl
theorem t24_1 : mtake (want24.set 0 8) = (Mg0, 2) := by rfl
theorem t24_2 : mtake (want24.set 45 2) = (Mg0, 2) := by rfl
theorem t24_3 : mtake (want24.set 72 17) = (Mg0, 2) := by rfl
set_option maxHeartbeats 12800000 in
theorem msgForms_walk (w : World) : Calls Try.prog 10 #[] w fun e w' => e = .returned (.bool true) ∧ Ext w w' := by
  have HP := hide (fun W => mput_b M7 (.slice none 0 0) (.slice none 0 0) W M7_wide M7_light (Enc.Sl.nil _ _ _) (Bs.nil _))
  go_enter Try.func10, Try.ntmps10
  go_wp2_with fail
  refine (begun24_b _).mono ?_
  rintro e W1 ⟨rfl, hx1⟩
  go_wp2_with fail
  refine (HP.out _).mono ?_
  rintro e W2 ⟨m, A, c, hm, rfl, hb, hx2⟩
  obtain rfl : m = want24 := hm.out.trans M7_enc
  have hl : want24.length = 77 := rfl
  rw [hl] at hb ⊢
  have hxw := hx1.trans' hx2
  clear hx1 hx2 hm
  obtain ⟨ad, y0, rfl, hba, hy0, hyc, hy255⟩ := Reads.byte hb.inv.2.2.2 (k := 0) (by decide)
  have rd : ∀ (k : Nat) (y : UInt8), want24[k]? = some y → 0 < k → W2.cell? ⟨ad.block, ad.off + k, none⟩ = some (.int .u8 (y.toNat : Nat)) := by
    intro k y hk h0
    obtain ⟨ad2, y1, had, -, hy1, hc1, -⟩ := Reads.byte hb.inv.2.2.2 (k := k) (List.getElem?_eq_some_iff.1 hk).1
    obtain rfl := Option.some.inj had
    rw [← Enc.add_pos _ _ h0, hc1, Option.some.inj (hk.symm.trans hy1.out)]
  have r1 : W2.cell? ⟨ad.block, ad.off + 1, none⟩ = some (.int .u8 255) := rd 1 255 rfl (by decide)
  have r2 : W2.cell? ⟨ad.block, ad.off + 2, none⟩ = some (.int .u8 255) := rd 2 255 rfl (by decide)
  have r3 : W2.cell? ⟨ad.block, ad.off + 3, none⟩ = some (.int .u8 1) := rd 3 1 rfl (by decide)
  have r4 : W2.cell? ⟨ad.block, ad.off + 4, none⟩ = some (.int .u8 44) := rd 4 44 rfl (by decide)
  have r45 : W2.cell? ⟨ad.block, ad.off + 45, none⟩ = some (.int .u8 1) := rd 45 1 rfl (by decide)
  clear rd hyc hy255 hy0
  go_upto_region 6 with fail
  obtain ⟨g, hg⟩ : ∃ g, W2.heap.size = g := ⟨_, rfl⟩
  have hG := Blk.new W2 52 #[.slice none 0 0, .slice none 0 0, .slice none 0 0, .slice none 0 0, .slice none 0 0]
  rw [hg] at hG
  have hgw : w.heap.size ≤ g := by rw [← hg]; exact hxw.size
  have hxw3 := hxw.alloc' (.cells #[.slice none 0 0, .slice none 0 0, .slice none 0 0, .slice none 0 0, .slice none 0 0] 52)
  have hbM := hb.ext ((Ext.rfl' W2).alloc' (.cells #[.slice none 0 0, .slice none 0 0, .slice none 0 0, .slice none 0 0, .slice none 0 0] 52))
  go_wp2_with fail
  have hgl : ad.block < g := by rw [← hg]; exact hba
  have OA : Off (.slice (some ad) 77 c) [g] := by
    intro a n c' he h0 hm
    simp only [Value.slice.injEq, Option.some.injEq] at he
    rw [← he.1] at hm
    simp at hm
    omega
  have hx23 : Ext w (W2.alloc (.cells #[.slice none 0 0, .slice none 0 0, .slice none 0 0, .slice none 0 0, .slice none 0 0] 52)) := hxw3
  clear r1 r2 r3 r4 r45 hb hba hxw

  clear hg hxw3 HP
  generalize hV0 : W2.alloc (.cells #[.slice none 0 0, .slice none 0 0, .slice none 0 0, .slice none 0 0, .slice none 0 0] 52) = V0 at *
  clear hV0
  have hG0lt : g < V0.heap.size := hG.lt
  refine wp_loop_rounds 6 ?_
  rw [rounds_succ]

  go_wp2_with (at_builtin; go_loud (refine wpList_app V0 _ rfl (.tmp 55) (.tmp 56) rfl _ [] rfl (nw_lit V0 _ (Ext.rfl' _) _ rfl) ((Ext.rfl' _).alloc' _) _ want24 rfl (hbM.ext ((Ext.rfl' _).alloc' _)) (by decide) ?_; intro k_ A_ q0 U0 hk_ hz_ hx_ hgr_; obtain rfl : k_ = want24 := hk_.out; obtain ⟨b0, qq_, he_, hs0, hl0, hn0⟩ := hz_.nb (by decide); rw [hl] at he_ ⊢; simp only [Value.slice.injEq, true_and] at he_; obtain ⟨rfl, rfl⟩ := he_; replace hG := hG.ext hx_; have cg_ := (hG.cell 0).trans rfl; have fg_ := hG.frozen 0))
  clear cg_ fg_ hgr_ hz_ hk_

  replace hG := hG.set_ 0 (.slice (some ⟨b0, 0, none⟩) 77 q0)
  replace hG : Blk (U0.setCell ⟨g, 0, none⟩ (.slice (some ⟨b0, 0, none⟩) 77 q0)) g 52 #[.slice (some ⟨b0, 0, none⟩) 77 q0, .slice none 0 0, .slice none 0 0, .slice none 0 0, .slice none 0 0] := hG
  have hC_ : Chg [g] V0 (U0.setCell ⟨g, 0, none⟩ (.slice (some ⟨b0, 0, none⟩) 77 q0)) := (hx_.chg [g]).trans ((Chg.refl [g] U0).set (by simp) _)
  have hD_ : Chg [g] U0 (U0.setCell ⟨g, 0, none⟩ (.slice (some ⟨b0, 0, none⟩) 77 q0)) := (Chg.refl [g] U0).set (by simp) _
  have hne0 : b0 ≠ g := by have := hG0lt; omega
  replace hn0 := hn0.chg hD_ (by simpa using hne0)
  replace hbM := hbM.chg hC_ OA
  replace hx23 := hx23.then_ hC_ (by simp; omega)
  have OA0 : Off (.slice (some ad) 77 c) [b0] := by
    intro a n c' he h0 hm
    simp only [Value.slice.injEq, Option.some.injEq] at he
    rw [← he.1] at hm
    simp at hm
    have := hG0lt
    omega
  generalize U0.setCell ⟨g, 0, none⟩ (.slice (some ⟨b0, 0, none⟩) 77 q0) = V1 at *
  clear hC_ hD_ hx_
  have hG0lt : g < V1.heap.size := hG.lt
  rw [rounds_succ]
  go_wp2_with (at_builtin; go_loud (refine wpList_app V1 _ rfl (.tmp 55) (.tmp 56) rfl _ [] rfl (nw_lit V1 _ (Ext.rfl' _) _ rfl) ((Ext.rfl' _).alloc' _) _ want24 rfl (hbM.ext ((Ext.rfl' _).alloc' _)) (by decide) ?_; intro k_ A_ q1 U1 hk_ hz_ hx_ hgr_; obtain rfl : k_ = want24 := hk_.out; obtain ⟨b1, qq_, he_, hs1, hl1, hn1⟩ := hz_.nb (by decide); rw [hl] at he_ ⊢; simp only [Value.slice.injEq, true_and] at he_; obtain ⟨rfl, rfl⟩ := he_; replace hG := hG.ext hx_; have cg_ := (hG.cell 1).trans rfl; have fg_ := hG.frozen 1))
  clear cg_ fg_ hgr_ hz_ hk_
  have hq0 : b0 < V1.heap.size := hn0.lt
  replace hG := hG.set_ 1 (.slice (some ⟨b1, 0, none⟩) 77 q1)
  replace hG : Blk (U1.setCell ⟨g, 1, none⟩ (.slice (some ⟨b1, 0, none⟩) 77 q1)) g 52 #[.slice (some ⟨b0, 0, none⟩) 77 q0, .slice (some ⟨b1, 0, none⟩) 77 q1, .slice none 0 0, .slice none 0 0, .slice none 0 0] := hG
  have hC_ : Chg [g] V1 (U1.setCell ⟨g, 1, none⟩ (.slice (some ⟨b1, 0, none⟩) 77 q1)) := (hx_.chg [g]).trans ((Chg.refl [g] U1).set (by simp) _)
  have hD_ : Chg [g] U1 (U1.setCell ⟨g, 1, none⟩ (.slice (some ⟨b1, 0, none⟩) 77 q1)) := (Chg.refl [g] U1).set (by simp) _
  have hne1 : b1 ≠ g := by have := hG0lt; omega
  replace hn1 := hn1.chg hD_ (by simpa using hne1)
  replace hbM := hbM.chg hC_ OA
  replace hx23 := hx23.then_ hC_ (by simp; omega)
  have hlt01 : b0 < b1 := by omega
  replace hn0 := hn0.chg hC_ (by simpa using hne0)
  have OA1 : Off (.slice (some ad) 77 c) [b1] := by
    intro a n c' he h0 hm
    simp only [Value.slice.injEq, Option.some.injEq] at he
    rw [← he.1] at hm
    simp at hm
    have := hG0lt
    omega
  generalize U1.setCell ⟨g, 1, none⟩ (.slice (some ⟨b1, 0, none⟩) 77 q1) = V2 at *
  clear hC_ hD_ hx_
  have hG0lt : g < V2.heap.size := hG.lt
  rw [rounds_succ]
  go_wp2_with (at_builtin; go_loud (refine wpList_app V2 _ rfl (.tmp 55) (.tmp 56) rfl _ [] rfl (nw_lit V2 _ (Ext.rfl' _) _ rfl) ((Ext.rfl' _).alloc' _) _ want24 rfl (hbM.ext ((Ext.rfl' _).alloc' _)) (by decide) ?_; intro k_ A_ q2 U2 hk_ hz_ hx_ hgr_; obtain rfl : k_ = want24 := hk_.out; obtain ⟨b2, qq_, he_, hs2, hl2, hn2⟩ := hz_.nb (by decide); rw [hl] at he_ ⊢; simp only [Value.slice.injEq, true_and] at he_; obtain ⟨rfl, rfl⟩ := he_; replace hG := hG.ext hx_; have cg_ := (hG.cell 2).trans rfl; have fg_ := hG.frozen 2))
  clear cg_ fg_ hgr_ hz_ hk_
  have hq0 : b0 < V2.heap.size := hn0.lt
  have hq1 : b1 < V2.heap.size := hn1.lt
  replace hG := hG.set_ 2 (.slice (some ⟨b2, 0, none⟩) 77 q2)
  replace hG : Blk (U2.setCell ⟨g, 2, none⟩ (.slice (some ⟨b2, 0, none⟩) 77 q2)) g 52 #[.slice (some ⟨b0, 0, none⟩) 77 q0, .slice (some ⟨b1, 0, none⟩) 77 q1, .slice (some ⟨b2, 0, none⟩) 77 q2, .slice none 0 0, .slice none 0 0] := hG
  have hC_ : Chg [g] V2 (U2.setCell ⟨g, 2, none⟩ (.slice (some ⟨b2, 0, none⟩) 77 q2)) := (hx_.chg [g]).trans ((Chg.refl [g] U2).set (by simp) _)
  have hD_ : Chg [g] U2 (U2.setCell ⟨g, 2, none⟩ (.slice (some ⟨b2, 0, none⟩) 77 q2)) := (Chg.refl [g] U2).set (by simp) _
  have hne2 : b2 ≠ g := by have := hG0lt; omega
  replace hn2 := hn2.chg hD_ (by simpa using hne2)
  replace hbM := hbM.chg hC_ OA
  replace hx23 := hx23.then_ hC_ (by simp; omega)
  have hlt02 : b0 < b2 := by omega
  replace hn0 := hn0.chg hC_ (by simpa using hne0)
  have hlt12 : b1 < b2 := by omega
  replace hn1 := hn1.chg hC_ (by simpa using hne1)
  have OA2 : Off (.slice (some ad) 77 c) [b2] := by
    intro a n c' he h0 hm
    simp only [Value.slice.injEq, Option.some.injEq] at he
    rw [← he.1] at hm
    simp at hm
    have := hG0lt
    omega
  generalize U2.setCell ⟨g, 2, none⟩ (.slice (some ⟨b2, 0, none⟩) 77 q2) = V3 at *
  clear hC_ hD_ hx_
  have hG0lt : g < V3.heap.size := hG.lt
  rw [rounds_succ]
  go_wp2_with (at_builtin; go_loud (refine wpList_app V3 _ rfl (.tmp 55) (.tmp 56) rfl _ [] rfl (nw_lit V3 _ (Ext.rfl' _) _ rfl) ((Ext.rfl' _).alloc' _) _ want24 rfl (hbM.ext ((Ext.rfl' _).alloc' _)) (by decide) ?_; intro k_ A_ q3 U3 hk_ hz_ hx_ hgr_; obtain rfl : k_ = want24 := hk_.out; obtain ⟨b3, qq_, he_, hs3, hl3, hn3⟩ := hz_.nb (by decide); rw [hl] at he_ ⊢; simp only [Value.slice.injEq, true_and] at he_; obtain ⟨rfl, rfl⟩ := he_; replace hG := hG.ext hx_; have cg_ := (hG.cell 3).trans rfl; have fg_ := hG.frozen 3))
  clear cg_ fg_ hgr_ hz_ hk_
  have hq0 : b0 < V3.heap.size := hn0.lt
  have hq1 : b1 < V3.heap.size := hn1.lt
  have hq2 : b2 < V3.heap.size := hn2.lt
  replace hG := hG.set_ 3 (.slice (some ⟨b3, 0, none⟩) 77 q3)
  replace hG : Blk (U3.setCell ⟨g, 3, none⟩ (.slice (some ⟨b3, 0, none⟩) 77 q3)) g 52 #[.slice (some ⟨b0, 0, none⟩) 77 q0, .slice (some ⟨b1, 0, none⟩) 77 q1, .slice (some ⟨b2, 0, none⟩) 77 q2, .slice (some ⟨b3, 0, none⟩) 77 q3, .slice none 0 0] := hG
  have hC_ : Chg [g] V3 (U3.setCell ⟨g, 3, none⟩ (.slice (some ⟨b3, 0, none⟩) 77 q3)) := (hx_.chg [g]).trans ((Chg.refl [g] U3).set (by simp) _)
  have hD_ : Chg [g] U3 (U3.setCell ⟨g, 3, none⟩ (.slice (some ⟨b3, 0, none⟩) 77 q3)) := (Chg.refl [g] U3).set (by simp) _
  have hne3 : b3 ≠ g := by have := hG0lt; omega
  replace hn3 := hn3.chg hD_ (by simpa using hne3)
  replace hbM := hbM.chg hC_ OA
  replace hx23 := hx23.then_ hC_ (by simp; omega)
  have hlt03 : b0 < b3 := by omega
  replace hn0 := hn0.chg hC_ (by simpa using hne0)
  have hlt13 : b1 < b3 := by omega
  replace hn1 := hn1.chg hC_ (by simpa using hne1)
  have hlt23 : b2 < b3 := by omega
  replace hn2 := hn2.chg hC_ (by simpa using hne2)
  have OA3 : Off (.slice (some ad) 77 c) [b3] := by
    intro a n c' he h0 hm
    simp only [Value.slice.injEq, Option.some.injEq] at he
    rw [← he.1] at hm
    simp at hm
    have := hG0lt
    omega
  generalize U3.setCell ⟨g, 3, none⟩ (.slice (some ⟨b3, 0, none⟩) 77 q3) = V4 at *
  clear hC_ hD_ hx_
  have hG0lt : g < V4.heap.size := hG.lt
  rw [rounds_succ]
  go_wp2_with (at_builtin; go_loud (refine wpList_app V4 _ rfl (.tmp 55) (.tmp 56) rfl _ [] rfl (nw_lit V4 _ (Ext.rfl' _) _ rfl) ((Ext.rfl' _).alloc' _) _ want24 rfl (hbM.ext ((Ext.rfl' _).alloc' _)) (by decide) ?_; intro k_ A_ q4 U4 hk_ hz_ hx_ hgr_; obtain rfl : k_ = want24 := hk_.out; obtain ⟨b4, qq_, he_, hs4, hl4, hn4⟩ := hz_.nb (by decide); rw [hl] at he_ ⊢; simp only [Value.slice.injEq, true_and] at he_; obtain ⟨rfl, rfl⟩ := he_; replace hG := hG.ext hx_; have cg_ := (hG.cell 4).trans rfl; have fg_ := hG.frozen 4))
  clear cg_ fg_ hgr_ hz_ hk_
  have hq0 : b0 < V4.heap.size := hn0.lt
  have hq1 : b1 < V4.heap.size := hn1.lt
  have hq2 : b2 < V4.heap.size := hn2.lt
  have hq3 : b3 < V4.heap.size := hn3.lt
  replace hG := hG.set_ 4 (.slice (some ⟨b4, 0, none⟩) 77 q4)
  replace hG : Blk (U4.setCell ⟨g, 4, none⟩ (.slice (some ⟨b4, 0, none⟩) 77 q4)) g 52 #[.slice (some ⟨b0, 0, none⟩) 77 q0, .slice (some ⟨b1, 0, none⟩) 77 q1, .slice (some ⟨b2, 0, none⟩) 77 q2, .slice (some ⟨b3, 0, none⟩) 77 q3, .slice (some ⟨b4, 0, none⟩) 77 q4] := hG
  have hC_ : Chg [g] V4 (U4.setCell ⟨g, 4, none⟩ (.slice (some ⟨b4, 0, none⟩) 77 q4)) := (hx_.chg [g]).trans ((Chg.refl [g] U4).set (by simp) _)
  have hD_ : Chg [g] U4 (U4.setCell ⟨g, 4, none⟩ (.slice (some ⟨b4, 0, none⟩) 77 q4)) := (Chg.refl [g] U4).set (by simp) _
  have hne4 : b4 ≠ g := by have := hG0lt; omega
  replace hn4 := hn4.chg hD_ (by simpa using hne4)
  replace hbM := hbM.chg hC_ OA
  replace hx23 := hx23.then_ hC_ (by simp; omega)
  have hlt04 : b0 < b4 := by omega
  replace hn0 := hn0.chg hC_ (by simpa using hne0)
  have hlt14 : b1 < b4 := by omega
  replace hn1 := hn1.chg hC_ (by simpa using hne1)
  have hlt24 : b2 < b4 := by omega
  replace hn2 := hn2.chg hC_ (by simpa using hne2)
  have hlt34 : b3 < b4 := by omega
  replace hn3 := hn3.chg hC_ (by simpa using hne3)
  have OA4 : Off (.slice (some ad) 77 c) [b4] := by
    intro a n c' he h0 hm
    simp only [Value.slice.injEq, Option.some.injEq] at he
    rw [← he.1] at hm
    simp at hm
    have := hG0lt
    omega
  generalize U4.setCell ⟨g, 4, none⟩ (.slice (some ⟨b4, 0, none⟩) 77 q4) = V5 at *
  clear hC_ hD_ hx_
  have hG0lt : g < V5.heap.size := hG.lt
  rw [rounds_succ]
  go_upto_region 11 with fail
  have hd01 : b0 ≠ b1 := by have := hlt01; omega
  have hd02 : b0 ≠ b2 := by have := hlt02; omega
  have hd03 : b0 ≠ b3 := by have := hlt03; omega
  have hd04 : b0 ≠ b4 := by have := hlt04; omega
  have hd12 : b1 ≠ b2 := by have := hlt12; omega
  have hd13 : b1 ≠ b3 := by have := hlt13; omega
  have hd14 : b1 ≠ b4 := by have := hlt14; omega
  have hd23 : b2 ≠ b3 := by have := hlt23; omega
  have hd24 : b2 ≠ b4 := by have := hlt24; omega
  have hd34 : b3 ≠ b4 := by have := hlt34; omega
  have cg_ := (hG.cell 0).trans rfl
  have cb_ : V5.cell? ⟨b0, 0, none⟩ = some (.int .u8 7) := hn0.cell 0 7 rfl
  have fb_ := hn0.frozen 0
  go_upto_region 12 with fail
  clear cg_ cb_ fb_
  have hC_ : Chg [b0] V5 (V5.setCell ⟨b0, 0, none⟩ (.int .u8 0)) := (Chg.refl [b0] V5).set (by simp) _
  replace hG := hG.chg hC_ (by simpa using fun h => hne0 h.symm)
  replace hx23 := hx23.then_ hC_ (by simp; omega)
  replace hbM := hbM.chg hC_ OA0
  have hk_ : NB (V5.setCell ⟨b0, 0, none⟩ (.int .u8 0)) b0 q0 (want24.set 0 0) := hn0.set 0 0
  clear hn0
  have hn0 := hk_
  clear hk_
  replace hn1 := hn1.chg hC_ (by simpa using hd01.symm)
  replace hn2 := hn2.chg hC_ (by simpa using hd02.symm)
  replace hn3 := hn3.chg hC_ (by simpa using hd03.symm)
  replace hn4 := hn4.chg hC_ (by simpa using hd04.symm)
  clear hC_
  generalize V5.setCell ⟨b0, 0, none⟩ (.int .u8 0) = V6 at *
  have cg_ := (hG.cell 1).trans rfl
  have cb_ : V6.cell? ⟨b1, 0, none⟩ = some (.int .u8 7) := hn1.cell 0 7 rfl
  have fb_ := hn1.frozen 0
  go_upto_region 13 with fail
  clear cg_ cb_ fb_
  have hC_ : Chg [b1] V6 (V6.setCell ⟨b1, 0, none⟩ (.int .u8 8)) := (Chg.refl [b1] V6).set (by simp) _
  replace hG := hG.chg hC_ (by simpa using fun h => hne1 h.symm)
  replace hx23 := hx23.then_ hC_ (by simp; omega)
  replace hbM := hbM.chg hC_ OA1
  have hk_ : NB (V6.setCell ⟨b1, 0, none⟩ (.int .u8 8)) b1 q1 (want24.set 0 8) := hn1.set 0 8
  clear hn1
  have hn1 := hk_
  clear hk_
  replace hn0 := hn0.chg hC_ (by simpa using hd01)
  replace hn2 := hn2.chg hC_ (by simpa using hd12.symm)
  replace hn3 := hn3.chg hC_ (by simpa using hd13.symm)
  replace hn4 := hn4.chg hC_ (by simpa using hd14.symm)
  clear hC_
  generalize V6.setCell ⟨b1, 0, none⟩ (.int .u8 8) = V7 at *
  have cg_ := (hG.cell 2).trans rfl
  have cb_ : V7.cell? ⟨b2, 45, none⟩ = some (.int .u8 1) := hn2.cell 45 1 rfl
  have fb_ := hn2.frozen 45
  go_upto_region 14 with fail
  clear cg_ cb_ fb_
  have hC_ : Chg [b2] V7 (V7.setCell ⟨b2, 45, none⟩ (.int .u8 2)) := (Chg.refl [b2] V7).set (by simp) _
  replace hG := hG.chg hC_ (by simpa using fun h => hne2 h.symm)
  replace hx23 := hx23.then_ hC_ (by simp; omega)
  replace hbM := hbM.chg hC_ OA2
  have hk_ : NB (V7.setCell ⟨b2, 45, none⟩ (.int .u8 2)) b2 q2 (want24.set 45 2) := hn2.set 45 2
  clear hn2
  have hn2 := hk_
  clear hk_
  replace hn0 := hn0.chg hC_ (by simpa using hd02)
  replace hn1 := hn1.chg hC_ (by simpa using hd12)
  replace hn3 := hn3.chg hC_ (by simpa using hd23.symm)
  replace hn4 := hn4.chg hC_ (by simpa using hd24.symm)
  clear hC_
  generalize V7.setCell ⟨b2, 45, none⟩ (.int .u8 2) = V8 at *
  have cg_ := (hG.cell 3).trans rfl
  have cb_ : V8.cell? ⟨b3, 72, none⟩ = some (.int .u8 0) := hn3.cell 72 0 rfl
  have fb_ := hn3.frozen 72
  go_upto_region 15 with fail
  clear cg_ cb_ fb_
  have hC_ : Chg [b3] V8 (V8.setCell ⟨b3, 72, none⟩ (.int .u8 17)) := (Chg.refl [b3] V8).set (by simp) _
  replace hG := hG.chg hC_ (by simpa using fun h => hne3 h.symm)
  replace hx23 := hx23.then_ hC_ (by simp; omega)
  replace hbM := hbM.chg hC_ OA3
  have hk_ : NB (V8.setCell ⟨b3, 72, none⟩ (.int .u8 17)) b3 q3 (want24.set 72 17) := hn3.set 72 17
  clear hn3
  have hn3 := hk_
  clear hk_
  replace hn0 := hn0.chg hC_ (by simpa using hd03)
  replace hn1 := hn1.chg hC_ (by simpa using hd13)
  replace hn2 := hn2.chg hC_ (by simpa using hd23)
  replace hn4 := hn4.chg hC_ (by simpa using hd34.symm)
  clear hC_
  generalize V8.setCell ⟨b3, 72, none⟩ (.int .u8 17) = V9 at *
  have h78 : (want24 ++ [0]).length = 78 := rfl
  have cg_ := (hG.cell 4).trans rfl
  go_wp2_with (at_builtin; go_loud (refine wpList_app w _ rfl (.tmp 72) (.tmp 73) rfl _ want24 rfl ((hn4.ext ((Ext.rfl' _).alloc' _)).own (by omega)) (hx23.alloc' _) _ [0] rfl (Bs.lit (w := V9) 5 [0] _ rfl (by simp [maxLen]) (0, 0)) (by decide) ?_; intro k_ A4 c4 U9 hk_ hz_ hx_ hgr_; obtain rfl : k_ = want24 ++ [0] := hk_.out; rw [h78] at hz_ ⊢; have hCa_ : Chg [b4] V9 _ := (((Ext.rfl' V9).alloc' _).chg [b4]).trans hgr_.chg'; replace hG := hG.chg hCa_ (by simpa using fun h => hne4 h.symm); have cg2_ := (hG.cell 4).trans rfl; have fg_ := hG.frozen 4))
  refine wp_loop_rounds 6 ?_
  rw [rounds_succ]
  have hA4 : ∀ ad2, (Value.slice A4 78 c4).ownBlock = some ad2 → ad2 ∉ [g] := by
    intro ad2 h hm
    have := own_blk_ne hz_ hG (by decide)
    simp at hm
    subst hm
    exact this h
  have hD_ : Chg [g] U9 (U9.setCell ⟨g, 4, none⟩ (.slice A4 78 c4)) := (Chg.refl [g] U9).set (by simp) _
  have bs4 := (hz_.chg hD_ hA4).bs
  replace hx23 := hx_.then_ hD_ (by simp; omega)
  replace hbM := (hbM.chg hCa_ OA4).chg hD_ OA
  replace hG := hG.set_ 4 (.slice A4 78 c4)
  replace hG : Blk (U9.setCell ⟨g, 4, none⟩ (.slice A4 78 c4)) g 52 #[.slice (some ⟨b0, 0, none⟩) 77 q0, .slice (some ⟨b1, 0, none⟩) 77 q1, .slice (some ⟨b2, 0, none⟩) 77 q2, .slice (some ⟨b3, 0, none⟩) 77 q3, .slice A4 78 c4] := hG
  clear hn4
  replace hn0 := (hn0.chg hCa_ (by simpa using hd04)).chg hD_ (by simpa using hne0)
  have bs0 : Bs _ (.slice (some ⟨b0, 0, none⟩) 77 q0) (want24.set 0 0) := hn0.bs
  clear hn0
  replace hn1 := (hn1.chg hCa_ (by simpa using hd14)).chg hD_ (by simpa using hne1)
  have bs1 : Bs _ (.slice (some ⟨b1, 0, none⟩) 77 q1) (want24.set 0 8) := hn1.bs
  clear hn1
  replace hn2 := (hn2.chg hCa_ (by simpa using hd24)).chg hD_ (by simpa using hne2)
  have bs2 : Bs _ (.slice (some ⟨b2, 0, none⟩) 77 q2) (want24.set 45 2) := hn2.bs
  clear hn2
  replace hn3 := (hn3.chg hCa_ (by simpa using hd34)).chg hD_ (by simpa using hne3)
  have bs3 : Bs _ (.slice (some ⟨b3, 0, none⟩) 77 q3) (want24.set 72 17) := hn3.bs
  clear hn3
  clear hD_ hCa_ hgr_ hz_ hx_ hA4 cg_ cg2_ fg_
  generalize U9.setCell ⟨g, 4, none⟩ (.slice A4 78 c4) = X0 at *
  have cg_ := (hG.cell 0).trans rfl
  go_wp2_with fail
  clear cg_
  refine (mtake_c _ _ _ (want24.set 0 0) _ (by decide) bs0 Mg0 2 t24_0).mono ?_
  rintro e Y0 ⟨E0, e0, S0, s0, rfl, -, -, hx_⟩
  have hN_ := Blk.new Y0 44 (mgcells Mg0 (.slice none 0 0) (.slice none 0 0)).toArray
  go_wp2_with (refine st_stop rfl 44 _ _ rfl Y0.heap.size (mgcells Mg0 (.slice E0 Mg0.ents.length e0) (.slice S0 Mg0.snap.state.length s0)).toArray rfl rfl 44 _ hN_ (by kernel_rfl) (by simp) (mg_one _ _ _ _ _ _ _) ?_)
  intro X1 hB_ hc_
  have hy_ : Ext X0 X1 := hx_.trans' (((Ext.rfl' Y0).alloc' _).then_ hc_ (by simp))
  clear hc_ hN_ hx_
  generalize Y0.heap.size = gm0 at *
  replace hG := hG.ext hy_
  replace hbM := hbM.ext hy_
  replace bs1 := bs1.ext hy_
  replace bs2 := bs2.ext hy_
  replace bs3 := bs3.ext hy_
  replace bs4 := bs4.ext hy_
  replace hx23 := hx23.trans' hy_
  clear hy_
  clear hB_
  go_wp2_with fail
  rw [rounds_succ]
  have cg_ := (hG.cell 1).trans rfl
  go_wp2_with fail
  clear cg_
  refine (mtake_c _ _ _ (want24.set 0 8) _ (by decide) bs1 Mg0 2 t24_1).mono ?_
  rintro e Y1 ⟨E1, e1, S1, s1, rfl, -, -, hx_⟩
  have hN_ := Blk.new Y1 44 (mgcells Mg0 (.slice none 0 0) (.slice none 0 0)).toArray
  go_wp2_with (refine st_stop rfl 44 _ _ rfl Y1.heap.size (mgcells Mg0 (.slice E1 Mg0.ents.length e1) (.slice S1 Mg0.snap.state.length s1)).toArray rfl rfl 44 _ hN_ (by kernel_rfl) (by simp) (mg_one _ _ _ _ _ _ _) ?_)
  intro X2 hB_ hc_
  have hy_ : Ext X1 X2 := hx_.trans' (((Ext.rfl' Y1).alloc' _).then_ hc_ (by simp))
  clear hc_ hN_ hx_
  generalize Y1.heap.size = gm1 at *
  replace hG := hG.ext hy_
  replace hbM := hbM.ext hy_
  replace bs2 := bs2.ext hy_
  replace bs3 := bs3.ext hy_
  replace bs4 := bs4.ext hy_
  replace hx23 := hx23.trans' hy_
  clear hy_
  clear hB_
  go_wp2_with fail
  rw [rounds_succ]
  have cg_ := (hG.cell 2).trans rfl
  go_wp2_with fail
  clear cg_
  refine (mtake_c _ _ _ (want24.set 45 2) _ (by decide) bs2 Mg0 2 t24_2).mono ?_
  rintro e Y2 ⟨E2, e2, S2, s2, rfl, -, -, hx_⟩
  have hN_ := Blk.new Y2 44 (mgcells Mg0 (.slice none 0 0) (.slice none 0 0)).toArray
  go_wp2_with (refine st_stop rfl 44 _ _ rfl Y2.heap.size (mgcells Mg0 (.slice E2 Mg0.ents.length e2) (.slice S2 Mg0.snap.state.length s2)).toArray rfl rfl 44 _ hN_ (by kernel_rfl) (by simp) (mg_one _ _ _ _ _ _ _) ?_)
  intro X3 hB_ hc_
  have hy_ : Ext X2 X3 := hx_.trans' (((Ext.rfl' Y2).alloc' _).then_ hc_ (by simp))
  clear hc_ hN_ hx_
  generalize Y2.heap.size = gm2 at *
  replace hG := hG.ext hy_
  replace hbM := hbM.ext hy_
  replace bs3 := bs3.ext hy_
  replace bs4 := bs4.ext hy_
  replace hx23 := hx23.trans' hy_
  clear hy_
  clear hB_
  go_wp2_with fail
  rw [rounds_succ]
  have cg_ := (hG.cell 3).trans rfl
  go_wp2_with fail
  clear cg_
  refine (mtake_c _ _ _ (want24.set 72 17) _ (by decide) bs3 Mg0 2 t24_3).mono ?_
  rintro e Y3 ⟨E3, e3, S3, s3, rfl, -, -, hx_⟩
  have hN_ := Blk.new Y3 44 (mgcells Mg0 (.slice none 0 0) (.slice none 0 0)).toArray
  go_wp2_with (refine st_stop rfl 44 _ _ rfl Y3.heap.size (mgcells Mg0 (.slice E3 Mg0.ents.length e3) (.slice S3 Mg0.snap.state.length s3)).toArray rfl rfl 44 _ hN_ (by kernel_rfl) (by simp) (mg_one _ _ _ _ _ _ _) ?_)
  intro X4 hB_ hc_
  have hy_ : Ext X3 X4 := hx_.trans' (((Ext.rfl' Y3).alloc' _).then_ hc_ (by simp))
  clear hc_ hN_ hx_
  generalize Y3.heap.size = gm3 at *
  replace hG := hG.ext hy_
  replace hbM := hbM.ext hy_
  replace bs4 := bs4.ext hy_
  replace hx23 := hx23.trans' hy_
  clear hy_
  clear hB_
  go_wp2_with fail
  rw [rounds_succ]
  have cg_ := (hG.cell 4).trans rfl
  go_wp2_with fail
  clear cg_
  refine (mtake_c _ _ _ (want24 ++ [0]) _ (by decide) bs4 Mg0 2 t24_m).mono ?_
  rintro e Y4 ⟨E4, e4, S4, s4, rfl, -, -, hx_⟩
  have hN_ := Blk.new Y4 44 (mgcells Mg0 (.slice none 0 0) (.slice none 0 0)).toArray
  go_wp2_with (refine st_stop rfl 44 _ _ rfl Y4.heap.size (mgcells Mg0 (.slice E4 Mg0.ents.length e4) (.slice S4 Mg0.snap.state.length s4)).toArray rfl rfl 44 _ hN_ (by kernel_rfl) (by simp) (mg_one _ _ _ _ _ _ _) ?_)
  intro X5 hB_ hc_
  have hy_ : Ext X4 X5 := hx_.trans' (((Ext.rfl' Y4).alloc' _).then_ hc_ (by simp))
  clear hc_ hN_ hx_
  generalize Y4.heap.size = gm4 at *
  replace hG := hG.ext hy_
  replace hbM := hbM.ext hy_
  replace hx23 := hx23.trans' hy_
  clear hy_
  clear hB_
  go_wp2_with fail
  rw [rounds_succ]
  go_wp2_with fail
  refine (mtake_c _ _ _ want24 _ (by decide) hbM M7 0 t24_w).mono ?_
  rintro e Y5 ⟨E5, e5, S5, s5, rfl, -, -, hx_⟩
  have hN_ := Blk.new Y5 44 (mgcells Mg0 (.slice none 0 0) (.slice none 0 0)).toArray
  go_wp2_with (refine st_stop rfl 44 _ _ rfl Y5.heap.size (mgcells M7 (.slice E5 M7.ents.length e5) (.slice S5 M7.snap.state.length s5)).toArray rfl rfl 44 _ hN_ (by kernel_rfl) (by simp) (mg_one _ _ _ _ _ _ _) ?_)
  intro X6 hB_ hc_
  have hy_ : Ext X5 X6 := hx_.trans' (((Ext.rfl' Y5).alloc' _).then_ hc_ (by simp))
  clear hc_ hN_ hx_
  generalize Y5.heap.size = gm5 at *
  replace hbM := hbM.ext hy_
  replace hx23 := hx23.trans' hy_
  clear hy_
  have hB7 := hB_
  clear hB_ hG
  have hbF : Bs X6 (.slice (some ad) 76 c) (want24.take 76) := hbM.front (by decide)
  have hcap : 77 ≤ c := hbM.inv.2.1
  go_wp2_with fail
  refine (mtake_c _ _ _ (want24.take 76) _ (by decide) hbF Mg0 3 t24_s).mono ?_
  rintro e Y6 ⟨E6, e6, S6, s6, rfl, -, -, hx_⟩
  have hN_ := Blk.new Y6 44 (mgcells Mg0 (.slice none 0 0) (.slice none 0 0)).toArray
  go_wp2_with (refine st_stop rfl 44 _ _ rfl Y6.heap.size (mgcells Mg0 (.slice E6 Mg0.ents.length e6) (.slice S6 Mg0.snap.state.length s6)).toArray rfl rfl 44 _ hN_ (by kernel_rfl) (by simp) (mg_one _ _ _ _ _ _ _) ?_)
  intro X7 hB_ hc_
  have hy_ : Ext X6 X7 := hx_.trans' (((Ext.rfl' Y6).alloc' _).then_ hc_ (by simp))
  clear hc_ hN_ hx_
  generalize Y6.heap.size = gm6 at *
  replace hB7 := hB7.ext hy_
  replace hx23 := hx23.trans' hy_
  clear hy_
  clear hB_
  go_wp2_with fail
  have hnil := mtake_c none 0 0 [] X7 (by decide) (Bs.nil _) Mg0 3 t24_n
  refine (mtake_c _ _ _ [] _ (by decide) (Bs.nil _) Mg0 3 t24_n).mono ?_
  rintro e Y7 ⟨E7, e7, S7, s7, rfl, -, -, hx_⟩
  have hN_ := Blk.new Y7 44 (mgcells Mg0 (.slice none 0 0) (.slice none 0 0)).toArray
  go_wp2_with (refine st_stop rfl 44 _ _ rfl Y7.heap.size (mgcells Mg0 (.slice E7 Mg0.ents.length e7) (.slice S7 Mg0.snap.state.length s7)).toArray rfl rfl 44 _ hN_ (by kernel_rfl) (by simp) (mg_one _ _ _ _ _ _ _) ?_)
  intro X8 hB_ hc_
  have hy_ : Ext X7 X8 := hx_.trans' (((Ext.rfl' Y7).alloc' _).then_ hc_ (by simp))
  clear hc_ hN_ hx_
  generalize Y7.heap.size = gm7 at *
  replace hB7 := hB7.ext hy_
  replace hx23 := hx23.trans' hy_
  clear hy_
  clear hB_ hnil
  have w1 : X8.cell? ⟨gm5, 1, none⟩ = some (.int .i64 (-1)) := (hB7.cell 1).trans rfl
  have w2 : X8.cell? ⟨gm5, 2, none⟩ = some (.int .i64 300) := (hB7.cell 2).trans rfl
  have w9 : X8.cell? ⟨gm5, 9, none⟩ = some (.bool true) := (hB7.cell 9).trans rfl
  go_wp2
  go_ret
  exact ⟨rfl, hx23⟩
end Go.Proofs.Ytccpbchcfgggmaa
