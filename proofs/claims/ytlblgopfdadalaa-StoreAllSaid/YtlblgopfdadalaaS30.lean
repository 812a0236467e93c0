/- A part of the proof of 'StoreAll'. -/
import Derived.Test.YtlblgopfdadalaaS16
import Derived.Test.YtlblgopfdadalaaS17
import Derived.Test.YtlblgopfdadalaaS7
import Derived.Deep.CutBlock
namespace Go.Proofs.Ytlblgopfdadalaa
set_option linter.unusedVariables false
set_option linter.unusedSimpArgs false
set_option linter.unnecessarySimpa false
set_option maxRecDepth 100000
open Go.RowKit
def RetRecR (w w' : World) (e : Ending) (b : Bytes) : Prop := ∃ (r : Rec) (v1 v2 : Value) (is : Bool), e = .returned (.tuple #[.agg (recells r v1 v2).toArray, .bool is]) ∧ reE.rep w' (fun k => k < w.heap.size) (recells r v1 v2) r ∧ Hid (orec b = if is = true then some r else none) ∧ Ext w w'
theorem BsX.app {w0 w : World} {X : Avoid} {v : Value} {l : Bytes} (h : App w0 w v l) (hX : ∀ k, X k → k < w0.heap.size) : Enc.BsX w X v l := by
  rcases h with ⟨rfl, h⟩ | h
  · refine ⟨App.bs (.inl ⟨rfl, h⟩), ?_⟩
    rintro ad n c rfl h0
    obtain ⟨A, hA, -⟩ := h
    simp only [Value.slice.injEq] at hA
    omega
  · exact Enc.BsX.nw h hX
theorem BsX.rest {w : World} {X : Avoid} {A : Option Addr} {n c k : Nat} {l : Bytes} (h : Enc.BsX w X (.slice A n c) l) (hk : k ≤ n) : Enc.BsX w X (.slice (cutA 1 A c k) (n - k) (c - k)) (l.drop k) := by
  refine ⟨h.1.rest hk, ?_⟩
  rintro ad n' c' he h0
  simp only [Value.slice.injEq] at he
  obtain ⟨e1, rfl, rfl⟩ := he
  unfold cutA at e1
  rcases A with _ | a
  · split at e1 <;> simp at e1
  · have hb : ad.block = a.block := by
      split at e1
      · rw [Option.some.inj e1]
      · simp only [Option.map_some, Option.some.injEq] at e1
        rw [← e1, block_of_add]
    rw [hb]
    exact h.2 a n c rfl (by omega)
theorem rec0_rep (w : World) (X : Avoid) : reE.rep w X (recells ⟨0, Hd0, En0, 0, Sn0⟩ (.slice none 0 0) (.slice none 0 0)) ⟨0, Hd0, En0, 0, Sn0⟩ :=
  re_rep.2 ⟨_, _, rfl, by constructor <;> simp [Hd0, En0, Sn0], Enc.BsX.nil _ _, Enc.BsX.nil _ _⟩
set_option maxHeartbeats 6400000 in
theorem rrecord_b (x : Value) (b : Bytes) (w : World) (hl : b.length ≤ 100000) (hx : Bs w x b) :
    Calls Try.prog 90 #[x] w fun e w' => RetRecR w w' e b := by
  obtain ⟨A, c, rfl, hc1, hc2, hrd⟩ := id hx
  obtain ⟨i0, hi0, hz0, hz1, hz2⟩ := info_parts ti5
  have hx0 : Ext w (w.alloc (.cells #[.int .i64 0, .int .u64 0, .int .i64 0, .int .u64 0, .slice none 0 0, .int .u64 0, .int .u64 0, .int .u64 0, .slice none 0 0] 101)) := (Ext.rfl' w).alloc' _
  have hR := Blk.new w 101 #[.int .i64 0, .int .u64 0, .int .i64 0, .int .u64 0, .slice none 0 0, .int .u64 0, .int .u64 0, .int .u64 0, .slice none 0 0]
  obtain ⟨g, hg⟩ : ∃ g, w.heap.size = g := ⟨_, rfl⟩
  rw [hg] at hR
  by_cases h9 : (b.length : Int) < 9
  · have HO : Hid (orec b = none) := by unfold Hid orec; rw [if_pos (by omega)]
    go_enter Try.func90, Try.ntmps90
    go_wp2
    try simp only [Exit.inBlock, Exit.then]
    refine bodyPost_ret (results_cell2 rfl _ _ g 101 #[.int .i64 0, .int .u64 0, .int .i64 0, .int .u64 0, .slice none 0 0, .int .u64 0, .int .u64 0, .int .u64 0, .slice none 0 0] (0, 0) _ rfl hR Try.underlying101 rfl (by kernel_rfl)) rfl ?_
    exact ⟨⟨0, Hd0, En0, 0, Sn0⟩, .slice none 0 0, .slice none 0 0, false, rfl, rec0_rep _ _, hide (by rw [HO.out]; rfl), hx0⟩
  · have h9' : 9 ≤ b.length := by omega
    obtain ⟨ad, x0, rfl, hbd, hx0e, hcell, hx255⟩ := hrd.byte (k := 0) (by omega)
    have hv1 : val (b.take 1) = x0.toNat := by
      have : b.take 1 = [x0] := by
        cases b with
        | nil => simp at h9'
        | cons y t => have := hx0e.out; simp at this; simp [this]
      rw [this, val_one]
    have p0 : (w.alloc (.cells #[.int .i64 0, .int .u64 0, .int .i64 0, .int .u64 0, .slice none 0 0, .int .u64 0, .int .u64 0, .int .u64 0, .slice none 0 0] 101)).cell? ad = some (.int .u8 (x0.toNat : Nat)) := (hx0.cell (p := ad) hbd).trans hcell
    have hXa := Blk.new (w.alloc (.cells #[.int .i64 0, .int .u64 0, .int .i64 0, .int .u64 0, .slice none 0 0, .int .u64 0, .int .u64 0, .int .u64 0, .slice none 0 0] 101)) 101 (recells ⟨x0.toNat, Hd0, En0, 0, Sn0⟩ (.slice none 0 0) (.slice none 0 0)).toArray
    have hxa : Ext (w.alloc (.cells #[.int .i64 0, .int .u64 0, .int .i64 0, .int .u64 0, .slice none 0 0, .int .u64 0, .int .u64 0, .int .u64 0, .slice none 0 0] 101)) ((w.alloc (.cells #[.int .i64 0, .int .u64 0, .int .i64 0, .int .u64 0, .slice none 0 0, .int .u64 0, .int .u64 0, .int .u64 0, .slice none 0 0] 101)).alloc (.cells (recells ⟨x0.toNat, Hd0, En0, 0, Sn0⟩ (.slice none 0 0) (.slice none 0 0)).toArray 101)) := (Ext.rfl' _).alloc' _
    rw [show (w.alloc (.cells #[.int .i64 0, .int .u64 0, .int .i64 0, .int .u64 0, .slice none 0 0, .int .u64 0, .int .u64 0, .int .u64 0, .slice none 0 0] 101)).heap.size = g + 1 by simp [hg]] at hXa
    replace hR := hR.ext hxa
    have hx1 := hx0.trans' hxa
    go_enter Try.func90, Try.ntmps90
    go_upto_region 4 with fail
    change Code.wp _ _ _ _ ((w.alloc (.cells #[.int .i64 0, .int .u64 0, .int .i64 0, .int .u64 0, .slice none 0 0, .int .u64 0, .int .u64 0, .int .u64 0, .slice none 0 0] 101)).alloc (.cells (recells ⟨x0.toNat, Hd0, En0, 0, Sn0⟩ (.slice none 0 0) (.slice none 0 0)).toArray 101))
    generalize ((w.alloc (.cells #[.int .i64 0, .int .u64 0, .int .i64 0, .int .u64 0, .slice none 0 0, .int .u64 0, .int .u64 0, .int .u64 0, .slice none 0 0] 101)).alloc (.cells (recells ⟨x0.toNat, Hd0, En0, 0, Sn0⟩ (.slice none 0 0) (.slice none 0 0)).toArray 101)) = W2 at *
    clear p0 hxa hx0
    have hsl1 := fun W => run_sl_l (P := Try.prog) (A := some ad) (n := b.length) (c := c) (kl := .i64) Try.underlying24 hi0 hz1 1 rfl (by omega) W
    have hsl9 := fun W => run_sl_l (P := Try.prog) (A := some ad) (n := b.length) (c := c) (kl := .i64) Try.underlying24 hi0 hz1 9 rfl (by omega) W
    have hx2 := hx.ext hx1
    go_wp2_with fail
    refine (rtake_ok _ (b.drop 1) 8 W2 (by omega) (by rw [List.length_drop]; omega) (hx2.rest (l := 1) (by omega)) (by rw [List.length_drop]; omega)).mono ?_
    rintro e W3 ⟨T, hT, hTl, rfl, rfl⟩
    have hx9 := hx2.rest (l := 9) (by omega)
    go_upto_region 6 with (at_builtin; refine wpList_appA W2 _ rfl (.tmp 25) (.tmp 27) rfl _ [] rfl (App0.lit (Ext.rfl' _) _ rfl _).app ((Ext.rfl' W2).alloc' _) _ (b.drop 9) rfl (hx9.ext ((Ext.rfl' _).alloc' _)) (by rw [List.length_drop]; simp; omega) ?_; intro m A7 c7 W4 hm hapm hx4 hsm)
    have hme : Hid (m = b.drop 9) := hm.out
    have hml : m.length = b.length - 9 := by rw [hme.out, List.length_drop]
    have HML := hide hml
    clear hml hsl1 hsl9 hm hsm
    have hX4 := hXa.ext hx4
    have hR4 := hR.ext hx4
    have hxw := hx1.trans' hx4
    have hgs : w.heap.size ≤ g := Nat.le_of_eq hg
    have hg2 : g + 1 < W2.heap.size := hXa.lt
    have hTU : (T : Int) ≤ 18446744073709551615 := by have : T < 18446744073709551616 := hTl; omega
    have hbx : Enc.BsX W4 (fun k => k < W2.heap.size) (.slice A7 m.length c7) m := BsX.app hapm (fun k hk => hk)
    clear hapm hx4 hx1 hXa hR hx2 hx9 hTl
    obtain ⟨K, hK⟩ : ∃ K : Nat, x0.toNat = K := ⟨_, rfl⟩
    rw [hK] at hX4 hv1 hx255
    have x0_ := (hX4.cell 0).trans rfl
    have e0 := (hR4.cell 0).trans rfl
    have e1 := (hR4.cell 1).trans rfl
    have e2 := (hR4.cell 2).trans rfl
    have e3 := (hR4.cell 3).trans rfl
    have e4 := (hR4.cell 4).trans rfl
    have e5 := (hR4.cell 5).trans rfl
    have e6 := (hR4.cell 6).trans rfl
    have e7 := (hR4.cell 7).trans rfl
    have e8 := (hR4.cell 8).trans rfl
    have f0 := hR4.frozen 0
    have f1 := hR4.frozen 1
    have f2 := hR4.frozen 2
    have f3 := hR4.frozen 3
    have f4 := hR4.frozen 4
    have f5 := hR4.frozen 5
    have f6 := hR4.frozen 6
    have f7 := hR4.frozen 7
    have f8 := hR4.frozen 8
    by_cases k1 : K = 1
    · subst k1
      have HO : Hid (orec b = if m.length = 1 ∧ val m ≤ 7 then some ⟨1, ⟨T, val m⟩, En0, 0, Sn0⟩ else none) := by
        unfold Hid orec
        rw [if_neg (by omega), if_pos hv1, hT.out, hme.out]
      by_cases hm1 : m.length = 1
      · have hm1' : (m.length : Int) = 1 := by omega
        obtain ⟨a7, y0, rfl, hba, hy0, hyc, hy255⟩ := Reads.byte hbx.1.inv.2.2.2 (k := 0) (by omega)
        replace hyc : W4.cell? a7 = some (.int .u8 (y0.toNat : Nat)) := hyc
        have hvm : val m = y0.toNat := by
          have : m = [y0] := by
            cases m with
            | nil => simp at hm1
            | cons y t => have h1 := hy0.out; simp at h1 hm1; simp [h1, hm1]
          rw [this, val_one]
        rw [hvm] at HO
        have hm1p : (0 : Int) < m.length := by omega
        by_cases hv7 : (7 : Int) < (y0.toNat : Nat)
        · have HO2 : Hid (orec b = none) := by unfold Hid; rw [HO.out, if_neg (by omega)]
          go_wp2
          try simp only [Exit.inBlock, Exit.then]
          obtain ⟨hfin, hcf⟩ := put9 hR4 (.int .i64 0) (.int .u64 0) (.int .i64 0) (.int .u64 0) (.slice none 0 0) (.int .u64 0) (.int .u64 0) (.int .u64 0) (.slice none 0 0)
          refine bodyPost_ret (results_cell2 rfl _ _ g 101 #[.int .i64 0, .int .u64 0, .int .i64 0, .int .u64 0, .slice none 0 0, .int .u64 0, .int .u64 0, .int .u64 0, .slice none 0 0] (0, 0) _ rfl hfin Try.underlying101 rfl (by kernel_rfl)) rfl ?_
          exact ⟨⟨0, Hd0, En0, 0, Sn0⟩, .slice none 0 0, .slice none 0 0, false, rfl, rec0_rep _ _, hide (by rw [HO2.out]; rfl), hxw.then_ hcf (by simp; omega)⟩
        · have HO2 : Hid (orec b = some ⟨1, ⟨T, (y0.toNat : Nat)⟩, En0, 0, Sn0⟩) := by unfold Hid; rw [HO.out, if_pos (by omega)]
          have zf1 := hX4.frozen 1
          have zf2 := hX4.frozen 2
          have zc1 := (hX4.cell 1).trans rfl
          have zc2 := (hX4.cell 2).trans rfl
          have hX5 : Blk ((W4.setCell ⟨g + 1, 1, none⟩ (.int .u64 (T : Nat))).setCell ⟨g + 1, 2, none⟩ (.int .i64 (y0.toNat : Nat))) (g + 1) 101 _ := ((hX4).set_ 1 (.int .u64 (T : Nat))).set_ 2 (.int .i64 (y0.toNat : Nat))
          have hc5 : Chg [g + 1] W4 ((W4.setCell ⟨g + 1, 1, none⟩ (.int .u64 (T : Nat))).setCell ⟨g + 1, 2, none⟩ (.int .i64 (y0.toNat : Nat))) := ((Chg.refl [g + 1] W4).set (p := ⟨g + 1, 1, none⟩) (by simp) (.int .u64 (T : Nat))).set (p := ⟨g + 1, 2, none⟩) (by simp) (.int .i64 (y0.toNat : Nat))
          have hbx5 := hbx.chg hc5 (fun k hk _ => by have := List.mem_singleton.1 hk; omega)
          have hR5 := hR4.chg hc5 (by simp)
          have hx5 := hxw.then_ hc5 (by simp; omega)
          go_upto_region 22 with fail
          generalize (W4.setCell ⟨g + 1, 1, none⟩ (.int .u64 (T : Nat))).setCell ⟨g + 1, 2, none⟩ (.int .i64 (y0.toNat : Nat)) = W5 at *
          clear e0 e1 e2 e3 e4 e5 e6 e7 e8 f0 f1 f2 f3 f4 f5 f6 f7 f8
          have x0 := (hX5.cell 0).trans rfl
          have x1 := (hX5.cell 1).trans rfl
          have x2 := (hX5.cell 2).trans rfl
          have x3 := (hX5.cell 3).trans rfl
          have x4 := (hX5.cell 4).trans rfl
          have x5 := (hX5.cell 5).trans rfl
          have x6 := (hX5.cell 6).trans rfl
          have x7 := (hX5.cell 7).trans rfl
          have x8 := (hX5.cell 8).trans rfl
          have e0 := (hR5.cell 0).trans rfl
          have e1 := (hR5.cell 1).trans rfl
          have e2 := (hR5.cell 2).trans rfl
          have e3 := (hR5.cell 3).trans rfl
          have e4 := (hR5.cell 4).trans rfl
          have e5 := (hR5.cell 5).trans rfl
          have e6 := (hR5.cell 6).trans rfl
          have e7 := (hR5.cell 7).trans rfl
          have e8 := (hR5.cell 8).trans rfl
          have f0 := hR5.frozen 0
          have f1 := hR5.frozen 1
          have f2 := hR5.frozen 2
          have f3 := hR5.frozen 3
          have f4 := hR5.frozen 4
          have f5 := hR5.frozen 5
          have f6 := hR5.frozen 6
          have f7 := hR5.frozen 7
          have f8 := hR5.frozen 8
          go_wp2
          try simp only [Exit.inBlock, Exit.then]
          obtain ⟨hfin, hcf⟩ := put9 hR5 (.int .i64 1) (.int .u64 (T : Nat)) (.int .i64 (y0.toNat : Nat)) (.int .u64 0) (.slice none 0 0) (.int .u64 0) (.int .u64 0) (.int .u64 0) (.slice none 0 0)
          refine bodyPost_ret (results_cell2 rfl _ _ g 101 #[.int .i64 1, .int .u64 (T : Nat), .int .i64 (y0.toNat : Nat), .int .u64 0, .slice none 0 0, .int .u64 0, .int .u64 0, .int .u64 0, .slice none 0 0] (0, 0) _ rfl hfin Try.underlying101 rfl (by kernel_rfl)) rfl ?_
          exact ⟨⟨1, ⟨T, (y0.toNat : Nat)⟩, En0, 0, Sn0⟩, .slice none 0 0, .slice none 0 0, true, rfl, re_rep.2 ⟨_, _, rfl, by constructor <;> simp [Hd0, En0, Sn0] <;> omega, Enc.BsX.nil _ _, Enc.BsX.nil _ _⟩, hide (by rw [HO2.out]; rfl), hx5.then_ hcf (by simp; omega)⟩
      · have hm1' : ¬ (m.length : Int) = 1 := by omega
        have HO2 : Hid (orec b = none) := by unfold Hid; rw [HO.out, if_neg (by omega)]
        go_wp2
        try simp only [Exit.inBlock, Exit.then]
        obtain ⟨hfin, hcf⟩ := put9 hR4 (.int .i64 0) (.int .u64 0) (.int .i64 0) (.int .u64 0) (.slice none 0 0) (.int .u64 0) (.int .u64 0) (.int .u64 0) (.slice none 0 0)
        refine bodyPost_ret (results_cell2 rfl _ _ g 101 #[.int .i64 0, .int .u64 0, .int .i64 0, .int .u64 0, .slice none 0 0, .int .u64 0, .int .u64 0, .int .u64 0, .slice none 0 0] (0, 0) _ rfl hfin Try.underlying101 rfl (by kernel_rfl)) rfl ?_
        exact ⟨⟨0, Hd0, En0, 0, Sn0⟩, .slice none 0 0, .slice none 0 0, false, rfl, rec0_rep _ _, hide (by rw [HO2.out]; rfl), hxw.then_ hcf (by simp; omega)⟩
    · by_cases k2 : K = 2
      · subst k2
        have HO2 : Hid (orec b = some ⟨2, Hd0, ⟨T, m⟩, 0, Sn0⟩) := by
          unfold Hid orec
          rw [if_neg (by omega), if_neg (by omega), if_pos hv1, hT.out, hme.out]
        have zf3 := hX4.frozen 3
        have zf4 := hX4.frozen 4
        have zc3 := (hX4.cell 3).trans rfl
        have zc4 := (hX4.cell 4).trans rfl
        have hX5 : Blk ((W4.setCell ⟨g + 1, 3, none⟩ (.int .u64 (T : Nat))).setCell ⟨g + 1, 4, none⟩ (.slice A7 m.length c7)) (g + 1) 101 _ := ((hX4).set_ 3 (.int .u64 (T : Nat))).set_ 4 (.slice A7 m.length c7)
        have hc5 : Chg [g + 1] W4 ((W4.setCell ⟨g + 1, 3, none⟩ (.int .u64 (T : Nat))).setCell ⟨g + 1, 4, none⟩ (.slice A7 m.length c7)) := ((Chg.refl [g + 1] W4).set (p := ⟨g + 1, 3, none⟩) (by simp) (.int .u64 (T : Nat))).set (p := ⟨g + 1, 4, none⟩) (by simp) (.slice A7 m.length c7)
        have hbx5 := hbx.chg hc5 (fun k hk _ => by have := List.mem_singleton.1 hk; omega)
        have hR5 := hR4.chg hc5 (by simp)
        have hx5 := hxw.then_ hc5 (by simp; omega)
        go_upto_region 22 with fail
        generalize (W4.setCell ⟨g + 1, 3, none⟩ (.int .u64 (T : Nat))).setCell ⟨g + 1, 4, none⟩ (.slice A7 m.length c7) = W5 at *
        clear e0 e1 e2 e3 e4 e5 e6 e7 e8 f0 f1 f2 f3 f4 f5 f6 f7 f8
        have x0 := (hX5.cell 0).trans rfl
        have x1 := (hX5.cell 1).trans rfl
        have x2 := (hX5.cell 2).trans rfl
        have x3 := (hX5.cell 3).trans rfl
        have x4 := (hX5.cell 4).trans rfl
        have x5 := (hX5.cell 5).trans rfl
        have x6 := (hX5.cell 6).trans rfl
        have x7 := (hX5.cell 7).trans rfl
        have x8 := (hX5.cell 8).trans rfl
        have e0 := (hR5.cell 0).trans rfl
        have e1 := (hR5.cell 1).trans rfl
        have e2 := (hR5.cell 2).trans rfl
        have e3 := (hR5.cell 3).trans rfl
        have e4 := (hR5.cell 4).trans rfl
        have e5 := (hR5.cell 5).trans rfl
        have e6 := (hR5.cell 6).trans rfl
        have e7 := (hR5.cell 7).trans rfl
        have e8 := (hR5.cell 8).trans rfl
        have f0 := hR5.frozen 0
        have f1 := hR5.frozen 1
        have f2 := hR5.frozen 2
        have f3 := hR5.frozen 3
        have f4 := hR5.frozen 4
        have f5 := hR5.frozen 5
        have f6 := hR5.frozen 6
        have f7 := hR5.frozen 7
        have f8 := hR5.frozen 8
        go_wp2
        try simp only [Exit.inBlock, Exit.then]
        obtain ⟨hfin, hcf⟩ := put9 hR5 (.int .i64 2) (.int .u64 0) (.int .i64 0) (.int .u64 (T : Nat)) (.slice A7 m.length c7) (.int .u64 0) (.int .u64 0) (.int .u64 0) (.slice none 0 0)
        refine bodyPost_ret (results_cell2 rfl _ _ g 101 #[.int .i64 2, .int .u64 0, .int .i64 0, .int .u64 (T : Nat), .slice A7 m.length c7, .int .u64 0, .int .u64 0, .int .u64 0, .slice none 0 0] (0, 0) _ rfl hfin Try.underlying101 rfl (by kernel_rfl)) rfl ?_
        exact ⟨⟨2, Hd0, ⟨T, m⟩, 0, Sn0⟩, .slice A7 m.length c7, .slice none 0 0, true, rfl, re_rep.2 ⟨_, _, rfl, by constructor <;> simp [Hd0, En0, Sn0] <;> omega, (hbx5.chg hcf (fun k hk _ => by have := List.mem_singleton.1 hk; omega)).mono (fun k _ h => by omega), Enc.BsX.nil _ _⟩, hide (by rw [HO2.out]; rfl), hx5.then_ hcf (by simp; omega)⟩
      · by_cases k3 : K = 3
        · subst k3
          have HO : Hid (orec b = if m.length = 0 then some ⟨3, Hd0, En0, T, Sn0⟩ else none) := by
            unfold Hid orec
            rw [if_neg (by omega), if_neg (by omega), if_neg (by omega), if_pos hv1, hT.out, hme.out]
          have zf5 := hX4.frozen 5
          have zc5 := (hX4.cell 5).trans rfl
          have hX5 : Blk (W4.setCell ⟨g + 1, 5, none⟩ (.int .u64 (T : Nat))) (g + 1) 101 _ := (hX4).set_ 5 (.int .u64 (T : Nat))
          have hc5 : Chg [g + 1] W4 (W4.setCell ⟨g + 1, 5, none⟩ (.int .u64 (T : Nat))) := (Chg.refl [g + 1] W4).set (p := ⟨g + 1, 5, none⟩) (by simp) (.int .u64 (T : Nat))
          have hbx5 := hbx.chg hc5 (fun k hk _ => by have := List.mem_singleton.1 hk; omega)
          have hR5 := hR4.chg hc5 (by simp)
          have hx5 := hxw.then_ hc5 (by simp; omega)
          go_upto_region 16 with fail
          generalize W4.setCell ⟨g + 1, 5, none⟩ (.int .u64 (T : Nat)) = W5 at *
          clear e0 e1 e2 e3 e4 e5 e6 e7 e8 f0 f1 f2 f3 f4 f5 f6 f7 f8
          have x0 := (hX5.cell 0).trans rfl
          have x1 := (hX5.cell 1).trans rfl
          have x2 := (hX5.cell 2).trans rfl
          have x3 := (hX5.cell 3).trans rfl
          have x4 := (hX5.cell 4).trans rfl
          have x5 := (hX5.cell 5).trans rfl
          have x6 := (hX5.cell 6).trans rfl
          have x7 := (hX5.cell 7).trans rfl
          have x8 := (hX5.cell 8).trans rfl
          have e0 := (hR5.cell 0).trans rfl
          have e1 := (hR5.cell 1).trans rfl
          have e2 := (hR5.cell 2).trans rfl
          have e3 := (hR5.cell 3).trans rfl
          have e4 := (hR5.cell 4).trans rfl
          have e5 := (hR5.cell 5).trans rfl
          have e6 := (hR5.cell 6).trans rfl
          have e7 := (hR5.cell 7).trans rfl
          have e8 := (hR5.cell 8).trans rfl
          have f0 := hR5.frozen 0
          have f1 := hR5.frozen 1
          have f2 := hR5.frozen 2
          have f3 := hR5.frozen 3
          have f4 := hR5.frozen 4
          have f5 := hR5.frozen 5
          have f6 := hR5.frozen 6
          have f7 := hR5.frozen 7
          have f8 := hR5.frozen 8
          by_cases hm0 : m.length = 0
          · have hm0' : (m.length : Int) = 0 := by omega
            have HO2 : Hid (orec b = some ⟨3, Hd0, En0, T, Sn0⟩) := by unfold Hid; rw [HO.out, if_pos hm0]
            go_wp2
            try simp only [Exit.inBlock, Exit.then]
            obtain ⟨hfin, hcf⟩ := put9 hR5 (.int .i64 3) (.int .u64 0) (.int .i64 0) (.int .u64 0) (.slice none 0 0) (.int .u64 (T : Nat)) (.int .u64 0) (.int .u64 0) (.slice none 0 0)
            refine bodyPost_ret (results_cell2 rfl _ _ g 101 #[.int .i64 3, .int .u64 0, .int .i64 0, .int .u64 0, .slice none 0 0, .int .u64 (T : Nat), .int .u64 0, .int .u64 0, .slice none 0 0] (0, 0) _ rfl hfin Try.underlying101 rfl (by kernel_rfl)) rfl ?_
            exact ⟨⟨3, Hd0, En0, T, Sn0⟩, .slice none 0 0, .slice none 0 0, true, rfl, re_rep.2 ⟨_, _, rfl, by constructor <;> simp [Hd0, En0, Sn0] <;> omega, Enc.BsX.nil _ _, Enc.BsX.nil _ _⟩, hide (by rw [HO2.out]; rfl), hx5.then_ hcf (by simp; omega)⟩
          · have hm0' : ¬ (m.length : Int) = 0 := by omega
            have hbne : ((m.length : Int) == 0) = false := by simpa using hm0'
            have HO2 : Hid (orec b = none) := by unfold Hid; rw [HO.out, if_neg hm0]
            go_wp2
            try simp only [Exit.inBlock, Exit.then]
            obtain ⟨hfin, hcf⟩ := put9 hR5 (.int .i64 3) (.int .u64 0) (.int .i64 0) (.int .u64 0) (.slice none 0 0) (.int .u64 (T : Nat)) (.int .u64 0) (.int .u64 0) (.slice none 0 0)
            refine bodyPost_ret (results_cell2 rfl _ _ g 101 #[.int .i64 3, .int .u64 0, .int .i64 0, .int .u64 0, .slice none 0 0, .int .u64 (T : Nat), .int .u64 0, .int .u64 0, .slice none 0 0] (0, 0) _ rfl hfin Try.underlying101 rfl (by kernel_rfl)) rfl ?_
            exact ⟨⟨3, Hd0, En0, T, Sn0⟩, .slice none 0 0, .slice none 0 0, false, rfl, re_rep.2 ⟨_, _, rfl, by constructor <;> simp [Hd0, En0, Sn0] <;> omega, Enc.BsX.nil _ _, Enc.BsX.nil _ _⟩, hide (by rw [HO2.out]; rfl), hx5.then_ hcf (by simp; omega)⟩
        · by_cases k4 : K = 4
          · subst k4
            have HO : Hid (orec b = if 8 ≤ m.length then some ⟨4, Hd0, En0, 0, ⟨T, val (m.take 8), m.drop 8⟩⟩ else none) := by
              unfold Hid orec
              rw [if_neg (by omega), if_neg (by omega), if_neg (by omega), if_neg (by omega), if_pos hv1, hT.out, hme.out]
            have hmL : m.length ≤ 100000 := by have := HML.out; omega
            by_cases hm8 : 8 ≤ m.length
            · have HO2 : Hid (orec b = some ⟨4, Hd0, En0, 0, ⟨T, val (m.take 8), m.drop 8⟩⟩) := by unfold Hid; rw [HO.out, if_pos hm8]
              have hm8' : (8 : Int) ≤ m.length := by omega
              have hbi := hbx.1.inv
              have hsl8 := fun W => run_sl_l (P := Try.prog) (A := A7) (n := m.length) (c := c7) (kl := .i64) Try.underlying24 hi0 hz1 8 rfl (by omega) W
              go_wp2_with fail
              refine (rtake_ok _ m 8 W4 (by omega) (by omega) hbx.1 hm8).mono ?_
              rintro e W3 ⟨U, hU, hUl, rfl, rfl⟩
              have hUU : (U : Int) ≤ 18446744073709551615 := by have : U < 18446744073709551616 := hUl; omega
              rw [← hU.out] at HO2
              replace hbx := BsX.rest hbx hm8
              have zf6 := hX4.frozen 6
              have zf7 := hX4.frozen 7
              have zf8 := hX4.frozen 8
              have zc6 := (hX4.cell 6).trans rfl
              have zc7 := (hX4.cell 7).trans rfl
              have zc8 := (hX4.cell 8).trans rfl
              have hX5 : Blk (((W4.setCell ⟨g + 1, 6, none⟩ (.int .u64 (T : Nat))).setCell ⟨g + 1, 7, none⟩ (.int .u64 (U : Nat))).setCell ⟨g + 1, 8, none⟩ (.slice (cutA 1 A7 c7 8) (m.length - 8) (c7 - 8))) (g + 1) 101 _ := (((hX4).set_ 6 (.int .u64 (T : Nat))).set_ 7 (.int .u64 (U : Nat))).set_ 8 (.slice (cutA 1 A7 c7 8) (m.length - 8) (c7 - 8))
              have hc5 : Chg [g + 1] W4 (((W4.setCell ⟨g + 1, 6, none⟩ (.int .u64 (T : Nat))).setCell ⟨g + 1, 7, none⟩ (.int .u64 (U : Nat))).setCell ⟨g + 1, 8, none⟩ (.slice (cutA 1 A7 c7 8) (m.length - 8) (c7 - 8))) := (((Chg.refl [g + 1] W4).set (p := ⟨g + 1, 6, none⟩) (by simp) (.int .u64 (T : Nat))).set (p := ⟨g + 1, 7, none⟩) (by simp) (.int .u64 (U : Nat))).set (p := ⟨g + 1, 8, none⟩) (by simp) (.slice (cutA 1 A7 c7 8) (m.length - 8) (c7 - 8))
              have hbx5 := hbx.chg hc5 (fun k hk _ => by have := List.mem_singleton.1 hk; omega)
              have hR5 := hR4.chg hc5 (by simp)
              have hx5 := hxw.then_ hc5 (by simp; omega)
              go_upto_region 22 with fail
              generalize ((W4.setCell ⟨g + 1, 6, none⟩ (.int .u64 (T : Nat))).setCell ⟨g + 1, 7, none⟩ (.int .u64 (U : Nat))).setCell ⟨g + 1, 8, none⟩ (.slice (cutA 1 A7 c7 8) (m.length - 8) (c7 - 8)) = W5 at *
              clear e0 e1 e2 e3 e4 e5 e6 e7 e8 f0 f1 f2 f3 f4 f5 f6 f7 f8
              have x0 := (hX5.cell 0).trans rfl
              have x1 := (hX5.cell 1).trans rfl
              have x2 := (hX5.cell 2).trans rfl
              have x3 := (hX5.cell 3).trans rfl
              have x4 := (hX5.cell 4).trans rfl
              have x5 := (hX5.cell 5).trans rfl
              have x6 := (hX5.cell 6).trans rfl
              have x7 := (hX5.cell 7).trans rfl
              have x8 := (hX5.cell 8).trans rfl
              have e0 := (hR5.cell 0).trans rfl
              have e1 := (hR5.cell 1).trans rfl
              have e2 := (hR5.cell 2).trans rfl
              have e3 := (hR5.cell 3).trans rfl
              have e4 := (hR5.cell 4).trans rfl
              have e5 := (hR5.cell 5).trans rfl
              have e6 := (hR5.cell 6).trans rfl
              have e7 := (hR5.cell 7).trans rfl
              have e8 := (hR5.cell 8).trans rfl
              have f0 := hR5.frozen 0
              have f1 := hR5.frozen 1
              have f2 := hR5.frozen 2
              have f3 := hR5.frozen 3
              have f4 := hR5.frozen 4
              have f5 := hR5.frozen 5
              have f6 := hR5.frozen 6
              have f7 := hR5.frozen 7
              have f8 := hR5.frozen 8
              go_wp2
              try simp only [Exit.inBlock, Exit.then]
              obtain ⟨hfin, hcf⟩ := put9 hR5 (.int .i64 4) (.int .u64 0) (.int .i64 0) (.int .u64 0) (.slice none 0 0) (.int .u64 0) (.int .u64 (T : Nat)) (.int .u64 (U : Nat)) (.slice (cutA 1 A7 c7 8) (m.length - 8) (c7 - 8))
              refine bodyPost_ret (results_cell2 rfl _ _ g 101 #[.int .i64 4, .int .u64 0, .int .i64 0, .int .u64 0, .slice none 0 0, .int .u64 0, .int .u64 (T : Nat), .int .u64 (U : Nat), .slice (cutA 1 A7 c7 8) (m.length - 8) (c7 - 8)] (0, 0) _ rfl hfin Try.underlying101 rfl (by kernel_rfl)) rfl ?_
              exact ⟨⟨4, Hd0, En0, 0, ⟨T, U, m.drop 8⟩⟩, .slice none 0 0, .slice (cutA 1 A7 c7 8) (m.length - 8) (c7 - 8), true, rfl, re_rep.2 ⟨_, _, rfl, by constructor <;> simp [Hd0, En0, Sn0] <;> omega, Enc.BsX.nil _ _, (hbx5.chg hcf (fun k hk _ => by have := List.mem_singleton.1 hk; omega)).mono (fun k _ h => by omega)⟩, hide (by rw [HO2.out]; rfl), hx5.then_ hcf (by simp; omega)⟩
            · have HO2 : Hid (orec b = none) := by unfold Hid; rw [HO.out, if_neg hm8]
              go_wp2_with fail
              refine (rtake_short _ m 8 W4 (by omega) (by omega) hbx.1 (by omega)).mono ?_
              rintro e W3 ⟨rfl, rfl⟩
              go_wp2
              try simp only [Exit.inBlock, Exit.then]
              obtain ⟨hfin, hcf⟩ := put9 hR4 (.int .i64 0) (.int .u64 0) (.int .i64 0) (.int .u64 0) (.slice none 0 0) (.int .u64 0) (.int .u64 0) (.int .u64 0) (.slice none 0 0)
              refine bodyPost_ret (results_cell2 rfl _ _ g 101 #[.int .i64 0, .int .u64 0, .int .i64 0, .int .u64 0, .slice none 0 0, .int .u64 0, .int .u64 0, .int .u64 0, .slice none 0 0] (0, 0) _ rfl hfin Try.underlying101 rfl (by kernel_rfl)) rfl ?_
              exact ⟨⟨0, Hd0, En0, 0, Sn0⟩, .slice none 0 0, .slice none 0 0, false, rfl, rec0_rep _ _, hide (by rw [HO2.out]; rfl), hxw.then_ hcf (by simp; omega)⟩
          · have k1' : ¬ (K : Int) = 1 := by omega
            have k2' : ¬ (K : Int) = 2 := by omega
            have k3' : ¬ (K : Int) = 3 := by omega
            have k4' : ¬ (K : Int) = 4 := by omega
            have HO2 : Hid (orec b = none) := by
              unfold Hid orec
              rw [if_neg (by omega), if_neg (by omega), if_neg (by omega), if_neg (by omega), if_neg (by omega)]
            go_wp2
            try simp only [Exit.inBlock, Exit.then]
            obtain ⟨hfin, hcf⟩ := put9 hR4 (.int .i64 0) (.int .u64 0) (.int .i64 0) (.int .u64 0) (.slice none 0 0) (.int .u64 0) (.int .u64 0) (.int .u64 0) (.slice none 0 0)
            refine bodyPost_ret (results_cell2 rfl _ _ g 101 #[.int .i64 0, .int .u64 0, .int .i64 0, .int .u64 0, .slice none 0 0, .int .u64 0, .int .u64 0, .int .u64 0, .slice none 0 0] (0, 0) _ rfl hfin Try.underlying101 rfl (by kernel_rfl)) rfl ?_
            exact ⟨⟨0, Hd0, En0, 0, Sn0⟩, .slice none 0 0, .slice none 0 0, false, rfl, rec0_rep _ _, hide (by rw [HO2.out]; rfl), hxw.then_ hcf (by simp; omega)⟩
end Go.Proofs.Ytlblgopfdadalaa
