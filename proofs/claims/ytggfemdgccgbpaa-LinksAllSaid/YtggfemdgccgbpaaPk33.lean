import Derived.Test.YtggfemdgccgbpaaPk3
import Derived.Test.YtggfemdgccgbpaaPk16
import Derived.Test.YtggfemdgccgbpaaPk23
import Derived.Test.YtggfemdgccgbpaaPk24
import Derived.RegionTactic
import Derived.Deep.DeepCutAuto
/- shortcutplay: choices out of numbers. Of what is chosen only the bounds are told. -/
namespace Go.Proofs.Ytggfemdgccgbpaa
set_option linter.unusedVariables false
set_option linter.unusedSimpArgs false
set_option linter.unnecessarySimpa false
set_option maxRecDepth 100000
open Go.RowKit
/-- numbers from which choices are read lie in block g; n of them are read -/
structure PkAt (W : World) (g : Nat) (x : Value) (b : Bytes) (n : Nat) : Prop where
  blk : Blk W g 77 #[x, .int .i64 n]
  bs : Bs W x b
  off : Off x [g]
  le : n ≤ b.length
  len : b.length ≤ 100000
def PkTo (w w' : World) (g : Nat) (x : Value) (b : Bytes) : Prop := ∃ n, PkAt w' g x b n ∧ Chg [g] w w'
theorem PkAt.ext {W W' : World} {g : Nat} {x : Value} {b : Bytes} {n : Nat} (h : PkAt W g x b n) (hx : Ext W W') : PkAt W' g x b n := ⟨h.blk.ext hx, h.bs.ext hx, h.off, h.le, h.len⟩
theorem PkAt.chg {S : List Nat} {W W' : World} {g : Nat} {x : Value} {b : Bytes} {n : Nat} (h : PkAt W g x b n) (hc : Chg S W W') (hg : g ∉ S) (hx : Off x S) : PkAt W' g x b n := ⟨h.blk.chg hc hg, h.bs.chg hc hx, h.off, h.le, h.len⟩
set_option maxHeartbeats 1600000 in
theorem pknum_b (g : Nat) (x : Value) (b : Bytes) (n : Nat) (m : Int) (w : World) (h : PkAt w g x b n) (hm : 1 ≤ m ∧ m ≤ 100) :
    Calls Try.prog 34 #[.pointer (some ⟨g, 0, none⟩), .int .i64 m] w fun e w' => ∃ r : Nat, (r : Int) < m ∧ e = .returned (.int .i64 r) ∧ PkTo w w' g x b := by
  obtain ⟨A, c, rfl, h1, h2, h3⟩ := id h.bs
  have c0 : w.cell? ⟨g, 0, none⟩ = some (.slice A b.length c) := (h.blk.cell 0).trans rfl
  have c1 : w.cell? ⟨g, 1, none⟩ = some (.int .i64 n) := (h.blk.cell 1).trans rfl
  have f1 := h.blk.frozen 1
  have hbl := h.len
  by_cases hk : (b.length : Int) ≤ n
  · go_enter Try.func34, Try.ntmps34
    go_wp2
    go_region
    go_wp2
    go_ret
    exact ⟨0, by omega, rfl, n, h.ext (Ext.rfl' w).drew', ((Ext.rfl' w).drew').chg _⟩
  · have hw1 : IntKind.i64.wrap ((n : Int) + 1) = (n : Int) + 1 := IntWalk.i64_in _ (by omega)
    have hw2 : IntKind.i64.wrap ((n : Int) + 1 - 1) = (n : Int) := by rw [show (n : Int) + 1 - 1 = n by omega]; exact IntWalk.i64_in _ (by omega)
    obtain ⟨ad, y, rfl, hy, hyl, hyc, hy255⟩ := h3.byte (k := n) (by omega)
    go_enter Try.func34, Try.ntmps34
    go_wp2
    go_region
    go_upto_region 4 with fail
    have hcg : Chg [g] w (w.setCell ⟨g, 1, none⟩ (.int .i64 ((n : Int) + 1))).drew := ((Chg.refl [g] w).set (by simp) _).drew
    have hB : Blk (w.setCell ⟨g, 1, none⟩ (.int .i64 ((n : Int) + 1))).drew g 77 #[.slice (some ad) b.length c, .int .i64 (n + 1 : Nat)] := (h.blk.set_ 1 (.int .i64 ((n : Int) + 1))).drew
    have hbs := h.bs.chg hcg h.off
    have hne : ad.block ∉ [g] := h.off ad b.length c rfl (by omega)
    have hyc' : (w.setCell ⟨g, 1, none⟩ (.int .i64 ((n : Int) + 1))).drew.cell? (ad.add n) = some (.int .u8 (y.toNat : Nat)) := by
      rw [hcg.cell (by rw [block_of_add]; exact hy) (by rw [block_of_add]; exact hne)]; exact hyc
    generalize (w.setCell ⟨g, 1, none⟩ (.int .i64 ((n : Int) + 1))).drew = w2 at *
    have d0 : w2.cell? ⟨g, 0, none⟩ = some (.slice (some ad) b.length c) := (hB.cell 0).trans rfl
    have d1 : w2.cell? ⟨g, 1, none⟩ = some (.int .i64 ((n : Int) + 1)) := (hB.cell 1).trans rfl
    have hb1 : (0 : Int) ≤ n := by omega
    have hb2 : (n : Int) < b.length := by omega
    have hw3 : IntKind.i64.wrap (y.toNat : Int) = (y.toNat : Int) := IntWalk.i64_in _ (by omega)
    have hm0 : ¬ m = 0 := by omega
    clear c0 c1 f1 hyc
    obtain ⟨r, hr⟩ : ∃ r : Nat, (y.toNat : Int) % m = r := ⟨((y.toNat : Int) % m).toNat, (Int.toNat_of_nonneg (Int.emod_nonneg _ hm0)).symm⟩
    have hrm : (r : Int) < m := by rw [← hr]; exact Int.emod_lt_of_pos _ (by omega)
    have HR := hide hr
    clear hr
    go_region
    go_wp2
    rw [HR.out]
    go_ret
    exact ⟨r, hrm, rfl, n + 1, PkAt.ext ⟨hB, hbs, h.off, by omega, h.len⟩ (Ext.rfl' w2).drew', hcg.trans (((Ext.rfl' w2).drew').chg _)⟩
set_option maxHeartbeats 800000 in
theorem pkover_b (g : Nat) (x : Value) (b : Bytes) (n : Nat) (w : World) (h : PkAt w g x b n) :
    Calls Try.prog 22 #[.pointer (some ⟨g, 0, none⟩)] w fun e w' => e = .returned (.bool (decide (b.length ≤ n))) ∧ Ext w w' := by
  obtain ⟨A, c, rfl, h1, h2, h3⟩ := id h.bs
  have c0 : w.cell? ⟨g, 0, none⟩ = some (.slice A b.length c) := (h.blk.cell 0).trans rfl
  have c1 : w.cell? ⟨g, 1, none⟩ = some (.int .i64 n) := (h.blk.cell 1).trans rfl
  have hbl := h.len
  by_cases hk : (b.length : Int) ≤ n
  · have HD : Hid (decide (b.length ≤ n) = true) := decide_eq_true (by omega)
    rw [HD.out]
    go_enter Try.func22, Try.ntmps22
    go_wp2
    go_region
    go_wp2
    go_ret
    exact ⟨by first | rfl | simp [hk] | (have := HD.out; simp at this; simp [this]), (Ext.rfl' w).drew'⟩
  · have HD : Hid (decide (b.length ≤ n) = false) := decide_eq_false (by omega)
    rw [HD.out]
    go_enter Try.func22, Try.ntmps22
    go_wp2
    go_region
    go_wp2
    go_ret
    exact ⟨by first | rfl | (have := HD.out; simp at this; simp [this]; try omega), (Ext.rfl' w).drew'⟩
set_option maxHeartbeats 800000 in
theorem made_b (x : Value) (b : Bytes) (w : World) (hx : Bs w x b) (hl : b.length ≤ 100000) :
    Calls Try.prog 21 #[x] w fun e w' => e = .returned (.pointer (some ⟨w.heap.size, 0, none⟩)) ∧ PkAt w' w.heap.size x b 0 ∧ Ext w w' := by
  obtain ⟨A, c, rfl, h1, h2, h3⟩ := id hx
  go_enter Try.func21, Try.ntmps21
  go_wp2
  go_ret
  exact ⟨rfl, ⟨Blk.new w _ _, hx.ext ((Ext.rfl' w).alloc' _), hx.off (by simp), Nat.zero_le _, hl⟩, (Ext.rfl' w).alloc' _⟩
def urlsB : List Bytes := [[104, 116, 116, 112, 58, 47, 47, 97, 47], [104, 116, 116, 112, 58, 47, 47, 98, 47], [104, 116, 116, 112, 58, 47, 47, 97, 47, 63, 120, 61, 49], [104, 116, 116, 112, 115, 58, 47, 47, 99, 47, 100], [104, 116, 116, 112, 58, 47, 47, 97, 47, 101, 47, 102], []]
theorem lits_at (l : List Bytes) (m : Nat) (hm : ∀ u ∈ l, u.length ≤ m) (k : Nat) (hk : k < l.length) : ∃ u : Bytes, u.length ≤ m ∧ ((l.map str).toArray)[k]? = some (str u) := by
  refine ⟨l[k], hm _ (List.getElem_mem hk), ?_⟩
  simp [hk]
set_option maxHeartbeats 1600000 in
theorem pkurl_b (g : Nat) (x : Value) (b : Bytes) (n : Nat) (w : World) (h : PkAt w g x b n) :
    Calls Try.prog 35 #[.pointer (some ⟨g, 0, none⟩)] w fun e w' => ∃ u : Bytes, u.length ≤ 20 ∧ e = .returned (str u) ∧ PkTo w w' g x b := by
  have hx0 : Ext w (w.alloc (.cells (urlsB.map str).toArray 9)) := (Ext.rfl' w).alloc' _
  have hL := Blk.new w 9 (urlsB.map str).toArray
  obtain ⟨gl, hgl⟩ : ∃ gl, w.heap.size = gl := ⟨_, rfl⟩
  rw [hgl] at hL
  have hgw := h.blk.lt
  have hne : gl ≠ g := by omega
  go_enter Try.func35, Try.ntmps35
  go_wp2_with fail
  refine (pknum_b g x b n 6 _ (h.ext hx0) (by decide)).mono ?_
  rintro e w2 ⟨r, hr, rfl, n2, h2, hc2⟩
  obtain ⟨u, hu, hat⟩ := lits_at urlsB 20 (by decide) r (by show r < 6; omega)
  have hu2 : w2.cell? ⟨gl, r, none⟩ = some (str u) := ((hL.chg hc2 (by simpa using hne)).cell r).trans hat
  have hb1 : (0 : Int) ≤ r := by omega
  go_wp2
  go_ret
  exact ⟨u, hu, rfl, n2, h2, (hx0.chg [g]).trans hc2⟩
set_option maxHeartbeats 1600000 in
theorem pkuntil_b (g : Nat) (x : Value) (b : Bytes) (n : Nat) (w : World) (h : PkAt w g x b n) :
    Calls Try.prog 36 #[.pointer (some ⟨g, 0, none⟩)] w fun e w' => ∃ t : Int, (0 ≤ t ∧ t ≤ 40) ∧ e = .returned (.int .u64 t) ∧ PkTo w w' g x b := by
  go_enter Try.func36, Try.ntmps36
  go_wp2_with fail
  refine (pknum_b g x b n 2 _ h (by decide)).mono ?_
  rintro e w2 ⟨r, hr, rfl, n2, h2, hc2⟩
  rcases Bool.eq_false_or_eq_true ((r : Int) == 0) with h0 | h0
  · go_wp2
    go_ret
    exact ⟨0, by decide, rfl, n2, h2, hc2⟩
  · go_wp2_with fail
    refine (pknum_b g x b n2 40 _ h2 (by decide)).mono ?_
    rintro e w3 ⟨r2, hr2, rfl, n3, h3, hc3⟩
    have hw1 : IntKind.i64.wrap (1 + (r2 : Int)) = 1 + (r2 : Int) := IntWalk.i64_in _ (by omega)
    have hw2 : IntKind.u64.wrap (1 + (r2 : Int)) = 1 + (r2 : Int) := by rw [IntKind.wrap_u64]; omega
    go_wp2
    go_ret
    exact ⟨1 + r2, by omega, rfl, n3, h3, hc2.trans hc3⟩
end Go.Proofs.Ytggfemdgccgbpaa

