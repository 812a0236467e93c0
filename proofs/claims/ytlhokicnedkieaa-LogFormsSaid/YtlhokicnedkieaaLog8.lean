/- The statements' own: records that are light; does log do anything yet? -/
import Derived.Test.YtlhokicnedkieaaLog7
namespace Go.Proofs.Ytlhokicnedkieaa
set_option linter.unusedVariables false
set_option linter.unusedSimpArgs false
set_option linter.unnecessarySimpa false
set_option maxRecDepth 100000
open Go.RowKit
theorem Sl.wides {w : World} {X : Avoid} {x : Value} {l : List Rec} (h : Enc.Sl reE w X x l) : ∀ r ∈ l, r.wide := by
  intro r hr
  obtain ⟨k, hk⟩ := List.mem_iff_getElem?.1 hr
  obtain ⟨A, c, rfl, -, -⟩ := h.form
  obtain ⟨ad, r', v1, v2, -, h1, -, -, -, -, -, -, -, -, -, -, h2, -⟩ := re_at h (k := k) (List.getElem?_eq_some_iff.1 hk).1
  rw [Option.some.inj (hk.symm.trans h1.out)]
  exact h2
/-- a Bool that is true only if P -/
def RetB (P : Prop) (w w' : World) (e : Ending) : Prop := ∃ b : Bool, e = .returned (.bool b) ∧ Ext w w' ∧ (b = true → P)
def LightR (l : List Rec) : Prop := (∀ r ∈ l, r.small) ∧ l.length ≤ 20
set_option maxHeartbeats 1600000 in
theorem light22_b (x : Value) (l : List Rec) (w : World) (hx : Enc.Sl reE w noneAt x l) :
    Calls Try.prog 28 #[x] w fun e w' => RetB (LightR l) w w' e := by
  obtain ⟨A, c, rfl, k1, k2⟩ := hx.form
  unfold maxLen at k2
  go_enter Try.func28, Try.ntmps28
  go_wp2_with fail
  go_loopw [3] (fun vi wr => ∃ k : Nat, (k : Int) ≤ l.length ∧ vi = .int .i64 k ∧ Hid (∀ r ∈ l.take k, r.small) ∧ Ext w wr) (fun vi _ => (l.length - intOf vi).toNat)
  case atStart => exact ⟨0, by omega, rfl, hide (by simp), Ext.rfl' _⟩
  case round =>
    obtain ⟨k, hk, rfl, hs, hxr⟩ := hrel
    by_cases hlt : (k : Int) < l.length
    · obtain ⟨ad, r, v1, v2, rfl, hr, hb, p0, p1, p2, p3, p4, p5, p6, p7, p8, r1, r2, r3⟩ := re_at (hx.ext hxr) (k := k) (by omega)
      obtain ⟨A1, c1, rfl, -, -, -⟩ := id r2.1
      obtain ⟨A2, c2, rfl, -, -, -⟩ := id r3.1
      by_cases h1 : (60 : Int) < r.ent.data.length
      · go_wp2
        go_ret
        exact ⟨false, rfl, hxr, fun h => by cases h⟩
      · by_cases h2 : (60 : Int) < r.snap.state.length
        · go_wp2
          go_ret
          exact ⟨false, rfl, hxr, fun h => by cases h⟩
        · have HS : Hid (∀ r ∈ l.take (k + 1), r.small) := by
            intro q hq
            rw [take_snoc hr.out] at hq
            rcases List.mem_append.1 hq with h | h
            · exact hs.out q h
            · rw [List.mem_singleton.1 h]
              exact ⟨by omega, by omega⟩
          go_wp2
          go_roundw
          case rel => exact ⟨k + 1, by omega, by go_num, HS, hxr⟩
          case measure => simp [intOf]; omega
    · obtain rfl : k = l.length := by omega
      have HS := hs
      rw [List.take_length] at HS
      by_cases h20 : (l.length : Int) ≤ 20
      · go_wp2
        go_ret
        exact ⟨true, rfl, hxr, fun _ => ⟨HS.out, by omega⟩⟩
      · go_wp2
        go_ret
        exact ⟨false, rfl, hxr, fun h => by cases h⟩
def rec0 : Rec := ⟨1, ⟨3, 1⟩, En0, 0, Sn0⟩
theorem rec0_wide : rec0.wide := by constructor <;> simp [rec0, En0, Sn0]
theorem rec0_small : rec0.small := by constructor <;> simp [rec0, En0, Sn0]
theorem lput0 : (lput [rec0]).length = 18 := by simp [lput, rec0, may, oframe_length, one, be_length]
theorem right0 : right [rec0] = [rec0] := by simp [right, rec0, may, fixr, En0, Sn0]
theorem scan_tail2 : scan [0, 0] = ([], 0) := scan_stop (.inl (by rw [unframe_short [0, 0] (.inl (by simp))]; simp))
theorem scan0 : scan (lput [rec0] ++ [0, 0]) = ([rec0], 18) := by
  rw [scan_put [rec0] [0, 0] (by simp [rec0_wide, rec0_small]), scan_tail2, right0, lput0]
  rfl
theorem lit00 (w : World) (g : Nat) (hg : w.heap.size = g) : Bs (w.alloc (.cells #[.int .u8 0, .int .u8 0] 5)) (.slice (some ⟨g, 0, none⟩) 2 2) [0, 0] := Bs.lit 5 [0, 0] g hg (by simp [maxLen]) (0, 0)
set_option maxHeartbeats 3200000 in
theorem begun22_b (w : World) : Calls Try.prog 27 #[] w fun e w' => e = .returned (.bool true) ∧ Ext w w' := by
  have hx1 : Ext w (w.alloc (.cells (recells rec0 (.slice none 0 0) (.slice none 0 0)).toArray 57)) := (Ext.rfl' w).alloc' _
  have hB := Blk.new w 57 (recells rec0 (.slice none 0 0) (.slice none 0 0)).toArray
  obtain ⟨g, hg⟩ : ∃ g, w.heap.size = g := ⟨_, rfl⟩
  rw [hg] at hB
  go_enter Try.func27, Try.ntmps27
  have HW := hide (fun q (hq : q ∈ [rec0]) => (by rw [List.mem_singleton.1 hq]; exact ⟨rec0_wide, rec0_small⟩ : q.wide ∧ q.small))
  have hrep : ∀ W, reE.rep W noneAt (recells rec0 (.slice none 0 0) (.slice none 0 0)) rec0 := fun W => re_rep.2 ⟨_, _, rfl, rec0_wide, Enc.BsX.nil _ _, Enc.BsX.nil _ _⟩
  have hlit := Sl.one 57 (hrep (w.alloc (.cells (recells rec0 (.slice none 0 0) (.slice none 0 0)).toArray 57))) (g + 1) (by simp [hg]) (fun h => h)
  have hxb : Ext _ ((w.alloc (.cells (recells rec0 (.slice none 0 0) (.slice none 0 0)).toArray 57)).alloc (.cells (recells rec0 (.slice none 0 0) (.slice none 0 0)).toArray 57)) := (Ext.rfl' (w.alloc (.cells (recells rec0 (.slice none 0 0) (.slice none 0 0)).toArray 57))).alloc' _
  clear hrep
  go_wp2_with fail
  refine (lputs_b _ [rec0] _ (by simp) hlit HW.out).mono ?_
  rintro e W1 ⟨m1, A1, c1, hm1, rfl, hap1, hx2⟩
  have hm1l : m1.length = 18 := by rw [hm1.out]; exact lput0
  have HM1L := hide hm1l
  clear hm1l
  replace hB := (hB.ext hxb).ext hx2
  have hxw := (hx1.trans' hxb).trans' hx2
  clear hlit hxb hx2 hx1
  go_wp2_with (first
    | (at_builtin; refine wpList_appA W1 _ rfl (.tmp 11) (.tmp 12) rfl _ [] rfl (App0.lit (Ext.rfl' _) _ rfl _).app ((Ext.rfl' W1).alloc' _) _ m1 rfl (hap1.bs.ext ((Ext.rfl' _).alloc' _)) (by rw [HM1L.out]; simp) ?_; intro n5 A5 c5 w5 hn5 hap5 hx5 hsm5; obtain rfl : n5 = m1 := hn5.out)
    | (at_builtin; refine wpList_appA W1 _ rfl (.tmp 13) (.tmp 14) rfl _ n5 rfl (hap5.ext ((Ext.rfl' _).alloc' _)) (hx5.trans' ((Ext.rfl' _).alloc' _)) _ [0, 0] rfl (lit00 _ _ rfl) (by rw [HM1L.out]; simp) ?_; intro n6 A6 c6 w6 hn6 hap6 hx6 hsm6))
  refine (scan_b _ n6 _ (by rw [hn6.out, List.length_append, HM1L.out]; simp) hap6.bs).mono ?_
  rintro e W7 ⟨l, A7, c7, n7, hln, rfl, hown, hx7⟩
  have hsc : (l, n7) = ([rec0], 18) := by rw [hln.out, hn6.out, hm1.out]; exact scan0
  obtain ⟨rfl, rfl⟩ := Prod.mk.inj hsc
  replace hB := (hB.ext hx6).ext hx7
  replace hxw := (hxw.trans' hx6).trans' hx7
  obtain ⟨ad, r, v1, v2, rfl, hr, hb, p0, p1, -⟩ := re_at hown.sl (k := 0) (by simp)
  obtain rfl : rec0 = r := Option.some.inj hr.out
  have hnl : n5.length = 18 := HM1L.out
  have x0 := (hB.cell 0).trans rfl
  have x1 := (hB.cell 1).trans rfl
  have x2 := (hB.cell 2).trans rfl
  have x3 := (hB.cell 3).trans rfl
  have x4 := (hB.cell 4).trans rfl
  have x5 := (hB.cell 5).trans rfl
  have x6 := (hB.cell 6).trans rfl
  have x7 := (hB.cell 7).trans rfl
  have x8 := (hB.cell 8).trans rfl
  have p1' : W7.cell? ⟨ad.block, ad.off + 1, none⟩ = some (.int .u64 3) := p1
  have HM0 := hide (fun W => (may_b rec0 (.slice none 0 0) (.slice none 0 0) W).mono fun _ _ h => h)
  have HM1 := hide (fun W => may_b ⟨0, Hd0, En0, 0, Sn0⟩ (.slice none 0 0) (.slice none 0 0) W)
  go_wp2_with fail
  refine (may_b rec0 (.slice none 0 0) (.slice none 0 0) _).mono ?_
  rintro e W8 ⟨rfl, hx8⟩
  rw [show may rec0 = true from rfl]
  go_wp2_with fail
  refine (HM1.out _).mono ?_
  rintro e W9 ⟨rfl, hx9⟩
  rw [show may ⟨0, Hd0, En0, 0, Sn0⟩ = false from rfl]
  go_wp2
  go_ret
  exact ⟨rfl, (hxw.trans' hx8).trans' hx9⟩
end Go.Proofs.Ytlhokicnedkieaa
