import Derived.Test.YtboncnlcomeahaaPk33
import Derived.Test.YtboncnlcomeahaaPk7
/- The law StoreForms' walk. -/
namespace Go.Proofs.Ytboncnlcomeahaa
set_option linter.unusedVariables false
set_option linter.unusedSimpArgs false
set_option linter.unnecessarySimpa false
set_option maxRecDepth 100000
open Go.RowKit
def fK4 : Kp := ⟨Hd0, Sn0, [⟨1, []⟩, ⟨1, []⟩, ⟨2, []⟩, ⟨2, []⟩]⟩
def fL4 : List Rec := [⟨2, Hd0, ⟨1, []⟩, 0, ⟨0, 0, []⟩⟩, ⟨2, Hd0, ⟨1, []⟩, 0, ⟨0, 0, []⟩⟩, ⟨2, Hd0, ⟨2, []⟩, 0, ⟨0, 0, []⟩⟩, ⟨2, Hd0, ⟨2, []⟩, 0, ⟨0, 0, []⟩⟩]
theorem fK4_small : fK4.small 20 := ⟨by simp [fK4], by simp [fK4], by simp [fK4, Sn0]⟩
theorem fK4_wide : fK4.wide := by constructor <;> simp [fK4, Hd0, Sn0]
theorem fL4_ok : ∀ r ∈ fL4, (r.wide ∧ r.small) ∧ r.ent.data = [] ∧ r.snap.state = [] := by
  intro r hr
  simp only [fL4, List.mem_cons, List.not_mem_nil, or_false] at hr
  rcases hr with rfl | rfl | rfl | rfl <;> exact ⟨⟨by constructor <;> simp [Hd0], by constructor <;> simp⟩, rfl, rfl⟩
theorem fK4_fold : kfold Kp0 fL4 = fK4 := by rfl
def fK5 : Kp := ⟨Hd0, ⟨2, 1, []⟩, [⟨2, []⟩, ⟨2, []⟩]⟩
def fL5 : List Rec := [⟨4, Hd0, ⟨0, []⟩, 0, ⟨2, 1, []⟩⟩]
theorem fK5_small : fK5.small 20 := ⟨by simp [fK5], by simp [fK5], by simp [fK5, Sn0]⟩
theorem fK5_wide : fK5.wide := by constructor <;> simp [fK5, Hd0, Sn0]
theorem fL5_ok : ∀ r ∈ fL5, (r.wide ∧ r.small) ∧ r.ent.data = [] ∧ r.snap.state = [] := by
  intro r hr
  simp only [fL5, List.mem_cons, List.not_mem_nil, or_false] at hr
  rcases hr with rfl <;> exact ⟨⟨by constructor <;> simp [Hd0], by constructor <;> simp⟩, rfl, rfl⟩
theorem fK5_fold : kfold fK4 fL5 = fK5 := by rfl
def fK6 : Kp := ⟨Hd0, ⟨2, 9, []⟩, []⟩
def fL6 : List Rec := [⟨4, Hd0, ⟨0, []⟩, 0, ⟨2, 9, []⟩⟩]
theorem fK6_small : fK6.small 20 := ⟨by simp [fK6], by simp [fK6], by simp [fK6, Sn0]⟩
theorem fK6_wide : fK6.wide := by constructor <;> simp [fK6, Hd0, Sn0]
theorem fL6_ok : ∀ r ∈ fL6, (r.wide ∧ r.small) ∧ r.ent.data = [] ∧ r.snap.state = [] := by
  intro r hr
  simp only [fL6, List.mem_cons, List.not_mem_nil, or_false] at hr
  rcases hr with rfl <;> exact ⟨⟨by constructor <;> simp [Hd0], by constructor <;> simp⟩, rfl, rfl⟩
theorem fK6_fold : kfold fK4 fL6 = fK6 := by rfl
def fK7 : Kp := ⟨Hd0, ⟨2, 1, []⟩, [⟨2, []⟩]⟩
def fL7 : List Rec := [⟨3, Hd0, ⟨0, []⟩, 4, ⟨0, 0, []⟩⟩]
theorem fK7_small : fK7.small 20 := ⟨by simp [fK7], by simp [fK7], by simp [fK7, Sn0]⟩
theorem fK7_wide : fK7.wide := by constructor <;> simp [fK7, Hd0, Sn0]
theorem fL7_ok : ∀ r ∈ fL7, (r.wide ∧ r.small) ∧ r.ent.data = [] ∧ r.snap.state = [] := by
  intro r hr
  simp only [fL7, List.mem_cons, List.not_mem_nil, or_false] at hr
  rcases hr with rfl <;> exact ⟨⟨by constructor <;> simp [Hd0], by constructor <;> simp⟩, rfl, rfl⟩
theorem fK7_fold : kfold fK5 fL7 = fK7 := by rfl
def fK8 : Kp := ⟨Hd0, ⟨2, 1, []⟩, []⟩
def fL8 : List Rec := [⟨3, Hd0, ⟨0, []⟩, 1, ⟨0, 0, []⟩⟩]
theorem fK8_small : fK8.small 20 := ⟨by simp [fK8], by simp [fK8], by simp [fK8, Sn0]⟩
theorem fK8_wide : fK8.wide := by constructor <;> simp [fK8, Hd0, Sn0]
theorem fL8_ok : ∀ r ∈ fL8, (r.wide ∧ r.small) ∧ r.ent.data = [] ∧ r.snap.state = [] := by
  intro r hr
  simp only [fL8, List.mem_cons, List.not_mem_nil, or_false] at hr
  rcases hr with rfl <;> exact ⟨⟨by constructor <;> simp [Hd0], by constructor <;> simp⟩, rfl, rfl⟩
theorem fK8_fold : kfold fK5 fL8 = fK8 := by rfl
def fK9 : Kp := ⟨Hd0, ⟨2, 1, []⟩, [⟨2, []⟩, ⟨2, []⟩]⟩
def fL9 : List Rec := [⟨4, Hd0, ⟨0, []⟩, 0, ⟨2, 1, []⟩⟩, ⟨3, Hd0, ⟨0, []⟩, 99, ⟨0, 0, []⟩⟩]
theorem fK9_small : fK9.small 20 := ⟨by simp [fK9], by simp [fK9], by simp [fK9, Sn0]⟩
theorem fK9_wide : fK9.wide := by constructor <;> simp [fK9, Hd0, Sn0]
theorem fL9_ok : ∀ r ∈ fL9, (r.wide ∧ r.small) ∧ r.ent.data = [] ∧ r.snap.state = [] := by
  intro r hr
  simp only [fL9, List.mem_cons, List.not_mem_nil, or_false] at hr
  rcases hr with rfl | rfl <;> exact ⟨⟨by constructor <;> simp [Hd0], by constructor <;> simp⟩, rfl, rfl⟩
theorem fK9_fold : kfold fK5 fL9 = fK9 := by rfl
def fK10 : Kp := ⟨Hd0, ⟨7, 2, []⟩, []⟩
def fL10 : List Rec := [⟨4, Hd0, ⟨0, []⟩, 0, ⟨7, 2, []⟩⟩]
theorem fK10_small : fK10.small 20 := ⟨by simp [fK10], by simp [fK10], by simp [fK10, Sn0]⟩
theorem fK10_wide : fK10.wide := by constructor <;> simp [fK10, Hd0, Sn0]
theorem fL10_ok : ∀ r ∈ fL10, (r.wide ∧ r.small) ∧ r.ent.data = [] ∧ r.snap.state = [] := by
  intro r hr
  simp only [fL10, List.mem_cons, List.not_mem_nil, or_false] at hr
  rcases hr with rfl <;> exact ⟨⟨by constructor <;> simp [Hd0], by constructor <;> simp⟩, rfl, rfl⟩
theorem fK10_fold : kfold fK4 fL10 = fK10 := by rfl
def fK11 : Kp := ⟨Hd0, Sn0, []⟩
def fL11 : List Rec := [⟨3, Hd0, ⟨0, []⟩, 0, ⟨0, 0, []⟩⟩]
theorem fK11_small : fK11.small 20 := ⟨by simp [fK11], by simp [fK11], by simp [fK11, Sn0]⟩
theorem fK11_wide : fK11.wide := by constructor <;> simp [fK11, Hd0, Sn0]
theorem fL11_ok : ∀ r ∈ fL11, (r.wide ∧ r.small) ∧ r.ent.data = [] ∧ r.snap.state = [] := by
  intro r hr
  simp only [fL11, List.mem_cons, List.not_mem_nil, or_false] at hr
  rcases hr with rfl <;> exact ⟨⟨by constructor <;> simp [Hd0], by constructor <;> simp⟩, rfl, rfl⟩
theorem fK11_fold : kfold fK4 fL11 = fK11 := by rfl
set_option maxHeartbeats 12800000 in
theorem storeForms_walk (w : World) : Calls Try.prog 6 #[] w fun e w' => e = .returned (.bool true) ∧ Ext w w' := by
  go_enter Try.func6, Try.ntmps6
  go_wp2_with fail
  refine (begun23_b w).mono ?_
  rintro e w1 ⟨rfl, hx⟩
  obtain ⟨g1, hg⟩ : ∃ g, w1.heap.size = g := ⟨_, rfl⟩
  have hR1 := Blk.new w1 38 #[.int .i64 2, .int .u64 0, .int .i64 0, .int .u64 1, .slice none 0 0, .int .u64 0, .int .u64 0, .int .u64 0, .slice none 0 0]
  rw [hg] at hR1
  have hz : Ext w1 (w1.alloc (.cells #[.int .i64 2, .int .u64 0, .int .i64 0, .int .u64 1, .slice none 0 0, .int .u64 0, .int .u64 0, .int .u64 0, .slice none 0 0] 38)) := (Ext.rfl' _).alloc' _
  go_upto_region 4 with fail
  try rw [hg]
  generalize (w1.alloc (.cells #[.int .i64 2, .int .u64 0, .int .i64 0, .int .u64 1, .slice none 0 0, .int .u64 0, .int .u64 0, .int .u64 0, .slice none 0 0] 38)) = v1 at *
  replace hx := hx.trans' hz
  clear hz hg
  obtain ⟨g2, hg⟩ : ∃ g, v1.heap.size = g := ⟨_, rfl⟩
  have hR2 := Blk.new v1 38 #[.int .i64 2, .int .u64 0, .int .i64 0, .int .u64 2, .slice none 0 0, .int .u64 0, .int .u64 0, .int .u64 0, .slice none 0 0]
  rw [hg] at hR2
  have hz : Ext v1 (v1.alloc (.cells #[.int .i64 2, .int .u64 0, .int .i64 0, .int .u64 2, .slice none 0 0, .int .u64 0, .int .u64 0, .int .u64 0, .slice none 0 0] 38)) := (Ext.rfl' _).alloc' _
  go_upto_region 5 with fail
  try rw [hg]
  generalize (v1.alloc (.cells #[.int .i64 2, .int .u64 0, .int .i64 0, .int .u64 2, .slice none 0 0, .int .u64 0, .int .u64 0, .int .u64 0, .slice none 0 0] 38)) = v2 at *
  replace hR1 := hR1.ext hz
  replace hx := hx.trans' hz
  clear hz hg
  obtain ⟨g3, hg⟩ : ∃ g, v2.heap.size = g := ⟨_, rfl⟩
  have hR3 := Blk.new v2 38 #[.int .i64 4, .int .u64 0, .int .i64 0, .int .u64 0, .slice none 0 0, .int .u64 0, .int .u64 2, .int .u64 1, .slice none 0 0]
  rw [hg] at hR3
  have hz : Ext v2 (v2.alloc (.cells #[.int .i64 4, .int .u64 0, .int .i64 0, .int .u64 0, .slice none 0 0, .int .u64 0, .int .u64 2, .int .u64 1, .slice none 0 0] 38)) := (Ext.rfl' _).alloc' _
  go_upto_region 6 with fail
  try rw [hg]
  generalize (v2.alloc (.cells #[.int .i64 4, .int .u64 0, .int .i64 0, .int .u64 0, .slice none 0 0, .int .u64 0, .int .u64 2, .int .u64 1, .slice none 0 0] 38)) = v3 at *
  replace hR1 := hR1.ext hz
  replace hR2 := hR2.ext hz
  replace hx := hx.trans' hz
  clear hz hg
  have qhR1_0 := (hR1.cell 0).trans rfl
  have qhR1_1 := (hR1.cell 1).trans rfl
  have qhR1_2 := (hR1.cell 2).trans rfl
  have qhR1_3 := (hR1.cell 3).trans rfl
  have qhR1_4 := (hR1.cell 4).trans rfl
  have qhR1_5 := (hR1.cell 5).trans rfl
  have qhR1_6 := (hR1.cell 6).trans rfl
  have qhR1_7 := (hR1.cell 7).trans rfl
  have qhR1_8 := (hR1.cell 8).trans rfl
  have qhR2_0 := (hR2.cell 0).trans rfl
  have qhR2_1 := (hR2.cell 1).trans rfl
  have qhR2_2 := (hR2.cell 2).trans rfl
  have qhR2_3 := (hR2.cell 3).trans rfl
  have qhR2_4 := (hR2.cell 4).trans rfl
  have qhR2_5 := (hR2.cell 5).trans rfl
  have qhR2_6 := (hR2.cell 6).trans rfl
  have qhR2_7 := (hR2.cell 7).trans rfl
  have qhR2_8 := (hR2.cell 8).trans rfl
  obtain ⟨gl, hgl⟩ : ∃ g, v3.heap.size = g := ⟨_, rfl⟩
  have hB := Blk.new v3 38 #[.int .i64 2, .int .u64 0, .int .i64 0, .int .u64 1, .slice none 0 0, .int .u64 0, .int .u64 0, .int .u64 0, .slice none 0 0, .int .i64 2, .int .u64 0, .int .i64 0, .int .u64 1, .slice none 0 0, .int .u64 0, .int .u64 0, .int .u64 0, .slice none 0 0, .int .i64 2, .int .u64 0, .int .i64 0, .int .u64 2, .slice none 0 0, .int .u64 0, .int .u64 0, .int .u64 0, .slice none 0 0, .int .i64 2, .int .u64 0, .int .i64 0, .int .u64 2, .slice none 0 0, .int .u64 0, .int .u64 0, .int .u64 0, .slice none 0 0]
  rw [hgl] at hB
  have hz : Ext v3 (v3.alloc (.cells #[.int .i64 2, .int .u64 0, .int .i64 0, .int .u64 1, .slice none 0 0, .int .u64 0, .int .u64 0, .int .u64 0, .slice none 0 0, .int .i64 2, .int .u64 0, .int .i64 0, .int .u64 1, .slice none 0 0, .int .u64 0, .int .u64 0, .int .u64 0, .slice none 0 0, .int .i64 2, .int .u64 0, .int .i64 0, .int .u64 2, .slice none 0 0, .int .u64 0, .int .u64 0, .int .u64 0, .slice none 0 0, .int .i64 2, .int .u64 0, .int .i64 0, .int .u64 2, .slice none 0 0, .int .u64 0, .int .u64 0, .int .u64 0, .slice none 0 0] 38)) := (Ext.rfl' _).alloc' _
  have hlit : Enc.Sl reE _ noneAt (.slice (some ⟨gl, 0, none⟩) 4 4) fL4 := recs_sl hB (fun h => h) rfl (fun r hr => ⟨(fL4_ok r hr).1.1, (fL4_ok r hr).2⟩) (by simp [fL4]) 4 rfl
  go_wp2_with fail
  refine (fold_b noneAt Kp0 (.slice none 0 0) (.slice none 0 0) (.slice (some ⟨gl, 0, none⟩) 4 4) fL4 20 _ (fun _ h => h.elim) Kp0.wide_ (Kp0.small_.mono (by omega)) (Enc.BsX.nil _ _) (Enc.Sl.nil _ _ _) hlit (fun r hr => (fL4_ok r hr).1) (by simp [fL4])).mono ?_
  obtain ⟨k4, hk, hs4, hw4, HK4⟩ : ∃ k, kfold Kp0 fL4 = k ∧ k.small 20 ∧ k.wide ∧ Hid (fK4 = k) := ⟨fK4, fK4_fold, fK4_small, fK4_wide, hide rfl⟩
  rw [hk]
  clear hk
  rintro e x6 ⟨A4, c4, B4, d4, rfl, hb4, he4, hx_⟩
  replace hb4 : Bs x6 (.slice A4 k4.snap.state.length c4) k4.snap.state := hb4.1
  replace he4 := he4.sl
  clear qhR1_0 qhR1_1 qhR1_2 qhR1_3 qhR1_4 qhR1_5 qhR1_6 qhR1_7 qhR1_8 qhR2_0 qhR2_1 qhR2_2 qhR2_3 qhR2_4 qhR2_5 qhR2_6 qhR2_7 qhR2_8
  replace hR1 := hR1.ext (hz.trans' hx_)
  replace hR2 := hR2.ext (hz.trans' hx_)
  replace hR3 := hR3.ext (hz.trans' hx_)
  replace hx := hx.trans' (hz.trans' hx_)
  clear hz hx_ hlit hB hgl
  obtain ⟨gk4, hg⟩ : ∃ g, x6.heap.size = g := ⟨_, rfl⟩
  have hQ4 := Blk.new x6 33 #[.int .u64 k4.hard.term, .int .i64 k4.hard.vote, .int .u64 k4.snap.index, .int .u64 k4.snap.term, .slice A4 k4.snap.state.length c4, .slice B4 k4.ents.length d4]
  rw [hg] at hQ4
  have hz : Ext x6 (x6.alloc (.cells #[.int .u64 k4.hard.term, .int .i64 k4.hard.vote, .int .u64 k4.snap.index, .int .u64 k4.snap.term, .slice A4 k4.snap.state.length c4, .slice B4 k4.ents.length d4] 33)) := (Ext.rfl' _).alloc' _
  go_upto_region 7 with fail
  try rw [hg]
  generalize (x6.alloc (.cells #[.int .u64 k4.hard.term, .int .i64 k4.hard.vote, .int .u64 k4.snap.index, .int .u64 k4.snap.term, .slice A4 k4.snap.state.length c4, .slice B4 k4.ents.length d4] 33)) = y6 at *
  replace hR1 := hR1.ext hz
  replace hR2 := hR2.ext hz
  replace hR3 := hR3.ext hz
  replace hb4 := hb4.ext hz
  replace he4 := he4.ext hz
  replace hx := hx.trans' hz
  clear hz hg
  have qhR3_0 := (hR3.cell 0).trans rfl
  have qhR3_1 := (hR3.cell 1).trans rfl
  have qhR3_2 := (hR3.cell 2).trans rfl
  have qhR3_3 := (hR3.cell 3).trans rfl
  have qhR3_4 := (hR3.cell 4).trans rfl
  have qhR3_5 := (hR3.cell 5).trans rfl
  have qhR3_6 := (hR3.cell 6).trans rfl
  have qhR3_7 := (hR3.cell 7).trans rfl
  have qhR3_8 := (hR3.cell 8).trans rfl
  have qhQ4_0 := (hQ4.cell 0).trans rfl
  have qhQ4_1 := (hQ4.cell 1).trans rfl
  have qhQ4_2 := (hQ4.cell 2).trans rfl
  have qhQ4_3 := (hQ4.cell 3).trans rfl
  have qhQ4_4 := (hQ4.cell 4).trans rfl
  have qhQ4_5 := (hQ4.cell 5).trans rfl
  obtain ⟨gl, hgl⟩ : ∃ g, y6.heap.size = g := ⟨_, rfl⟩
  have hB := Blk.new y6 38 #[.int .i64 4, .int .u64 0, .int .i64 0, .int .u64 0, .slice none 0 0, .int .u64 0, .int .u64 2, .int .u64 1, .slice none 0 0]
  rw [hgl] at hB
  have hz : Ext y6 (y6.alloc (.cells #[.int .i64 4, .int .u64 0, .int .i64 0, .int .u64 0, .slice none 0 0, .int .u64 0, .int .u64 2, .int .u64 1, .slice none 0 0] 38)) := (Ext.rfl' _).alloc' _
  have hlit : Enc.Sl reE _ noneAt (.slice (some ⟨gl, 0, none⟩) 1 1) fL5 := recs_sl hB (fun h => h) rfl (fun r hr => ⟨(fL5_ok r hr).1.1, (fL5_ok r hr).2⟩) (by simp [fL5]) 1 rfl
  go_wp2_with fail
  refine (fold_b noneAt k4 (.slice A4 k4.snap.state.length c4) (.slice B4 k4.ents.length d4) (.slice (some ⟨gl, 0, none⟩) 1 1) fL5 20 _ (fun _ h => h.elim) hw4 hs4 (.of (hb4.ext hz)) (he4.ext hz) hlit (fun r hr => (fL5_ok r hr).1) (by simp [fL5])).mono ?_
  obtain ⟨k5, hk, hs5, hw5, HK5⟩ : ∃ k, kfold k4 fL5 = k ∧ k.small 20 ∧ k.wide ∧ Hid (fK5 = k) := ⟨fK5, by rw [← HK4.out]; exact fK5_fold, fK5_small, fK5_wide, hide rfl⟩
  rw [hk]
  clear hk
  rintro e x7 ⟨A5, c5, B5, d5, rfl, hb5, he5, hx_⟩
  replace hb5 : Bs x7 (.slice A5 k5.snap.state.length c5) k5.snap.state := hb5.1
  replace he5 := he5.sl
  clear qhR3_0 qhR3_1 qhR3_2 qhR3_3 qhR3_4 qhR3_5 qhR3_6 qhR3_7 qhR3_8 qhQ4_0 qhQ4_1 qhQ4_2 qhQ4_3 qhQ4_4 qhQ4_5
  replace hR1 := hR1.ext (hz.trans' hx_)
  replace hR2 := hR2.ext (hz.trans' hx_)
  replace hR3 := hR3.ext (hz.trans' hx_)
  replace hb4 := hb4.ext (hz.trans' hx_)
  replace he4 := he4.ext (hz.trans' hx_)
  replace hQ4 := hQ4.ext (hz.trans' hx_)
  replace hx := hx.trans' (hz.trans' hx_)
  clear hz hx_ hlit hB hgl
  obtain ⟨gk5, hg⟩ : ∃ g, x7.heap.size = g := ⟨_, rfl⟩
  have hQ5 := Blk.new x7 33 #[.int .u64 k5.hard.term, .int .i64 k5.hard.vote, .int .u64 k5.snap.index, .int .u64 k5.snap.term, .slice A5 k5.snap.state.length c5, .slice B5 k5.ents.length d5]
  rw [hg] at hQ5
  have hz : Ext x7 (x7.alloc (.cells #[.int .u64 k5.hard.term, .int .i64 k5.hard.vote, .int .u64 k5.snap.index, .int .u64 k5.snap.term, .slice A5 k5.snap.state.length c5, .slice B5 k5.ents.length d5] 33)) := (Ext.rfl' _).alloc' _
  go_upto_region 8 with fail
  try rw [hg]
  generalize (x7.alloc (.cells #[.int .u64 k5.hard.term, .int .i64 k5.hard.vote, .int .u64 k5.snap.index, .int .u64 k5.snap.term, .slice A5 k5.snap.state.length c5, .slice B5 k5.ents.length d5] 33)) = y7 at *
  replace hR1 := hR1.ext hz
  replace hR2 := hR2.ext hz
  replace hR3 := hR3.ext hz
  replace hb4 := hb4.ext hz
  replace he4 := he4.ext hz
  replace hQ4 := hQ4.ext hz
  replace hb5 := hb5.ext hz
  replace he5 := he5.ext hz
  replace hx := hx.trans' hz
  clear hz hg
  have qhQ4_0 := (hQ4.cell 0).trans rfl
  have qhQ4_1 := (hQ4.cell 1).trans rfl
  have qhQ4_2 := (hQ4.cell 2).trans rfl
  have qhQ4_3 := (hQ4.cell 3).trans rfl
  have qhQ4_4 := (hQ4.cell 4).trans rfl
  have qhQ4_5 := (hQ4.cell 5).trans rfl
  obtain ⟨gl, hgl⟩ : ∃ g, y7.heap.size = g := ⟨_, rfl⟩
  have hB := Blk.new y7 38 #[.int .i64 4, .int .u64 0, .int .i64 0, .int .u64 0, .slice none 0 0, .int .u64 0, .int .u64 2, .int .u64 9, .slice none 0 0]
  rw [hgl] at hB
  have hz : Ext y7 (y7.alloc (.cells #[.int .i64 4, .int .u64 0, .int .i64 0, .int .u64 0, .slice none 0 0, .int .u64 0, .int .u64 2, .int .u64 9, .slice none 0 0] 38)) := (Ext.rfl' _).alloc' _
  have hlit : Enc.Sl reE _ noneAt (.slice (some ⟨gl, 0, none⟩) 1 1) fL6 := recs_sl hB (fun h => h) rfl (fun r hr => ⟨(fL6_ok r hr).1.1, (fL6_ok r hr).2⟩) (by simp [fL6]) 1 rfl
  go_wp2_with fail
  refine (fold_b noneAt k4 (.slice A4 k4.snap.state.length c4) (.slice B4 k4.ents.length d4) (.slice (some ⟨gl, 0, none⟩) 1 1) fL6 20 _ (fun _ h => h.elim) hw4 hs4 (.of (hb4.ext hz)) (he4.ext hz) hlit (fun r hr => (fL6_ok r hr).1) (by simp [fL6])).mono ?_
  obtain ⟨k6, hk, hs6, hw6, HK6⟩ : ∃ k, kfold k4 fL6 = k ∧ k.small 20 ∧ k.wide ∧ Hid (fK6 = k) := ⟨fK6, by rw [← HK4.out]; exact fK6_fold, fK6_small, fK6_wide, hide rfl⟩
  rw [hk]
  clear hk
  rintro e x8 ⟨A6, c6, B6, d6, rfl, hb6, he6, hx_⟩
  replace hb6 : Bs x8 (.slice A6 k6.snap.state.length c6) k6.snap.state := hb6.1
  replace he6 := he6.sl
  clear qhQ4_0 qhQ4_1 qhQ4_2 qhQ4_3 qhQ4_4 qhQ4_5
  replace hR1 := hR1.ext (hz.trans' hx_)
  replace hR2 := hR2.ext (hz.trans' hx_)
  replace hR3 := hR3.ext (hz.trans' hx_)
  replace hb4 := hb4.ext (hz.trans' hx_)
  replace he4 := he4.ext (hz.trans' hx_)
  replace hQ4 := hQ4.ext (hz.trans' hx_)
  replace hb5 := hb5.ext (hz.trans' hx_)
  replace he5 := he5.ext (hz.trans' hx_)
  replace hQ5 := hQ5.ext (hz.trans' hx_)
  replace hx := hx.trans' (hz.trans' hx_)
  clear hz hx_ hlit hB hgl
  obtain ⟨gk6, hg⟩ : ∃ g, x8.heap.size = g := ⟨_, rfl⟩
  have hQ6 := Blk.new x8 33 #[.int .u64 k6.hard.term, .int .i64 k6.hard.vote, .int .u64 k6.snap.index, .int .u64 k6.snap.term, .slice A6 k6.snap.state.length c6, .slice B6 k6.ents.length d6]
  rw [hg] at hQ6
  have hz : Ext x8 (x8.alloc (.cells #[.int .u64 k6.hard.term, .int .i64 k6.hard.vote, .int .u64 k6.snap.index, .int .u64 k6.snap.term, .slice A6 k6.snap.state.length c6, .slice B6 k6.ents.length d6] 33)) := (Ext.rfl' _).alloc' _
  go_upto_region 9 with fail
  try rw [hg]
  generalize (x8.alloc (.cells #[.int .u64 k6.hard.term, .int .i64 k6.hard.vote, .int .u64 k6.snap.index, .int .u64 k6.snap.term, .slice A6 k6.snap.state.length c6, .slice B6 k6.ents.length d6] 33)) = y8 at *
  replace hR1 := hR1.ext hz
  replace hR2 := hR2.ext hz
  replace hR3 := hR3.ext hz
  replace hb4 := hb4.ext hz
  replace he4 := he4.ext hz
  replace hQ4 := hQ4.ext hz
  replace hb5 := hb5.ext hz
  replace he5 := he5.ext hz
  replace hQ5 := hQ5.ext hz
  replace hb6 := hb6.ext hz
  replace he6 := he6.ext hz
  replace hx := hx.trans' hz
  clear hz hg
  have qhQ5_0 := (hQ5.cell 0).trans rfl
  have qhQ5_1 := (hQ5.cell 1).trans rfl
  have qhQ5_2 := (hQ5.cell 2).trans rfl
  have qhQ5_3 := (hQ5.cell 3).trans rfl
  have qhQ5_4 := (hQ5.cell 4).trans rfl
  have qhQ5_5 := (hQ5.cell 5).trans rfl
  obtain ⟨gl, hgl⟩ : ∃ g, y8.heap.size = g := ⟨_, rfl⟩
  have hB := Blk.new y8 38 #[.int .i64 3, .int .u64 0, .int .i64 0, .int .u64 0, .slice none 0 0, .int .u64 4, .int .u64 0, .int .u64 0, .slice none 0 0]
  rw [hgl] at hB
  have hz : Ext y8 (y8.alloc (.cells #[.int .i64 3, .int .u64 0, .int .i64 0, .int .u64 0, .slice none 0 0, .int .u64 4, .int .u64 0, .int .u64 0, .slice none 0 0] 38)) := (Ext.rfl' _).alloc' _
  have hlit : Enc.Sl reE _ noneAt (.slice (some ⟨gl, 0, none⟩) 1 1) fL7 := recs_sl hB (fun h => h) rfl (fun r hr => ⟨(fL7_ok r hr).1.1, (fL7_ok r hr).2⟩) (by simp [fL7]) 1 rfl
  go_wp2_with fail
  refine (fold_b noneAt k5 (.slice A5 k5.snap.state.length c5) (.slice B5 k5.ents.length d5) (.slice (some ⟨gl, 0, none⟩) 1 1) fL7 20 _ (fun _ h => h.elim) hw5 hs5 (.of (hb5.ext hz)) (he5.ext hz) hlit (fun r hr => (fL7_ok r hr).1) (by simp [fL7])).mono ?_
  obtain ⟨k7, hk, hs7, hw7, HK7⟩ : ∃ k, kfold k5 fL7 = k ∧ k.small 20 ∧ k.wide ∧ Hid (fK7 = k) := ⟨fK7, by rw [← HK5.out]; exact fK7_fold, fK7_small, fK7_wide, hide rfl⟩
  rw [hk]
  clear hk
  rintro e x9 ⟨A7, c7, B7, d7, rfl, hb7, he7, hx_⟩
  replace hb7 : Bs x9 (.slice A7 k7.snap.state.length c7) k7.snap.state := hb7.1
  replace he7 := he7.sl
  clear qhQ5_0 qhQ5_1 qhQ5_2 qhQ5_3 qhQ5_4 qhQ5_5
  replace hR1 := hR1.ext (hz.trans' hx_)
  replace hR2 := hR2.ext (hz.trans' hx_)
  replace hR3 := hR3.ext (hz.trans' hx_)
  replace hb4 := hb4.ext (hz.trans' hx_)
  replace he4 := he4.ext (hz.trans' hx_)
  replace hQ4 := hQ4.ext (hz.trans' hx_)
  replace hb5 := hb5.ext (hz.trans' hx_)
  replace he5 := he5.ext (hz.trans' hx_)
  replace hQ5 := hQ5.ext (hz.trans' hx_)
  replace hb6 := hb6.ext (hz.trans' hx_)
  replace he6 := he6.ext (hz.trans' hx_)
  replace hQ6 := hQ6.ext (hz.trans' hx_)
  replace hx := hx.trans' (hz.trans' hx_)
  clear hz hx_ hlit hB hgl
  obtain ⟨gk7, hg⟩ : ∃ g, x9.heap.size = g := ⟨_, rfl⟩
  have hQ7 := Blk.new x9 33 #[.int .u64 k7.hard.term, .int .i64 k7.hard.vote, .int .u64 k7.snap.index, .int .u64 k7.snap.term, .slice A7 k7.snap.state.length c7, .slice B7 k7.ents.length d7]
  rw [hg] at hQ7
  have hz : Ext x9 (x9.alloc (.cells #[.int .u64 k7.hard.term, .int .i64 k7.hard.vote, .int .u64 k7.snap.index, .int .u64 k7.snap.term, .slice A7 k7.snap.state.length c7, .slice B7 k7.ents.length d7] 33)) := (Ext.rfl' _).alloc' _
  go_upto_region 10 with fail
  try rw [hg]
  generalize (x9.alloc (.cells #[.int .u64 k7.hard.term, .int .i64 k7.hard.vote, .int .u64 k7.snap.index, .int .u64 k7.snap.term, .slice A7 k7.snap.state.length c7, .slice B7 k7.ents.length d7] 33)) = y9 at *
  replace hR1 := hR1.ext hz
  replace hR2 := hR2.ext hz
  replace hR3 := hR3.ext hz
  replace hb4 := hb4.ext hz
  replace he4 := he4.ext hz
  replace hQ4 := hQ4.ext hz
  replace hb5 := hb5.ext hz
  replace he5 := he5.ext hz
  replace hQ5 := hQ5.ext hz
  replace hb6 := hb6.ext hz
  replace he6 := he6.ext hz
  replace hQ6 := hQ6.ext hz
  replace hb7 := hb7.ext hz
  replace he7 := he7.ext hz
  replace hx := hx.trans' hz
  clear hz hg
  have qhQ5_0 := (hQ5.cell 0).trans rfl
  have qhQ5_1 := (hQ5.cell 1).trans rfl
  have qhQ5_2 := (hQ5.cell 2).trans rfl
  have qhQ5_3 := (hQ5.cell 3).trans rfl
  have qhQ5_4 := (hQ5.cell 4).trans rfl
  have qhQ5_5 := (hQ5.cell 5).trans rfl
  obtain ⟨gl, hgl⟩ : ∃ g, y9.heap.size = g := ⟨_, rfl⟩
  have hB := Blk.new y9 38 #[.int .i64 3, .int .u64 0, .int .i64 0, .int .u64 0, .slice none 0 0, .int .u64 1, .int .u64 0, .int .u64 0, .slice none 0 0]
  rw [hgl] at hB
  have hz : Ext y9 (y9.alloc (.cells #[.int .i64 3, .int .u64 0, .int .i64 0, .int .u64 0, .slice none 0 0, .int .u64 1, .int .u64 0, .int .u64 0, .slice none 0 0] 38)) := (Ext.rfl' _).alloc' _
  have hlit : Enc.Sl reE _ noneAt (.slice (some ⟨gl, 0, none⟩) 1 1) fL8 := recs_sl hB (fun h => h) rfl (fun r hr => ⟨(fL8_ok r hr).1.1, (fL8_ok r hr).2⟩) (by simp [fL8]) 1 rfl
  go_wp2_with fail
  refine (fold_b noneAt k5 (.slice A5 k5.snap.state.length c5) (.slice B5 k5.ents.length d5) (.slice (some ⟨gl, 0, none⟩) 1 1) fL8 20 _ (fun _ h => h.elim) hw5 hs5 (.of (hb5.ext hz)) (he5.ext hz) hlit (fun r hr => (fL8_ok r hr).1) (by simp [fL8])).mono ?_
  obtain ⟨k8, hk, hs8, hw8, HK8⟩ : ∃ k, kfold k5 fL8 = k ∧ k.small 20 ∧ k.wide ∧ Hid (fK8 = k) := ⟨fK8, by rw [← HK5.out]; exact fK8_fold, fK8_small, fK8_wide, hide rfl⟩
  rw [hk]
  clear hk
  rintro e x10 ⟨A8, c8, B8, d8, rfl, hb8, he8, hx_⟩
  replace hb8 : Bs x10 (.slice A8 k8.snap.state.length c8) k8.snap.state := hb8.1
  replace he8 := he8.sl
  clear qhQ5_0 qhQ5_1 qhQ5_2 qhQ5_3 qhQ5_4 qhQ5_5
  replace hR1 := hR1.ext (hz.trans' hx_)
  replace hR2 := hR2.ext (hz.trans' hx_)
  replace hR3 := hR3.ext (hz.trans' hx_)
  replace hb4 := hb4.ext (hz.trans' hx_)
  replace he4 := he4.ext (hz.trans' hx_)
  replace hQ4 := hQ4.ext (hz.trans' hx_)
  replace hb5 := hb5.ext (hz.trans' hx_)
  replace he5 := he5.ext (hz.trans' hx_)
  replace hQ5 := hQ5.ext (hz.trans' hx_)
  replace hb6 := hb6.ext (hz.trans' hx_)
  replace he6 := he6.ext (hz.trans' hx_)
  replace hQ6 := hQ6.ext (hz.trans' hx_)
  replace hb7 := hb7.ext (hz.trans' hx_)
  replace he7 := he7.ext (hz.trans' hx_)
  replace hQ7 := hQ7.ext (hz.trans' hx_)
  replace hx := hx.trans' (hz.trans' hx_)
  clear hz hx_ hlit hB hgl
  obtain ⟨gk8, hg⟩ : ∃ g, x10.heap.size = g := ⟨_, rfl⟩
  have hQ8 := Blk.new x10 33 #[.int .u64 k8.hard.term, .int .i64 k8.hard.vote, .int .u64 k8.snap.index, .int .u64 k8.snap.term, .slice A8 k8.snap.state.length c8, .slice B8 k8.ents.length d8]
  rw [hg] at hQ8
  have hz : Ext x10 (x10.alloc (.cells #[.int .u64 k8.hard.term, .int .i64 k8.hard.vote, .int .u64 k8.snap.index, .int .u64 k8.snap.term, .slice A8 k8.snap.state.length c8, .slice B8 k8.ents.length d8] 33)) := (Ext.rfl' _).alloc' _
  go_upto_region 11 with fail
  try rw [hg]
  generalize (x10.alloc (.cells #[.int .u64 k8.hard.term, .int .i64 k8.hard.vote, .int .u64 k8.snap.index, .int .u64 k8.snap.term, .slice A8 k8.snap.state.length c8, .slice B8 k8.ents.length d8] 33)) = y10 at *
  replace hR1 := hR1.ext hz
  replace hR2 := hR2.ext hz
  replace hR3 := hR3.ext hz
  replace hb4 := hb4.ext hz
  replace he4 := he4.ext hz
  replace hQ4 := hQ4.ext hz
  replace hb5 := hb5.ext hz
  replace he5 := he5.ext hz
  replace hQ5 := hQ5.ext hz
  replace hb6 := hb6.ext hz
  replace he6 := he6.ext hz
  replace hQ6 := hQ6.ext hz
  replace hb7 := hb7.ext hz
  replace he7 := he7.ext hz
  replace hQ7 := hQ7.ext hz
  replace hb8 := hb8.ext hz
  replace he8 := he8.ext hz
  replace hx := hx.trans' hz
  clear hz hg
  have qhR3_0 := (hR3.cell 0).trans rfl
  have qhR3_1 := (hR3.cell 1).trans rfl
  have qhR3_2 := (hR3.cell 2).trans rfl
  have qhR3_3 := (hR3.cell 3).trans rfl
  have qhR3_4 := (hR3.cell 4).trans rfl
  have qhR3_5 := (hR3.cell 5).trans rfl
  have qhR3_6 := (hR3.cell 6).trans rfl
  have qhR3_7 := (hR3.cell 7).trans rfl
  have qhR3_8 := (hR3.cell 8).trans rfl
  have qhQ5_0 := (hQ5.cell 0).trans rfl
  have qhQ5_1 := (hQ5.cell 1).trans rfl
  have qhQ5_2 := (hQ5.cell 2).trans rfl
  have qhQ5_3 := (hQ5.cell 3).trans rfl
  have qhQ5_4 := (hQ5.cell 4).trans rfl
  have qhQ5_5 := (hQ5.cell 5).trans rfl
  obtain ⟨gl, hgl⟩ : ∃ g, y10.heap.size = g := ⟨_, rfl⟩
  have hB := Blk.new y10 38 #[.int .i64 4, .int .u64 0, .int .i64 0, .int .u64 0, .slice none 0 0, .int .u64 0, .int .u64 2, .int .u64 1, .slice none 0 0, .int .i64 3, .int .u64 0, .int .i64 0, .int .u64 0, .slice none 0 0, .int .u64 99, .int .u64 0, .int .u64 0, .slice none 0 0]
  rw [hgl] at hB
  have hz : Ext y10 (y10.alloc (.cells #[.int .i64 4, .int .u64 0, .int .i64 0, .int .u64 0, .slice none 0 0, .int .u64 0, .int .u64 2, .int .u64 1, .slice none 0 0, .int .i64 3, .int .u64 0, .int .i64 0, .int .u64 0, .slice none 0 0, .int .u64 99, .int .u64 0, .int .u64 0, .slice none 0 0] 38)) := (Ext.rfl' _).alloc' _
  have hlit : Enc.Sl reE _ noneAt (.slice (some ⟨gl, 0, none⟩) 2 2) fL9 := recs_sl hB (fun h => h) rfl (fun r hr => ⟨(fL9_ok r hr).1.1, (fL9_ok r hr).2⟩) (by simp [fL9]) 2 rfl
  go_wp2_with fail
  refine (fold_b noneAt k5 (.slice A5 k5.snap.state.length c5) (.slice B5 k5.ents.length d5) (.slice (some ⟨gl, 0, none⟩) 2 2) fL9 20 _ (fun _ h => h.elim) hw5 hs5 (.of (hb5.ext hz)) (he5.ext hz) hlit (fun r hr => (fL9_ok r hr).1) (by simp [fL9])).mono ?_
  obtain ⟨k9, hk, hs9, hw9, HK9⟩ : ∃ k, kfold k5 fL9 = k ∧ k.small 20 ∧ k.wide ∧ Hid (fK9 = k) := ⟨fK9, by rw [← HK5.out]; exact fK9_fold, fK9_small, fK9_wide, hide rfl⟩
  rw [hk]
  clear hk
  rintro e x11 ⟨A9, c9, B9, d9, rfl, hb9, he9, hx_⟩
  replace hb9 : Bs x11 (.slice A9 k9.snap.state.length c9) k9.snap.state := hb9.1
  replace he9 := he9.sl
  clear qhR3_0 qhR3_1 qhR3_2 qhR3_3 qhR3_4 qhR3_5 qhR3_6 qhR3_7 qhR3_8 qhQ5_0 qhQ5_1 qhQ5_2 qhQ5_3 qhQ5_4 qhQ5_5
  replace hR1 := hR1.ext (hz.trans' hx_)
  replace hR2 := hR2.ext (hz.trans' hx_)
  replace hR3 := hR3.ext (hz.trans' hx_)
  replace hb4 := hb4.ext (hz.trans' hx_)
  replace he4 := he4.ext (hz.trans' hx_)
  replace hQ4 := hQ4.ext (hz.trans' hx_)
  replace hb5 := hb5.ext (hz.trans' hx_)
  replace he5 := he5.ext (hz.trans' hx_)
  replace hQ5 := hQ5.ext (hz.trans' hx_)
  replace hb6 := hb6.ext (hz.trans' hx_)
  replace he6 := he6.ext (hz.trans' hx_)
  replace hQ6 := hQ6.ext (hz.trans' hx_)
  replace hb7 := hb7.ext (hz.trans' hx_)
  replace he7 := he7.ext (hz.trans' hx_)
  replace hQ7 := hQ7.ext (hz.trans' hx_)
  replace hb8 := hb8.ext (hz.trans' hx_)
  replace he8 := he8.ext (hz.trans' hx_)
  replace hQ8 := hQ8.ext (hz.trans' hx_)
  replace hx := hx.trans' (hz.trans' hx_)
  clear hz hx_ hlit hB hgl
  obtain ⟨gk9, hg⟩ : ∃ g, x11.heap.size = g := ⟨_, rfl⟩
  have hQ9 := Blk.new x11 33 #[.int .u64 k9.hard.term, .int .i64 k9.hard.vote, .int .u64 k9.snap.index, .int .u64 k9.snap.term, .slice A9 k9.snap.state.length c9, .slice B9 k9.ents.length d9]
  rw [hg] at hQ9
  have hz : Ext x11 (x11.alloc (.cells #[.int .u64 k9.hard.term, .int .i64 k9.hard.vote, .int .u64 k9.snap.index, .int .u64 k9.snap.term, .slice A9 k9.snap.state.length c9, .slice B9 k9.ents.length d9] 33)) := (Ext.rfl' _).alloc' _
  go_upto_region 12 with fail
  try rw [hg]
  generalize (x11.alloc (.cells #[.int .u64 k9.hard.term, .int .i64 k9.hard.vote, .int .u64 k9.snap.index, .int .u64 k9.snap.term, .slice A9 k9.snap.state.length c9, .slice B9 k9.ents.length d9] 33)) = y11 at *
  replace hR1 := hR1.ext hz
  replace hR2 := hR2.ext hz
  replace hR3 := hR3.ext hz
  replace hb4 := hb4.ext hz
  replace he4 := he4.ext hz
  replace hQ4 := hQ4.ext hz
  replace hb5 := hb5.ext hz
  replace he5 := he5.ext hz
  replace hQ5 := hQ5.ext hz
  replace hb6 := hb6.ext hz
  replace he6 := he6.ext hz
  replace hQ6 := hQ6.ext hz
  replace hb7 := hb7.ext hz
  replace he7 := he7.ext hz
  replace hQ7 := hQ7.ext hz
  replace hb8 := hb8.ext hz
  replace he8 := he8.ext hz
  replace hQ8 := hQ8.ext hz
  replace hb9 := hb9.ext hz
  replace he9 := he9.ext hz
  replace hx := hx.trans' hz
  clear hz hg
  have qhQ4_0 := (hQ4.cell 0).trans rfl
  have qhQ4_1 := (hQ4.cell 1).trans rfl
  have qhQ4_2 := (hQ4.cell 2).trans rfl
  have qhQ4_3 := (hQ4.cell 3).trans rfl
  have qhQ4_4 := (hQ4.cell 4).trans rfl
  have qhQ4_5 := (hQ4.cell 5).trans rfl
  obtain ⟨gl, hgl⟩ : ∃ g, y11.heap.size = g := ⟨_, rfl⟩
  have hB := Blk.new y11 38 #[.int .i64 4, .int .u64 0, .int .i64 0, .int .u64 0, .slice none 0 0, .int .u64 0, .int .u64 7, .int .u64 2, .slice none 0 0]
  rw [hgl] at hB
  have hz : Ext y11 (y11.alloc (.cells #[.int .i64 4, .int .u64 0, .int .i64 0, .int .u64 0, .slice none 0 0, .int .u64 0, .int .u64 7, .int .u64 2, .slice none 0 0] 38)) := (Ext.rfl' _).alloc' _
  have hlit : Enc.Sl reE _ noneAt (.slice (some ⟨gl, 0, none⟩) 1 1) fL10 := recs_sl hB (fun h => h) rfl (fun r hr => ⟨(fL10_ok r hr).1.1, (fL10_ok r hr).2⟩) (by simp [fL10]) 1 rfl
  go_wp2_with fail
  refine (fold_b noneAt k4 (.slice A4 k4.snap.state.length c4) (.slice B4 k4.ents.length d4) (.slice (some ⟨gl, 0, none⟩) 1 1) fL10 20 _ (fun _ h => h.elim) hw4 hs4 (.of (hb4.ext hz)) (he4.ext hz) hlit (fun r hr => (fL10_ok r hr).1) (by simp [fL10])).mono ?_
  obtain ⟨k10, hk, hs10, hw10, HK10⟩ : ∃ k, kfold k4 fL10 = k ∧ k.small 20 ∧ k.wide ∧ Hid (fK10 = k) := ⟨fK10, by rw [← HK4.out]; exact fK10_fold, fK10_small, fK10_wide, hide rfl⟩
  rw [hk]
  clear hk
  rintro e x12 ⟨A10, c10, B10, d10, rfl, hb10, he10, hx_⟩
  replace hb10 : Bs x12 (.slice A10 k10.snap.state.length c10) k10.snap.state := hb10.1
  replace he10 := he10.sl
  clear qhQ4_0 qhQ4_1 qhQ4_2 qhQ4_3 qhQ4_4 qhQ4_5
  replace hR1 := hR1.ext (hz.trans' hx_)
  replace hR2 := hR2.ext (hz.trans' hx_)
  replace hR3 := hR3.ext (hz.trans' hx_)
  replace hb4 := hb4.ext (hz.trans' hx_)
  replace he4 := he4.ext (hz.trans' hx_)
  replace hQ4 := hQ4.ext (hz.trans' hx_)
  replace hb5 := hb5.ext (hz.trans' hx_)
  replace he5 := he5.ext (hz.trans' hx_)
  replace hQ5 := hQ5.ext (hz.trans' hx_)
  replace hb6 := hb6.ext (hz.trans' hx_)
  replace he6 := he6.ext (hz.trans' hx_)
  replace hQ6 := hQ6.ext (hz.trans' hx_)
  replace hb7 := hb7.ext (hz.trans' hx_)
  replace he7 := he7.ext (hz.trans' hx_)
  replace hQ7 := hQ7.ext (hz.trans' hx_)
  replace hb8 := hb8.ext (hz.trans' hx_)
  replace he8 := he8.ext (hz.trans' hx_)
  replace hQ8 := hQ8.ext (hz.trans' hx_)
  replace hb9 := hb9.ext (hz.trans' hx_)
  replace he9 := he9.ext (hz.trans' hx_)
  replace hQ9 := hQ9.ext (hz.trans' hx_)
  replace hx := hx.trans' (hz.trans' hx_)
  clear hz hx_ hlit hB hgl
  obtain ⟨gk10, hg⟩ : ∃ g, x12.heap.size = g := ⟨_, rfl⟩
  have hQ10 := Blk.new x12 33 #[.int .u64 k10.hard.term, .int .i64 k10.hard.vote, .int .u64 k10.snap.index, .int .u64 k10.snap.term, .slice A10 k10.snap.state.length c10, .slice B10 k10.ents.length d10]
  rw [hg] at hQ10
  have hz : Ext x12 (x12.alloc (.cells #[.int .u64 k10.hard.term, .int .i64 k10.hard.vote, .int .u64 k10.snap.index, .int .u64 k10.snap.term, .slice A10 k10.snap.state.length c10, .slice B10 k10.ents.length d10] 33)) := (Ext.rfl' _).alloc' _
  go_upto_region 13 with fail
  try rw [hg]
  generalize (x12.alloc (.cells #[.int .u64 k10.hard.term, .int .i64 k10.hard.vote, .int .u64 k10.snap.index, .int .u64 k10.snap.term, .slice A10 k10.snap.state.length c10, .slice B10 k10.ents.length d10] 33)) = y12 at *
  replace hR1 := hR1.ext hz
  replace hR2 := hR2.ext hz
  replace hR3 := hR3.ext hz
  replace hb4 := hb4.ext hz
  replace he4 := he4.ext hz
  replace hQ4 := hQ4.ext hz
  replace hb5 := hb5.ext hz
  replace he5 := he5.ext hz
  replace hQ5 := hQ5.ext hz
  replace hb6 := hb6.ext hz
  replace he6 := he6.ext hz
  replace hQ6 := hQ6.ext hz
  replace hb7 := hb7.ext hz
  replace he7 := he7.ext hz
  replace hQ7 := hQ7.ext hz
  replace hb8 := hb8.ext hz
  replace he8 := he8.ext hz
  replace hQ8 := hQ8.ext hz
  replace hb9 := hb9.ext hz
  replace he9 := he9.ext hz
  replace hQ9 := hQ9.ext hz
  replace hb10 := hb10.ext hz
  replace he10 := he10.ext hz
  replace hx := hx.trans' hz
  clear hz hg
  have qhQ4_0 := (hQ4.cell 0).trans rfl
  have qhQ4_1 := (hQ4.cell 1).trans rfl
  have qhQ4_2 := (hQ4.cell 2).trans rfl
  have qhQ4_3 := (hQ4.cell 3).trans rfl
  have qhQ4_4 := (hQ4.cell 4).trans rfl
  have qhQ4_5 := (hQ4.cell 5).trans rfl
  obtain ⟨gl, hgl⟩ : ∃ g, y12.heap.size = g := ⟨_, rfl⟩
  have hB := Blk.new y12 38 #[.int .i64 3, .int .u64 0, .int .i64 0, .int .u64 0, .slice none 0 0, .int .u64 0, .int .u64 0, .int .u64 0, .slice none 0 0]
  rw [hgl] at hB
  have hz : Ext y12 (y12.alloc (.cells #[.int .i64 3, .int .u64 0, .int .i64 0, .int .u64 0, .slice none 0 0, .int .u64 0, .int .u64 0, .int .u64 0, .slice none 0 0] 38)) := (Ext.rfl' _).alloc' _
  have hlit : Enc.Sl reE _ noneAt (.slice (some ⟨gl, 0, none⟩) 1 1) fL11 := recs_sl hB (fun h => h) rfl (fun r hr => ⟨(fL11_ok r hr).1.1, (fL11_ok r hr).2⟩) (by simp [fL11]) 1 rfl
  go_wp2_with fail
  refine (fold_b noneAt k4 (.slice A4 k4.snap.state.length c4) (.slice B4 k4.ents.length d4) (.slice (some ⟨gl, 0, none⟩) 1 1) fL11 20 _ (fun _ h => h.elim) hw4 hs4 (.of (hb4.ext hz)) (he4.ext hz) hlit (fun r hr => (fL11_ok r hr).1) (by simp [fL11])).mono ?_
  obtain ⟨k11, hk, hs11, hw11, HK11⟩ : ∃ k, kfold k4 fL11 = k ∧ k.small 20 ∧ k.wide ∧ Hid (fK11 = k) := ⟨fK11, by rw [← HK4.out]; exact fK11_fold, fK11_small, fK11_wide, hide rfl⟩
  rw [hk]
  clear hk
  rintro e x13 ⟨A11, c11, B11, d11, rfl, hb11, he11, hx_⟩
  replace hb11 : Bs x13 (.slice A11 k11.snap.state.length c11) k11.snap.state := hb11.1
  replace he11 := he11.sl
  clear qhQ4_0 qhQ4_1 qhQ4_2 qhQ4_3 qhQ4_4 qhQ4_5
  replace hR1 := hR1.ext (hz.trans' hx_)
  replace hR2 := hR2.ext (hz.trans' hx_)
  replace hR3 := hR3.ext (hz.trans' hx_)
  replace hb4 := hb4.ext (hz.trans' hx_)
  replace he4 := he4.ext (hz.trans' hx_)
  replace hQ4 := hQ4.ext (hz.trans' hx_)
  replace hb5 := hb5.ext (hz.trans' hx_)
  replace he5 := he5.ext (hz.trans' hx_)
  replace hQ5 := hQ5.ext (hz.trans' hx_)
  replace hb6 := hb6.ext (hz.trans' hx_)
  replace he6 := he6.ext (hz.trans' hx_)
  replace hQ6 := hQ6.ext (hz.trans' hx_)
  replace hb7 := hb7.ext (hz.trans' hx_)
  replace he7 := he7.ext (hz.trans' hx_)
  replace hQ7 := hQ7.ext (hz.trans' hx_)
  replace hb8 := hb8.ext (hz.trans' hx_)
  replace he8 := he8.ext (hz.trans' hx_)
  replace hQ8 := hQ8.ext (hz.trans' hx_)
  replace hb9 := hb9.ext (hz.trans' hx_)
  replace he9 := he9.ext (hz.trans' hx_)
  replace hQ9 := hQ9.ext (hz.trans' hx_)
  replace hb10 := hb10.ext (hz.trans' hx_)
  replace he10 := he10.ext (hz.trans' hx_)
  replace hQ10 := hQ10.ext (hz.trans' hx_)
  replace hx := hx.trans' (hz.trans' hx_)
  clear hz hx_ hlit hB hgl
  obtain ⟨gk11, hg⟩ : ∃ g, x13.heap.size = g := ⟨_, rfl⟩
  have hQ11 := Blk.new x13 33 #[.int .u64 k11.hard.term, .int .i64 k11.hard.vote, .int .u64 k11.snap.index, .int .u64 k11.snap.term, .slice A11 k11.snap.state.length c11, .slice B11 k11.ents.length d11]
  rw [hg] at hQ11
  have hz : Ext x13 (x13.alloc (.cells #[.int .u64 k11.hard.term, .int .i64 k11.hard.vote, .int .u64 k11.snap.index, .int .u64 k11.snap.term, .slice A11 k11.snap.state.length c11, .slice B11 k11.ents.length d11] 33)) := (Ext.rfl' _).alloc' _
  replace hR1 := hR1.ext hz
  replace hR2 := hR2.ext hz
  replace hR3 := hR3.ext hz
  replace hb4 := hb4.ext hz
  replace he4 := he4.ext hz
  replace hQ4 := hQ4.ext hz
  replace hb5 := hb5.ext hz
  replace he5 := he5.ext hz
  replace hQ5 := hQ5.ext hz
  replace hb6 := hb6.ext hz
  replace he6 := he6.ext hz
  replace hQ6 := hQ6.ext hz
  replace hb7 := hb7.ext hz
  replace he7 := he7.ext hz
  replace hQ7 := hQ7.ext hz
  replace hb8 := hb8.ext hz
  replace he8 := he8.ext hz
  replace hQ8 := hQ8.ext hz
  replace hb9 := hb9.ext hz
  replace he9 := he9.ext hz
  replace hQ9 := hQ9.ext hz
  replace hb10 := hb10.ext hz
  replace he10 := he10.ext hz
  replace hQ10 := hQ10.ext hz
  replace hb11 := hb11.ext hz
  replace he11 := he11.ext hz
  replace hx := hx.trans' hz
  have el4 : ((k4.ents.length : Int) == 4) = true := by rw [← HK4.out]; rfl
  have el5 : ((k5.ents.length : Int) == 2) = true := by rw [← HK5.out]; rfl
  have el6 : ((k6.ents.length : Int) == 0) = true := by rw [← HK6.out]; rfl
  have el7 : ((k7.ents.length : Int) == 1) = true := by rw [← HK7.out]; rfl
  have el8 : ((k8.ents.length : Int) == 0) = true := by rw [← HK8.out]; rfl
  have el9 : ((k9.ents.length : Int) == 2) = true := by rw [← HK9.out]; rfl
  have el10 : ((k10.ents.length : Int) == 0) = true := by rw [← HK10.out]; rfl
  have el11 : ((k11.ents.length : Int) == 0) = true := by rw [← HK11.out]; rfl
  have ei5 : (k5.snap.index == 2) = true := by rw [← HK5.out]; rfl
  have ei10 : (k10.snap.index == 7) = true := by rw [← HK10.out]; rfl
  have lt5 : 0 < k5.ents.length := by rw [← HK5.out]; decide
  obtain ⟨ad5, en5, va5, rfl, hen5, hbl5, p5, -, -, -⟩ := en_at he5 lt5
  have et5 : (en5.term == 2) = true := by
    have h := hen5.out
    rw [← HK5.out] at h
    obtain rfl := Option.some.inj h
    rfl
  have p5_ := p5
  rw [show (0 * 2 : Nat) = 0 from rfl, show ad5.add 0 = ad5 by unfold Addr.add; simp] at p5_
  have qhQ4_0 := (hQ4.cell 0).trans rfl
  have qhQ4_1 := (hQ4.cell 1).trans rfl
  have qhQ4_2 := (hQ4.cell 2).trans rfl
  have qhQ4_3 := (hQ4.cell 3).trans rfl
  have qhQ4_4 := (hQ4.cell 4).trans rfl
  have qhQ4_5 := (hQ4.cell 5).trans rfl
  have qhQ5_0 := (hQ5.cell 0).trans rfl
  have qhQ5_1 := (hQ5.cell 1).trans rfl
  have qhQ5_2 := (hQ5.cell 2).trans rfl
  have qhQ5_3 := (hQ5.cell 3).trans rfl
  have qhQ5_4 := (hQ5.cell 4).trans rfl
  have qhQ5_5 := (hQ5.cell 5).trans rfl
  have qhQ6_0 := (hQ6.cell 0).trans rfl
  have qhQ6_1 := (hQ6.cell 1).trans rfl
  have qhQ6_2 := (hQ6.cell 2).trans rfl
  have qhQ6_3 := (hQ6.cell 3).trans rfl
  have qhQ6_4 := (hQ6.cell 4).trans rfl
  have qhQ6_5 := (hQ6.cell 5).trans rfl
  have qhQ7_0 := (hQ7.cell 0).trans rfl
  have qhQ7_1 := (hQ7.cell 1).trans rfl
  have qhQ7_2 := (hQ7.cell 2).trans rfl
  have qhQ7_3 := (hQ7.cell 3).trans rfl
  have qhQ7_4 := (hQ7.cell 4).trans rfl
  have qhQ7_5 := (hQ7.cell 5).trans rfl
  have qhQ8_0 := (hQ8.cell 0).trans rfl
  have qhQ8_1 := (hQ8.cell 1).trans rfl
  have qhQ8_2 := (hQ8.cell 2).trans rfl
  have qhQ8_3 := (hQ8.cell 3).trans rfl
  have qhQ8_4 := (hQ8.cell 4).trans rfl
  have qhQ8_5 := (hQ8.cell 5).trans rfl
  have qhQ9_0 := (hQ9.cell 0).trans rfl
  have qhQ9_1 := (hQ9.cell 1).trans rfl
  have qhQ9_2 := (hQ9.cell 2).trans rfl
  have qhQ9_3 := (hQ9.cell 3).trans rfl
  have qhQ9_4 := (hQ9.cell 4).trans rfl
  have qhQ9_5 := (hQ9.cell 5).trans rfl
  have qhQ10_0 := (hQ10.cell 0).trans rfl
  have qhQ10_1 := (hQ10.cell 1).trans rfl
  have qhQ10_2 := (hQ10.cell 2).trans rfl
  have qhQ10_3 := (hQ10.cell 3).trans rfl
  have qhQ10_4 := (hQ10.cell 4).trans rfl
  have qhQ10_5 := (hQ10.cell 5).trans rfl
  have qhQ11_0 := (hQ11.cell 0).trans rfl
  have qhQ11_1 := (hQ11.cell 1).trans rfl
  have qhQ11_2 := (hQ11.cell 2).trans rfl
  have qhQ11_3 := (hQ11.cell 3).trans rfl
  have qhQ11_4 := (hQ11.cell 4).trans rfl
  have qhQ11_5 := (hQ11.cell 5).trans rfl
  go_wp2_with fail
  go_ret
  exact ⟨rfl, hx⟩
end Go.Proofs.Ytboncnlcomeahaa

/- The statement 'StoreFormsSaid': whatever is handed in, the law answers true, and what was handed in is as it was. -/
namespace Go.Proofs.Ytboncnlcomeahaa.storeForms
set_option linter.unusedVariables false
set_option linter.unusedSimpArgs false
set_option linter.unnecessarySimpa false
set_option maxRecDepth 100000
open Go.ChangeShapes Go.WideShapes Go.ChangeAt Go.RowKit
open Go.ChangeMaps (open_string shut_string)

set_option maxRecDepth 100000 in
set_option maxHeartbeats 2000000 in
theorem lifted (os : Os) (started : os.Started) (H : Type) (enc : TypeId × Value → H) :
    ReturnsInHanded {} Try.checked os 6 .any (Rows.storeFormsSpec.pre6 enc Try.prog Try.f6 Rows.storeFormsRow.domain false) (Rows.storeFormsSpec.post enc Try.prog Try.f6 false true false false) := by
  refine returnsInHanded_of_change (C := Try.checked) own started (by kernel_rfl) Try.func6
    (ChangeSpec.witness6 (enc := enc) (C := Try.checked) false ⟨#[], #[], []⟩ 8 (by kernel_rfl) (by kernel_rfl) (by kernel_rfl) (by kernel_rfl)) ?_
  intro W base args ds gs before hval0 hW hcnd _
  have hval : ∀ (j : Nat) t v, Try.f6.params[j]? = some t → args[j]? = some v → Value.okWide Try.prog W .any base t v := hval0
  have hW' := hW
  obtain ⟨p, q, hA0, hV, rfl, hfz, hnd⟩ := hW
  have hA : DataW.TrodAll enc Try.prog W 0 (fun _ => true) true Try.f6.params.toList args.toList ds p := hA0
  rw [Try.params6] at hA hval
  obtain ⟨hargs, rfl, rfl⟩ := trodAll_nil hA
  obtain rfl : args = #[] := by cases args; simp_all
  obtain ⟨rfl, rfl⟩ := trodVars_none hV
  clear hA0 hval0
  refine (storeForms_walk  W ).mono fun e W' ⟨he, bel⟩ => ?_
  subst he
  exact ⟨_, rfl, _, _, _, [], _, [], hW', trodAll_mk1 (shut_bool Try.underlying4 _), trodAll_mk0, rfl, bel.frame _, fun h => by cases h⟩

theorem over : Rows.storeFormsRow.holds Try.pinned (OpenSpec.ofChange Rows.storeFormsSpec) :=
  OpenClaim.holds_of_wide 6 Try.f6 rfl rfl rfl rfl rfl rfl rfl ⟨rfl, rfl, rfl, rfl, rfl⟩ rfl rfl rfl rfl rfl (by kernel_rfl) Try.func6 (by kernel_rfl)
    (of_decide_eq_true (by kernel_rfl)) (by unfold Func.isWrapper; first | (rw [if_pos (by decide +kernel)]; kernel_rfl) | (rw [if_neg (by decide +kernel)]; exact ⟨rfl, rfl⟩))
    (fun os started H enc _ => lifted os started H enc)

/-- THE STATEMENT -/
theorem proved : Rows.StoreFormsSaid := over
#print axioms proved
end Go.Proofs.Ytboncnlcomeahaa.storeForms

