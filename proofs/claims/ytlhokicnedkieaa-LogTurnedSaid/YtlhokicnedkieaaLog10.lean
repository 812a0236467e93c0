/- The statements' own: the records that may be, with what their kinds have. -/
import Derived.Test.YtlhokicnedkieaaLog8
import Derived.Test.YtlhokicnedkieaaLog4
import Derived.Deep.CutBlock
namespace Go.Proofs.Ytlhokicnedkieaa
set_option linter.unusedVariables false
set_option linter.unusedSimpArgs false
set_option linter.unnecessarySimpa false
set_option maxRecDepth 100000
open Go.RowKit
theorem right_take {l : List Rec} {k : Nat} {r : Rec} (h : l[k]? = some r) : right (l.take (k + 1)) = right (l.take k) ++ (if may r = true then [fixr r] else []) := by
  rw [take_snoc h, right_app]
  simp [right]
set_option maxHeartbeats 3200000 in
theorem right_b (x : Value) (l : List Rec) (w : World) (hl : l.length * 104 ≤ 140737488351232) (hx : Enc.Sl reE w noneAt x l) :
    Calls Try.prog 36 #[x] w fun e w' => ∃ A c m, Hid (m = right l) ∧ e = .returned (.slice A m.length c) ∧ Own 57 reE w w' noneAt (.slice A m.length c) m ∧ Ext w w' := by
  obtain ⟨A, c, rfl, -, -⟩ := hx.form
  have hx2 : Enc.Sl reE w (fun k => w.heap.size ≤ k) (.slice A l.length c) l := hx.mono fun k hk h => absurd h (by omega)
  go_enter Try.func36, Try.ntmps36
  go_wp2_with fail
  go_loopw [3, 4] (fun vo vi wr => ∃ (k : Nat) (m : List Rec) (B : Option Addr) (cc : Nat), (k : Int) ≤ l.length ∧ vo = .slice B m.length cc ∧ vi = .int .i64 k ∧ Hid (m = right (l.take k)) ∧ Own 57 reE w wr noneAt (.slice B m.length cc) m ∧ Ext w wr) (fun _ vi _ => (l.length - intOf vi).toNat)
  case atStart => exact ⟨0, [], none, 0, by omega, rfl, rfl, hide (by simp [right]), Own.nil _ _ _ _ _, Ext.rfl' _⟩
  case round =>
    obtain ⟨k, m, B, cc, hk, rfl, rfl, hm, hown, hxr⟩ := hrel
    by_cases hlt : (k : Int) < l.length
    · have HLT := hide hlt
      obtain ⟨ad, r, v1, v2, rfl, hr, hb, p0, p1, p2, p3, p4, p5, p6, p7, p8, r1, r2, r3⟩ := re_at (hx2.ext hxr) (k := k) (by omega)
      obtain ⟨A1, c1, rfl, -, -, -⟩ := id r2.1
      obtain ⟨A2, c2, rfl, -, -, -⟩ := id r3.1
      have hxa : Ext wr (wr.alloc (.cells #[.int .i64 r.kind, .int .u64 0, .int .i64 0, .int .u64 0, .slice none 0 0, .int .u64 0, .int .u64 0, .int .u64 0, .slice none 0 0] 57)) := (Ext.rfl' wr).alloc' _
      have hab : (ad.add (k * 9)).block < wr.heap.size := by rw [block_of_add]; exact hb
      have y0 := (hxa.cell (p := ad.add (k * 9)) hab).trans p0
      have y1 := (hxa.cell (p := ⟨(ad.add (k * 9)).block, (ad.add (k * 9)).off + 1, none⟩) hab).trans p1
      have y2 := (hxa.cell (p := ⟨(ad.add (k * 9)).block, (ad.add (k * 9)).off + 2, none⟩) hab).trans p2
      have y3 := (hxa.cell (p := ⟨(ad.add (k * 9)).block, (ad.add (k * 9)).off + 3, none⟩) hab).trans p3
      have y4 := (hxa.cell (p := ⟨(ad.add (k * 9)).block, (ad.add (k * 9)).off + 4, none⟩) hab).trans p4
      have y5 := (hxa.cell (p := ⟨(ad.add (k * 9)).block, (ad.add (k * 9)).off + 5, none⟩) hab).trans p5
      have y6 := (hxa.cell (p := ⟨(ad.add (k * 9)).block, (ad.add (k * 9)).off + 6, none⟩) hab).trans p6
      have y7 := (hxa.cell (p := ⟨(ad.add (k * 9)).block, (ad.add (k * 9)).off + 7, none⟩) hab).trans p7
      have y8 := (hxa.cell (p := ⟨(ad.add (k * 9)).block, (ad.add (k * 9)).off + 8, none⟩) hab).trans p8
      obtain ⟨g, hg⟩ : ∃ g, wr.heap.size = g := ⟨_, rfl⟩
      have hB0 := Blk.new wr 57 #[.int .i64 r.kind, .int .u64 0, .int .i64 0, .int .u64 0, .slice none 0 0, .int .u64 0, .int .u64 0, .int .u64 0, .slice none 0 0]
      rw [hg] at hB0
      go_upto_block 2 with fail
      generalize wr.alloc (.cells #[.int .i64 r.kind, .int .u64 0, .int .i64 0, .int .u64 0, .slice none 0 0, .int .u64 0, .int .u64 0, .int .u64 0, .slice none 0 0] 57) = Wa at *
      have c1_ := (hB0.cell 1).trans rfl
      have f1_ := hB0.frozen 1
      have c2_ := (hB0.cell 2).trans rfl
      have f2_ := hB0.frozen 2
      have c3_ := (hB0.cell 3).trans rfl
      have f3_ := hB0.frozen 3
      have c4_ := (hB0.cell 4).trans rfl
      have f4_ := hB0.frozen 4
      have c5_ := (hB0.cell 5).trans rfl
      have f5_ := hB0.frozen 5
      have c6_ := (hB0.cell 6).trans rfl
      have f6_ := hB0.frozen 6
      have c7_ := (hB0.cell 7).trans rfl
      have f7_ := hB0.frozen 7
      have c8_ := (hB0.cell 8).trans rfl
      have f8_ := hB0.frozen 8
      go_cut [] (fun wx => ∃ u1 u2, Blk wx g 57 (recells (fixr r) u1 u2).toArray ∧ Ext wr wx ∧ Enc.BsX wr (fun k => w.heap.size ≤ k) u1 (fixr r).ent.data ∧ Enc.BsX wr (fun k => w.heap.size ≤ k) u2 (fixr r).snap.state)
      case first =>
        by_cases h1 : r.kind = 1
        · have HF : Hid (fixr r = ⟨r.kind, r.hard, En0, 0, Sn0⟩) := by unfold Hid fixr; simp [h1]
          have hBF : Blk _ g 57 _ := ((hB0).set_ 1 (.int .u64 r.hard.term)).set_ 2 (.int .i64 r.hard.vote)
          have hCF : Chg [g] Wa _ := ((Chg.refl [g] Wa).set (p := ⟨g, 1, none⟩) (by simp) (.int .u64 r.hard.term)).set (p := ⟨g, 2, none⟩) (by simp) (.int .i64 r.hard.vote)
          go_wp2_with fail
          go_meet
          case rel =>
            rw [HF.out]
            exact ⟨_, _, hBF, hxa.then_ hCF (by simp; omega), Enc.BsX.nil _ _, Enc.BsX.nil _ _⟩
        · by_cases h2 : r.kind = 2
          · have HF : Hid (fixr r = ⟨r.kind, Hd0, r.ent, 0, Sn0⟩) := by unfold Hid fixr; simp [h2]
            have hBF : Blk _ g 57 _ := ((hB0).set_ 3 (.int .u64 r.ent.term)).set_ 4 (.slice A1 r.ent.data.length c1)
            have hCF : Chg [g] Wa _ := ((Chg.refl [g] Wa).set (p := ⟨g, 3, none⟩) (by simp) (.int .u64 r.ent.term)).set (p := ⟨g, 4, none⟩) (by simp) (.slice A1 r.ent.data.length c1)
            go_wp2_with fail
            go_meet
            case rel =>
              rw [HF.out]
              exact ⟨_, _, hBF, hxa.then_ hCF (by simp; omega), r2, Enc.BsX.nil _ _⟩
          · by_cases h3 : r.kind = 3
            · have HF : Hid (fixr r = ⟨r.kind, Hd0, En0, r.index, Sn0⟩) := by unfold Hid fixr; simp [h3]
              have hBF : Blk _ g 57 _ := (hB0).set_ 5 (.int .u64 r.index)
              have hCF : Chg [g] Wa _ := (Chg.refl [g] Wa).set (p := ⟨g, 5, none⟩) (by simp) (.int .u64 r.index)
              go_wp2_with fail
              go_meet
              case rel =>
                rw [HF.out]
                exact ⟨_, _, hBF, hxa.then_ hCF (by simp; omega), Enc.BsX.nil _ _, Enc.BsX.nil _ _⟩
            · by_cases h4 : r.kind = 4
              · have HF : Hid (fixr r = ⟨r.kind, Hd0, En0, 0, r.snap⟩) := by unfold Hid fixr; simp [h4]
                have hBF : Blk _ g 57 _ := (((hB0).set_ 6 (.int .u64 r.snap.index)).set_ 7 (.int .u64 r.snap.term)).set_ 8 (.slice A2 r.snap.state.length c2)
                have hCF : Chg [g] Wa _ := (((Chg.refl [g] Wa).set (p := ⟨g, 6, none⟩) (by simp) (.int .u64 r.snap.index)).set (p := ⟨g, 7, none⟩) (by simp) (.int .u64 r.snap.term)).set (p := ⟨g, 8, none⟩) (by simp) (.slice A2 r.snap.state.length c2)
                go_wp2_with fail
                go_meet
                case rel =>
                  rw [HF.out]
                  exact ⟨_, _, hBF, hxa.then_ hCF (by simp; omega), Enc.BsX.nil _ _, r3⟩
              · have HF : Hid (fixr r = ⟨r.kind, Hd0, En0, 0, Sn0⟩) := by unfold Hid fixr; simp [h1, h2, h3, h4]
                have hBF := hB0
                go_wp2_with fail
                go_meet
                case rel =>
                  rw [HF.out]
                  exact ⟨_, _, hBF, hxa, Enc.BsX.nil _ _, Enc.BsX.nil _ _⟩
      case rest =>
        obtain ⟨u1, u2, hB, hx5, hu1, hu2⟩ := hcut
        clear y0 y1 y2 y3 y4 y5 y6 y7 y8 hxa c1_ c2_ c3_ c4_ c5_ c6_ c7_ c8_ f1_ f2_ f3_ f4_ f5_ f6_ f7_ f8_ hB0
        obtain ⟨A3, c3, rfl, -, -, -⟩ := id hu1.1
        obtain ⟨A4, c4, rfl, -, -, -⟩ := id hu2.1
        have y0 := (hx5.cell (p := ad.add (k * 9)) hab).trans p0
        have y1 := (hx5.cell (p := ⟨(ad.add (k * 9)).block, (ad.add (k * 9)).off + 1, none⟩) hab).trans p1
        have y2 := (hx5.cell (p := ⟨(ad.add (k * 9)).block, (ad.add (k * 9)).off + 2, none⟩) hab).trans p2
        have y3 := (hx5.cell (p := ⟨(ad.add (k * 9)).block, (ad.add (k * 9)).off + 3, none⟩) hab).trans p3
        have y4 := (hx5.cell (p := ⟨(ad.add (k * 9)).block, (ad.add (k * 9)).off + 4, none⟩) hab).trans p4
        have y5 := (hx5.cell (p := ⟨(ad.add (k * 9)).block, (ad.add (k * 9)).off + 5, none⟩) hab).trans p5
        have y6 := (hx5.cell (p := ⟨(ad.add (k * 9)).block, (ad.add (k * 9)).off + 6, none⟩) hab).trans p6
        have y7 := (hx5.cell (p := ⟨(ad.add (k * 9)).block, (ad.add (k * 9)).off + 7, none⟩) hab).trans p7
        have y8 := (hx5.cell (p := ⟨(ad.add (k * 9)).block, (ad.add (k * 9)).off + 8, none⟩) hab).trans p8
        generalize wc = W5 at *
        have HM := hide (fun W => rmay_b r (.slice A1 r.ent.data.length c1) (.slice A2 r.snap.state.length c2) W)
        have HT := hide (right_take hr.out)
        have hml : m.length ≤ k := by rw [hm.out]; exact Nat.le_trans (right_len _) (by rw [List.length_take]; omega)
        go_wp2_with fail
        refine (HM.out _).mono ?_
        rintro e W6 ⟨rfl, hx6⟩
        have hx56 := hx5.trans' hx6
        replace hB := hB.ext hx6
        clear y0 y1 y2 y3 y4 y5 y6 y7 y8
        cases hmr : may r with
        | false =>
          rw [hmr] at HT
          go_wp2_with fail
          go_roundw
          case rel => exact ⟨k + 1, m, B, cc, by have := HLT.out; omega, rfl, by go_num, hide (by rw [HT.out, hm.out]; simp), hown.ext hx56, hxr.trans' hx56⟩
          case measure => have := HLT.out; simp [intOf]; omega
        | true =>
          rw [hmr, if_pos rfl] at HT
          have HW := hide (fixr_wide r1)
          obtain ⟨f, hf⟩ : ∃ f, fixr r = f := ⟨_, rfl⟩
          rw [hf] at hB hu1 hu2 HW HT
          clear hf
          have x0 := (hB.cell 0).trans rfl
          have x1 := (hB.cell 1).trans rfl
          have x2 := (hB.cell 2).trans rfl
          have x3 := (hB.cell 3).trans rfl
          have x4 := (hB.cell 4).trans rfl
          have x5 := (hB.cell 5).trans rfl
          have x6 := (hB.cell 6).trans rfl
          have x7 := (hB.cell 7).trans rfl
          have x8 := (hB.cell 8).trans rfl
          have hown6 := hown.ext hx56
          have hxw6 := hxr.trans' hx56
          have hrep : reE.rep W6 (fun i => noneAt i ∨ (Value.slice B m.length cc).ownBlock = some i) (recells f (.slice A3 f.ent.data.length c3) (.slice A4 f.snap.state.length c4)) f := re_rep.2 ⟨_, _, rfl, HW.out, (hu1.mono fun i _ h => h.elim (fun h => h.elim) fun h => (hown.lt i h).1).ext hx56, (hu2.mono fun i _ h => h.elim (fun h => h.elim) fun h => (hown.lt i h).1).ext hx56⟩
          have hxa6 : Ext W6 (W6.alloc (.cells (recells f (.slice A3 f.ent.data.length c3) (.slice A4 f.snap.state.length c4)).toArray 57)) := (Ext.rfl' W6).alloc' _
          have hlit := Sl.one 57 hrep W6.heap.size rfl (fun h => h.elim (fun h => h.elim) fun h => by have := (hown6.lt _ h).2; omega)
          go_wp2_with (at_builtin; refine wpList_own elt_re 46 Try.underlying46 rfl _ _ rfl (hown6.ext hxa6) rfl (hxw6.trans' hxa6) (m := [f]) (y := .slice (some ⟨W6.heap.size, 0, none⟩) 1 1) rfl hlit (fun h => h.elim) (by simp only [List.length_singleton]; omega) (by simp only [List.length_singleton]; omega) ?_; intro l3 A6 c6 w6 hl3 hown3 hxx hcc)
          go_roundw
          case rel => exact ⟨k + 1, l3, A6, c6, by have := HLT.out; omega, rfl, by go_num, hide (by rw [HT.out, hl3.out, hm.out]), hown3, hxx⟩
          case measure => have := HLT.out; simp [intOf]; omega
    · obtain rfl : k = l.length := by omega
      go_wp2
      go_ret
      exact ⟨B, cc, m, hide (by rw [hm.out, List.take_length]), rfl, hown, hxr⟩
end Go.Proofs.Ytlhokicnedkieaa
