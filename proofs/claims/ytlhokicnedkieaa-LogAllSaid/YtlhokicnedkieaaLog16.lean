/- LogAll. -/
import Derived.Test.YtlhokicnedkieaaLog15
import Derived.Test.YtlhokicnedkieaaLog11
import Derived.Test.YtlhokicnedkieaaLog8
import Derived.Test.YtlhokicnedkieaaLog4
namespace Go.Proofs.Ytlhokicnedkieaa
set_option linter.unusedVariables false
set_option linter.unusedSimpArgs false
set_option linter.unnecessarySimpa false
set_option maxRecDepth 100000
open Go.RowKit
set_option maxHeartbeats 6400000 in
theorem logAll_walk (xl : Value) (l : List Rec) (xb : Value) (b : Bytes) (w : World) (hl : Enc.Sl reE w noneAt xl l) (hb : Bs w xb b) :
    Calls Try.prog 7 #[xl, xb] w fun e w' => e = .returned (.bool true) ∧ Ext w w' := by
  obtain ⟨A, c, rfl, -, -⟩ := hl.form
  obtain ⟨B, d, rfl, hbd1, hbd2, -⟩ := id hb
  have hwl : ∀ r ∈ l, r.wide := Sl.wides hl
  go_enter Try.func7, Try.ntmps7
  go_wp2_with fail
  refine (begun22_b _).mono ?_
  rintro e W1 ⟨rfl, hx1⟩
  go_wp2_with fail
  refine (light22_b _ l _ (hl.ext hx1)).mono ?_
  rintro e W2 ⟨b1, rfl, hx2, hb1⟩
  have hx12 := hx1.trans' hx2
  cases b1 with
  | false =>
    go_wp2
    go_ret
    exact ⟨rfl, hx12⟩
  | true =>
    obtain ⟨la1, la2⟩ := hb1 rfl
    have HA : Hid (∀ r ∈ l, r.wide ∧ r.small) := fun r hr => ⟨hwl r hr, la1 r hr⟩
    clear hb1 la1 hwl
    by_cases hb300 : (300 : Int) < b.length
    · go_wp2
      go_ret
      exact ⟨rfl, hx12⟩
    · have hb3 : b.length ≤ 300 := by omega
      have hl2 := hl.ext hx12
      have hbb2 := hb.ext hx12
      clear hl hb hx1 hx2
      generalize W2 = w2 at *
      go_wp2_with fail
      go_loopw [5] (fun vi wr => ∃ k : Nat, (k : Int) ≤ l.length ∧ vi = .int .i64 k ∧ Ext w2 wr) (fun vi _ => (l.length - intOf vi).toNat)
      case atStart => exact ⟨0, by omega, rfl, Ext.rfl' _⟩
      case round =>
        obtain ⟨k, hk, rfl, hxr⟩ := hrel
        by_cases hlt : (k : Int) < l.length
        · have HLT := hide hlt
          obtain ⟨ad, r, v1, v2, rfl, hr, hbk, p0, p1, p2, p3, p4, p5, p6, p7, p8, r1, r2, r3⟩ := re_at (hl2.ext hxr) (k := k) (by omega)
          obtain ⟨A1, c1, rfl, -, -, -⟩ := id r2.1
          obtain ⟨A2, c2, rfl, -, -, -⟩ := id r3.1
          have hab : (ad.add (k * 9)).block < wr.heap.size := by rw [block_of_add]; exact hbk
          have hb1 : (0 : Int) ≤ k := by omega
          have hb2' : (k : Int) < l.length := hlt
          go_upto_region 8 with fail
          refine Rg.regionT Try.checked.mixed 64 11 (by kernel_rfl) [
            (fun x_ _ => x_ = .slice (some ad) l.length c),
            (fun x_ _ => x_ = .int .i64 k),
            (fun x_ _ => x_ = .pointer (some (ad.add (k * 9)))),
            (fun x_ _ => x_ = .agg #[.int .i64 r.kind, .int .u64 r.hard.term, .int .i64 r.hard.vote, .int .u64 r.ent.term, .slice A1 r.ent.data.length c1, .int .u64 r.index, .int .u64 r.snap.index, .int .u64 r.snap.term, .slice A2 r.snap.state.length c2]),
            (fun x_ _ => x_ = .bool (may r)),
            (fun x_ _ => x_ = .slice (some ad) l.length c),
            (fun x_ _ => x_ = .int .i64 k),
            (fun x_ _ => x_ = .pointer (some (ad.add (k * 9)))),
            (fun x_ _ => x_ = .agg #[.int .i64 r.kind, .int .u64 r.hard.term, .int .i64 r.hard.vote, .int .u64 r.ent.term, .slice A1 r.ent.data.length c1, .int .u64 r.index, .int .u64 r.snap.index, .int .u64 r.snap.term, .slice A2 r.snap.state.length c2]),
            (fun x_ _ => x_ = .bool (may r)),
            (fun x_ _ => x_ = .bool false)] (fun W => Ext wr W) Ext rfl rfl rfl
            ?st ((Ext.rfl' wr).drew') ?ob ?en
          case st => exact ⟨fun _ _ _ h _ => h, fun _ _ _ h _ => h, fun _ _ _ h _ => h, fun _ _ _ h _ => h, fun _ _ _ h _ => h, fun _ _ _ h _ => h, fun _ _ _ h _ => h, fun _ _ _ h _ => h, fun _ _ _ h _ => h, fun _ _ _ h _ => h, fun _ _ _ h _ => h, trivial⟩
          case ob =>
            refine ⟨Rg.at_run [0] rfl ?_, ?_⟩
            · intro ρ W hR ⟨q0, _⟩
              replace q0 : ρ 0 = .slice (some ad) l.length c := q0
              refine ⟨rfl, ?_⟩
              exact Rg.run_ok (v := .slice (some ad) l.length c) (by simp [execOp, Rg.ev, go_sem, q0]) ⟨rfl, hR, Ext.rfl' _⟩
            refine ⟨Rg.at_run [5] rfl ?_, ?_⟩
            · intro ρ W hR ⟨q5, _⟩
              replace q5 : ρ 5 = .int .i64 k := q5
              refine ⟨rfl, ?_⟩
              exact Rg.run_ok (v := .int .i64 k) (by simp [execOp, Rg.ev, go_sem, q5]) ⟨rfl, hR, Ext.rfl' _⟩
            refine ⟨Rg.at_run [26, 27] rfl ?_, ?_⟩
            · intro ρ W hR ⟨q26, q27, _⟩
              replace q26 : ρ 26 = .slice (some ad) l.length c := q26
              replace q27 : ρ 27 = .int .i64 k := q27
              refine ⟨rfl, ?_⟩
              exact Rg.run_ok (v := .pointer (some (ad.add (k * 9)))) (by simp [execOp, Rg.ev, go_sem, q26, q27, hb1, hb2']) ⟨rfl, hR, Ext.rfl' _⟩
            refine ⟨Rg.at_run [28] rfl ?_, ?_⟩
            · intro ρ W hR ⟨q28, _⟩
              replace q28 : ρ 28 = .pointer (some (ad.add (k * 9))) := q28
              refine ⟨rfl, ?_⟩
              have c0_ : W.cell? (ad.add (k * 9)) = some (.int .i64 r.kind) := (hR.cell (p := ad.add (k * 9)) hab).trans p0
              have c1_ : W.cell? (⟨(ad.add (k * 9)).block, (ad.add (k * 9)).off + 1, none⟩) = some (.int .u64 r.hard.term) := (hR.cell (p := ⟨(ad.add (k * 9)).block, (ad.add (k * 9)).off + 1, none⟩) hab).trans p1
              have c2_ : W.cell? (⟨(ad.add (k * 9)).block, (ad.add (k * 9)).off + 2, none⟩) = some (.int .i64 r.hard.vote) := (hR.cell (p := ⟨(ad.add (k * 9)).block, (ad.add (k * 9)).off + 2, none⟩) hab).trans p2
              have c3_ : W.cell? (⟨(ad.add (k * 9)).block, (ad.add (k * 9)).off + 3, none⟩) = some (.int .u64 r.ent.term) := (hR.cell (p := ⟨(ad.add (k * 9)).block, (ad.add (k * 9)).off + 3, none⟩) hab).trans p3
              have c4_ : W.cell? (⟨(ad.add (k * 9)).block, (ad.add (k * 9)).off + 4, none⟩) = some (.slice A1 r.ent.data.length c1) := (hR.cell (p := ⟨(ad.add (k * 9)).block, (ad.add (k * 9)).off + 4, none⟩) hab).trans p4
              have c5_ : W.cell? (⟨(ad.add (k * 9)).block, (ad.add (k * 9)).off + 5, none⟩) = some (.int .u64 r.index) := (hR.cell (p := ⟨(ad.add (k * 9)).block, (ad.add (k * 9)).off + 5, none⟩) hab).trans p5
              have c6_ : W.cell? (⟨(ad.add (k * 9)).block, (ad.add (k * 9)).off + 6, none⟩) = some (.int .u64 r.snap.index) := (hR.cell (p := ⟨(ad.add (k * 9)).block, (ad.add (k * 9)).off + 6, none⟩) hab).trans p6
              have c7_ : W.cell? (⟨(ad.add (k * 9)).block, (ad.add (k * 9)).off + 7, none⟩) = some (.int .u64 r.snap.term) := (hR.cell (p := ⟨(ad.add (k * 9)).block, (ad.add (k * 9)).off + 7, none⟩) hab).trans p7
              have c8_ : W.cell? (⟨(ad.add (k * 9)).block, (ad.add (k * 9)).off + 8, none⟩) = some (.slice A2 r.snap.state.length c2) := (hR.cell (p := ⟨(ad.add (k * 9)).block, (ad.add (k * 9)).off + 8, none⟩) hab).trans p8
              exact Rg.run_ok (v := .agg #[.int .i64 r.kind, .int .u64 r.hard.term, .int .i64 r.hard.vote, .int .u64 r.ent.term, .slice A1 r.ent.data.length c1, .int .u64 r.index, .int .u64 r.snap.index, .int .u64 r.snap.term, .slice A2 r.snap.state.length c2]) (by simp [execOp, Rg.ev, go_sem, q28, c0_, c1_, c2_, c3_, c4_, c5_, c6_, c7_, c8_]) ⟨rfl, hR, Ext.rfl' _⟩
            refine ⟨Rg.at_run [29] rfl ?_, ?_⟩
            · intro ρ W hR ⟨q29, _⟩
              replace q29 : ρ 29 = .agg #[.int .i64 r.kind, .int .u64 r.hard.term, .int .i64 r.hard.vote, .int .u64 r.ent.term, .slice A1 r.ent.data.length c1, .int .u64 r.index, .int .u64 r.snap.index, .int .u64 r.snap.term, .slice A2 r.snap.state.length c2] := q29
              refine ⟨rfl, ?_⟩
              refine Rg.run_enter (by simp [execOp, Rg.ev, go_sem, q29]; exact ⟨⟨rfl, rfl⟩, rfl⟩) ?_
              refine (may_b r _ _ W).mono ?_
              rintro e_ w2 ⟨rfl, hxx⟩
              exact ⟨_, rfl, rfl, hR.trans' hxx, hxx⟩
            refine ⟨Rg.at_run [0] rfl ?_, ?_⟩
            · intro ρ W hR ⟨q0, _⟩
              replace q0 : ρ 0 = .slice (some ad) l.length c := q0
              refine ⟨rfl, ?_⟩
              exact Rg.run_ok (v := .slice (some ad) l.length c) (by simp [execOp, Rg.ev, go_sem, q0]) ⟨rfl, hR, Ext.rfl' _⟩
            refine ⟨Rg.at_run [5] rfl ?_, ?_⟩
            · intro ρ W hR ⟨q5, _⟩
              replace q5 : ρ 5 = .int .i64 k := q5
              refine ⟨rfl, ?_⟩
              exact Rg.run_ok (v := .int .i64 k) (by simp [execOp, Rg.ev, go_sem, q5]) ⟨rfl, hR, Ext.rfl' _⟩
            refine ⟨Rg.at_run [31, 32] rfl ?_, ?_⟩
            · intro ρ W hR ⟨q31, q32, _⟩
              replace q31 : ρ 31 = .slice (some ad) l.length c := q31
              replace q32 : ρ 32 = .int .i64 k := q32
              refine ⟨rfl, ?_⟩
              exact Rg.run_ok (v := .pointer (some (ad.add (k * 9)))) (by simp [execOp, Rg.ev, go_sem, q31, q32, hb1, hb2']) ⟨rfl, hR, Ext.rfl' _⟩
            refine ⟨Rg.at_run [33] rfl ?_, ?_⟩
            · intro ρ W hR ⟨q33, _⟩
              replace q33 : ρ 33 = .pointer (some (ad.add (k * 9))) := q33
              refine ⟨rfl, ?_⟩
              have c0_ : W.cell? (ad.add (k * 9)) = some (.int .i64 r.kind) := (hR.cell (p := ad.add (k * 9)) hab).trans p0
              have c1_ : W.cell? (⟨(ad.add (k * 9)).block, (ad.add (k * 9)).off + 1, none⟩) = some (.int .u64 r.hard.term) := (hR.cell (p := ⟨(ad.add (k * 9)).block, (ad.add (k * 9)).off + 1, none⟩) hab).trans p1
              have c2_ : W.cell? (⟨(ad.add (k * 9)).block, (ad.add (k * 9)).off + 2, none⟩) = some (.int .i64 r.hard.vote) := (hR.cell (p := ⟨(ad.add (k * 9)).block, (ad.add (k * 9)).off + 2, none⟩) hab).trans p2
              have c3_ : W.cell? (⟨(ad.add (k * 9)).block, (ad.add (k * 9)).off + 3, none⟩) = some (.int .u64 r.ent.term) := (hR.cell (p := ⟨(ad.add (k * 9)).block, (ad.add (k * 9)).off + 3, none⟩) hab).trans p3
              have c4_ : W.cell? (⟨(ad.add (k * 9)).block, (ad.add (k * 9)).off + 4, none⟩) = some (.slice A1 r.ent.data.length c1) := (hR.cell (p := ⟨(ad.add (k * 9)).block, (ad.add (k * 9)).off + 4, none⟩) hab).trans p4
              have c5_ : W.cell? (⟨(ad.add (k * 9)).block, (ad.add (k * 9)).off + 5, none⟩) = some (.int .u64 r.index) := (hR.cell (p := ⟨(ad.add (k * 9)).block, (ad.add (k * 9)).off + 5, none⟩) hab).trans p5
              have c6_ : W.cell? (⟨(ad.add (k * 9)).block, (ad.add (k * 9)).off + 6, none⟩) = some (.int .u64 r.snap.index) := (hR.cell (p := ⟨(ad.add (k * 9)).block, (ad.add (k * 9)).off + 6, none⟩) hab).trans p6
              have c7_ : W.cell? (⟨(ad.add (k * 9)).block, (ad.add (k * 9)).off + 7, none⟩) = some (.int .u64 r.snap.term) := (hR.cell (p := ⟨(ad.add (k * 9)).block, (ad.add (k * 9)).off + 7, none⟩) hab).trans p7
              have c8_ : W.cell? (⟨(ad.add (k * 9)).block, (ad.add (k * 9)).off + 8, none⟩) = some (.slice A2 r.snap.state.length c2) := (hR.cell (p := ⟨(ad.add (k * 9)).block, (ad.add (k * 9)).off + 8, none⟩) hab).trans p8
              exact Rg.run_ok (v := .agg #[.int .i64 r.kind, .int .u64 r.hard.term, .int .i64 r.hard.vote, .int .u64 r.ent.term, .slice A1 r.ent.data.length c1, .int .u64 r.index, .int .u64 r.snap.index, .int .u64 r.snap.term, .slice A2 r.snap.state.length c2]) (by simp [execOp, Rg.ev, go_sem, q33, c0_, c1_, c2_, c3_, c4_, c5_, c6_, c7_, c8_]) ⟨rfl, hR, Ext.rfl' _⟩
            refine ⟨Rg.at_run [34] rfl ?_, ?_⟩
            · intro ρ W hR ⟨q34, _⟩
              replace q34 : ρ 34 = .agg #[.int .i64 r.kind, .int .u64 r.hard.term, .int .i64 r.hard.vote, .int .u64 r.ent.term, .slice A1 r.ent.data.length c1, .int .u64 r.index, .int .u64 r.snap.index, .int .u64 r.snap.term, .slice A2 r.snap.state.length c2] := q34
              refine ⟨rfl, ?_⟩
              refine Rg.run_enter (by simp [execOp, Rg.ev, go_sem, q34]; exact ⟨⟨rfl, rfl⟩, rfl⟩) ?_
              refine (rmay_b r _ _ W).mono ?_
              rintro e_ w2 ⟨rfl, hxx⟩
              exact ⟨_, rfl, rfl, hR.trans' hxx, hxx⟩
            refine ⟨Rg.at_run [30, 35] rfl ?_, ?_⟩
            · intro ρ W hR ⟨q30, q35, _⟩
              replace q30 : ρ 30 = .bool (may r) := q30
              replace q35 : ρ 35 = .bool (may r) := q35
              refine ⟨rfl, ?_⟩
              exact Rg.run_ok (v := .bool false) (by simp [execOp, Rg.ev, go_sem, q30, q35]) ⟨rfl, hR, Ext.rfl' _⟩
            trivial
          case en =>
            intro tm W hR hsz hk
            rw [Rg.fin_eq (ds := [26, 27, 28, 29, 30, 31, 32, 33, 34, 35, 36]) rfl rfl rfl hsz hk]
            have k26 : tm.getD 26 undef = .slice (some ad) l.length c := hk 26
            have k27 : tm.getD 27 undef = .int .i64 k := hk 27
            have k28 : tm.getD 28 undef = .pointer (some (ad.add (k * 9))) := hk 28
            have k29 : tm.getD 29 undef = .agg #[.int .i64 r.kind, .int .u64 r.hard.term, .int .i64 r.hard.vote, .int .u64 r.ent.term, .slice A1 r.ent.data.length c1, .int .u64 r.index, .int .u64 r.snap.index, .int .u64 r.snap.term, .slice A2 r.snap.state.length c2] := hk 29
            have k30 : tm.getD 30 undef = .bool (may r) := hk 30
            have k31 : tm.getD 31 undef = .slice (some ad) l.length c := hk 31
            have k32 : tm.getD 32 undef = .int .i64 k := hk 32
            have k33 : tm.getD 33 undef = .pointer (some (ad.add (k * 9))) := hk 33
            have k34 : tm.getD 34 undef = .agg #[.int .i64 r.kind, .int .u64 r.hard.term, .int .i64 r.hard.vote, .int .u64 r.ent.term, .slice A1 r.ent.data.length c1, .int .u64 r.index, .int .u64 r.snap.index, .int .u64 r.snap.term, .slice A2 r.snap.state.length c2] := hk 34
            have k35 : tm.getD 35 undef = .bool (may r) := hk 35
            have k36 : tm.getD 36 undef = .bool false := hk 36
            clear hk hsz
            simp only [Rg.putAll, List.setIfInBounds_toArray, List.set_cons_zero, List.set_cons_succ, k26, k27, k28, k29, k30, k31, k32, k33, k34, k35, k36]
            clear k26
            clear k27
            clear k28
            clear k29
            clear k30
            clear k31
            clear k32
            clear k33
            clear k34
            clear k35
            clear k36
            refine Rg.nil_list ?_
            go_wp2
            go_roundw
            case rel => exact ⟨k + 1, by have := HLT.out; omega, by go_num, hxr.trans' hR⟩
            case measure => have := HLT.out; simp [intOf]; omega
        · have hl3 := hl2.ext hxr
          have hbb3 := hbb2.ext hxr
          have hx13 := hx12.trans' hxr
          generalize wr = W3 at *
          go_wp2_with fail
          refine (scan_b _ b _ (by omega) hbb3).mono ?_
          rintro e W4 ⟨l5, A5, c5, n5, hln5, rfl, hown5, hx4⟩
          go_wp2_with fail
          refine (rscan_b _ b _ (by omega) (hbb3.ext hx4)).mono ?_
          rintro e W5 ⟨l6, A6, c6, n6, hln6, rfl, hown6, hx5⟩
          obtain ⟨h56, hn56⟩ := Prod.mk.inj (hln5.out.trans hln6.out.symm)
          subst h56 hn56
          have hs5 := slN (hown5.ext hx5).sl
          have hs6 := slN hown6.sl
          have hl5 := hl3.ext (hx4.trans' hx5)
          have hx15 := hx13.trans' (hx4.trans' hx5)
          go_upto_region 12 with fail
          refine Rg.regionT Try.checked.mixed 64 18 (by kernel_rfl) [
            (fun x_ _ => x_ = .slice A l.length c),
            (fun v W => Bs W v (lput l)),
            (fun x_ _ => x_ = str (lput l)),
            (fun x_ _ => x_ = .slice A l.length c),
            (fun v W => Bs W v (lput l)),
            (fun x_ _ => x_ = str (lput l)),
            (fun x_ _ => x_ = .bool true),
            (fun x_ _ => x_ = .bool true),
            (fun x_ _ => x_ = .int .i64 n5),
            (fun x_ _ => x_ = .int .i64 n5),
            (fun x_ _ => x_ = .bool true),
            (fun x_ _ => x_ = .bool true),
            (fun x_ _ => x_ = .bool true),
            (fun x_ _ => x_ = .slice A5 l5.length c5),
            (fun x_ _ => x_ = .slice A6 l5.length c6),
            (fun x_ _ => x_ = .bool true),
            (fun x_ _ => x_ = .bool true),
            (fun x_ _ => x_ = .bool true)] (fun W => Ext W5 W) Ext rfl rfl rfl
            ?st ((Ext.rfl' W5).drew') ?ob ?en
          case st => exact ⟨fun _ _ _ h _ => h, fun _ _ _ h hx => h.ext hx, fun _ _ _ h _ => h, fun _ _ _ h _ => h, fun _ _ _ h hx => h.ext hx, fun _ _ _ h _ => h, fun _ _ _ h _ => h, fun _ _ _ h _ => h, fun _ _ _ h _ => h, fun _ _ _ h _ => h, fun _ _ _ h _ => h, fun _ _ _ h _ => h, fun _ _ _ h _ => h, fun _ _ _ h _ => h, fun _ _ _ h _ => h, fun _ _ _ h _ => h, fun _ _ _ h _ => h, fun _ _ _ h _ => h, trivial⟩
          case ob =>
            refine ⟨Rg.at_run [0] rfl ?_, ?_⟩
            · intro ρ W hR ⟨q0, _⟩
              replace q0 : ρ 0 = .slice A l.length c := q0
              refine ⟨rfl, ?_⟩
              exact Rg.run_ok (v := .slice A l.length c) (by simp [execOp, Rg.ev, go_sem, q0]) ⟨rfl, hR, Ext.rfl' _⟩
            refine ⟨Rg.at_run [47] rfl ?_, ?_⟩
            · intro ρ W hR ⟨q47, _⟩
              replace q47 : ρ 47 = .slice A l.length c := q47
              refine ⟨rfl, ?_⟩
              refine Rg.run_enter (by simp [execOp, Rg.ev, go_sem, q47]; exact ⟨⟨rfl, rfl⟩, rfl⟩) ?_
              refine (lputs_b _ l W (by omega) (hl5.ext hR) HA.out).mono ?_
              rintro e w2 ⟨m9, A9, c9, hm9, rfl, hz, hxx⟩
              have hm' := hm9.out
              subst hm'
              exact ⟨_, rfl, hz.bs, hR.trans' hxx, hxx⟩
            refine ⟨Rg.at_run [48] rfl ?_, ?_⟩
            · intro ρ W hR ⟨q48, _⟩
              replace q48 : (fun v W => Bs W v (lput l)) (ρ 48) W := q48
              refine ⟨rfl, ?_⟩
              have hb : Bs W (ρ 48) (lput l) := q48
              have hs := run_str (P := Try.prog) hb Try.underlying22 Try.underlying5 Try.underlying9
              exact Rg.run_ok (v := str (lput l)) (by simp only [execOp, Rg.ev, Sem.run_bind, Sem.run_pure, Result.andThen_ok, hs]) ⟨rfl, hR, Ext.rfl' _⟩
            refine ⟨Rg.at_run [0] rfl ?_, ?_⟩
            · intro ρ W hR ⟨q0, _⟩
              replace q0 : ρ 0 = .slice A l.length c := q0
              refine ⟨rfl, ?_⟩
              exact Rg.run_ok (v := .slice A l.length c) (by simp [execOp, Rg.ev, go_sem, q0]) ⟨rfl, hR, Ext.rfl' _⟩
            refine ⟨Rg.at_run [50] rfl ?_, ?_⟩
            · intro ρ W hR ⟨q50, _⟩
              replace q50 : ρ 50 = .slice A l.length c := q50
              refine ⟨rfl, ?_⟩
              refine Rg.run_enter (by simp [execOp, Rg.ev, go_sem, q50]; exact ⟨⟨rfl, rfl⟩, rfl⟩) ?_
              refine (rputs_b _ l W (by omega) (hl5.ext hR) HA.out).mono ?_
              rintro e w2 ⟨m9, A9, c9, hm9, rfl, hz, hxx⟩
              have hm' := hm9.out
              subst hm'
              exact ⟨_, rfl, hz.bs, hR.trans' hxx, hxx⟩
            refine ⟨Rg.at_run [51] rfl ?_, ?_⟩
            · intro ρ W hR ⟨q51, _⟩
              replace q51 : (fun v W => Bs W v (lput l)) (ρ 51) W := q51
              refine ⟨rfl, ?_⟩
              have hb : Bs W (ρ 51) (lput l) := q51
              have hs := run_str (P := Try.prog) hb Try.underlying22 Try.underlying5 Try.underlying9
              exact Rg.run_ok (v := str (lput l)) (by simp only [execOp, Rg.ev, Sem.run_bind, Sem.run_pure, Result.andThen_ok, hs]) ⟨rfl, hR, Ext.rfl' _⟩
            refine ⟨Rg.at_run [49, 52] rfl ?_, ?_⟩
            · intro ρ W hR ⟨q49, q52, _⟩
              replace q49 : ρ 49 = str (lput l) := q49
              replace q52 : ρ 52 = str (lput l) := q52
              refine ⟨rfl, ?_⟩
              exact Rg.run_ok (v := .bool true) (by simp [execOp, Rg.ev, go_sem, q49, q52]) ⟨rfl, hR, Ext.rfl' _⟩
            refine ⟨Rg.at_run [53] rfl ?_, ?_⟩
            · intro ρ W hR ⟨q53, _⟩
              replace q53 : ρ 53 = .bool true := q53
              refine ⟨rfl, ?_⟩
              exact Rg.run_ok (v := .bool true) (by simp [execOp, Rg.ev, go_sem, q53]) ⟨rfl, hR, Ext.rfl' _⟩
            refine ⟨Rg.at_run [7, 54] rfl ?_, ?_⟩
            · intro ρ W hR ⟨q7, q54, _⟩
              replace q7 : ρ 7 = .int .i64 n5 := q7
              replace q54 : ρ 54 = .bool true := q54
              refine ⟨by simp [Rg.wants, q54], ?_⟩
              exact Rg.run_ok (v := .int .i64 n5) (by simp [execOp, Rg.ev, go_sem, q7]) ⟨rfl, hR, Ext.rfl' _⟩
            refine ⟨Rg.at_run [9, 54] rfl ?_, ?_⟩
            · intro ρ W hR ⟨q9, q54, _⟩
              replace q9 : ρ 9 = .int .i64 n5 := q9
              replace q54 : ρ 54 = .bool true := q54
              refine ⟨by simp [Rg.wants, q54], ?_⟩
              exact Rg.run_ok (v := .int .i64 n5) (by simp [execOp, Rg.ev, go_sem, q9]) ⟨rfl, hR, Ext.rfl' _⟩
            refine ⟨Rg.at_run [55, 56, 54] rfl ?_, ?_⟩
            · intro ρ W hR ⟨q55, q56, q54, _⟩
              replace q55 : ρ 55 = .int .i64 n5 := q55
              replace q56 : ρ 56 = .int .i64 n5 := q56
              replace q54 : ρ 54 = .bool true := q54
              refine ⟨by simp [Rg.wants, q54], ?_⟩
              exact Rg.run_ok (v := .bool true) (by simp [execOp, Rg.ev, go_sem, q55, q56]) ⟨rfl, hR, Ext.rfl' _⟩
            refine ⟨Rg.at_run [54, 57] rfl ?_, ?_⟩
            · intro ρ W hR ⟨q54, q57, _⟩
              replace q54 : ρ 54 = .bool true := q54
              replace q57 : ρ 57 = .bool true := q57
              refine ⟨rfl, ?_⟩
              exact Rg.run_ok (v := .bool true) (by simp [execOp, Rg.ev, go_sem, q54, q57]) ⟨rfl, hR, Ext.rfl' _⟩
            refine ⟨Rg.at_run [58] rfl ?_, ?_⟩
            · intro ρ W hR ⟨q58, _⟩
              replace q58 : ρ 58 = .bool true := q58
              refine ⟨rfl, ?_⟩
              exact Rg.run_ok (v := .bool true) (by simp [execOp, Rg.ev, go_sem, q58]) ⟨rfl, hR, Ext.rfl' _⟩
            refine ⟨Rg.at_run [6, 59] rfl ?_, ?_⟩
            · intro ρ W hR ⟨q6, q59, _⟩
              replace q6 : ρ 6 = .slice A5 l5.length c5 := q6
              replace q59 : ρ 59 = .bool true := q59
              refine ⟨by simp [Rg.wants, q59], ?_⟩
              exact Rg.run_ok (v := .slice A5 l5.length c5) (by simp [execOp, Rg.ev, go_sem, q6]) ⟨rfl, hR, Ext.rfl' _⟩
            refine ⟨Rg.at_run [8, 59] rfl ?_, ?_⟩
            · intro ρ W hR ⟨q8, q59, _⟩
              replace q8 : ρ 8 = .slice A6 l5.length c6 := q8
              replace q59 : ρ 59 = .bool true := q59
              refine ⟨by simp [Rg.wants, q59], ?_⟩
              exact Rg.run_ok (v := .slice A6 l5.length c6) (by simp [execOp, Rg.ev, go_sem, q8]) ⟨rfl, hR, Ext.rfl' _⟩
            refine ⟨Rg.at_run [60, 61, 59] rfl ?_, ?_⟩
            · intro ρ W hR ⟨q60, q61, q59, _⟩
              replace q60 : ρ 60 = .slice A5 l5.length c5 := q60
              replace q61 : ρ 61 = .slice A6 l5.length c6 := q61
              replace q59 : ρ 59 = .bool true := q59
              refine ⟨by simp [Rg.wants, q59], ?_⟩
              refine Rg.run_enter (by simp [execOp, Rg.ev, go_sem, q60, q61]; exact ⟨⟨rfl, rfl⟩, rfl⟩) ?_
              refine (sameRecords_b _ _ l5 W (hs5.ext hR) (hs6.ext hR)).mono ?_
              rintro e_ w2 ⟨rfl, hxx⟩
              exact ⟨_, rfl, rfl, hR.trans' hxx, hxx⟩
            refine ⟨Rg.at_run [59, 62] rfl ?_, ?_⟩
            · intro ρ W hR ⟨q59, q62, _⟩
              replace q59 : ρ 59 = .bool true := q59
              replace q62 : ρ 62 = .bool true := q62
              refine ⟨rfl, ?_⟩
              exact Rg.run_ok (v := .bool true) (by simp [execOp, Rg.ev, go_sem, q59, q62]) ⟨rfl, hR, Ext.rfl' _⟩
            refine ⟨Rg.at_run [63] rfl ?_, ?_⟩
            · intro ρ W hR ⟨q63, _⟩
              replace q63 : ρ 63 = .bool true := q63
              refine ⟨rfl, ?_⟩
              exact Rg.run_ok (v := .bool true) (by simp [execOp, Rg.ev, go_sem, q63]) ⟨rfl, hR, Ext.rfl' _⟩
            trivial
          case en =>
            intro tm W hR hsz hk
            rw [Rg.fin_eq (ds := [47, 48, 49, 50, 51, 52, 53, 54, 55, 56, 57, 58, 59, 60, 61, 62, 63, 4]) rfl rfl rfl hsz hk]
            have k4 : tm.getD 4 undef = .bool true := hk 4
            have k47 : tm.getD 47 undef = .slice A l.length c := hk 47
            have k48 : (fun v W => Bs W v (lput l)) (tm.getD 48 undef) W := hk 48
            have k49 : tm.getD 49 undef = str (lput l) := hk 49
            have k50 : tm.getD 50 undef = .slice A l.length c := hk 50
            have k51 : (fun v W => Bs W v (lput l)) (tm.getD 51 undef) W := hk 51
            have k52 : tm.getD 52 undef = str (lput l) := hk 52
            have k53 : tm.getD 53 undef = .bool true := hk 53
            have k54 : tm.getD 54 undef = .bool true := hk 54
            have k55 : tm.getD 55 undef = .int .i64 n5 := hk 55
            have k56 : tm.getD 56 undef = .int .i64 n5 := hk 56
            have k57 : tm.getD 57 undef = .bool true := hk 57
            have k58 : tm.getD 58 undef = .bool true := hk 58
            have k59 : tm.getD 59 undef = .bool true := hk 59
            have k60 : tm.getD 60 undef = .slice A5 l5.length c5 := hk 60
            have k61 : tm.getD 61 undef = .slice A6 l5.length c6 := hk 61
            have k62 : tm.getD 62 undef = .bool true := hk 62
            have k63 : tm.getD 63 undef = .bool true := hk 63
            clear hk hsz
            simp only [Rg.putAll, List.setIfInBounds_toArray, List.set_cons_zero, List.set_cons_succ, k4, k47, k49, k50, k52, k53, k54, k55, k56, k57, k58, k59, k60, k61, k62, k63]
            clear k4
            clear k47
            generalize tm.getD 48 undef = u48 at *
            clear k49
            clear k50
            generalize tm.getD 51 undef = u51 at *
            clear k52
            clear k53
            clear k54
            clear k55
            clear k56
            clear k57
            clear k58
            clear k59
            clear k60
            clear k61
            clear k62
            clear k63
            refine Rg.nil_list ?_
            go_wp2
            go_ret
            exact ⟨rfl, hx15.trans' hR⟩
end Go.Proofs.Ytlhokicnedkieaa
