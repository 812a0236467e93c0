/- A part of the proof of 'StoreAll'. -/
import Derived.Test.YtlblgopfdadalaaS16
namespace Go.Proofs.Ytlblgopfdadalaa
set_option linter.unusedVariables false
set_option linter.unusedSimpArgs false
set_option linter.unnecessarySimpa false
set_option maxRecDepth 100000
open Go.RowKit
def RetScan (w w' : World) (e : Ending) (r : List Rec × Nat) : Prop :=
  ∃ (l : List Rec) (A : Option Addr) (c n : Nat), Hid ((l, n) = r) ∧ e = .returned (.tuple #[.slice A l.length c, .int .i64 n]) ∧ Own 101 reE w w' noneAt (.slice A l.length c) l ∧ Ext w w'
set_option maxHeartbeats 3200000 in
theorem scan_b (x : Value) (b : Bytes) (w : World) (hl : b.length ≤ 100000) (hx : Bs w x b) :
    Calls Try.prog 52 #[x] w fun e w' => RetScan w w' e (scan b) := by
  obtain ⟨A, c, rfl, hc1, hc2, -⟩ := id hx
  obtain ⟨i0, hi0, hz0, hz1, hz2⟩ := info_parts ti5
  go_enter Try.func52, Try.ntmps52
  go_wp2_with fail
  go_loopw [2, 3] (fun v2 v3 wr => ∃ (l : List Rec) (B : Option Addr) (cc n : Nat), v2 = .slice B l.length cc ∧ v3 = .int .i64 n ∧ n ≤ b.length ∧ l.length * 8 ≤ n ∧ Own 101 reE w wr noneAt (.slice B l.length cc) l ∧ Hid (scan b = (l ++ (scan (b.drop n)).1, n + (scan (b.drop n)).2)) ∧ Ext w wr) (fun _ v3 _ => (b.length - intOf v3).toNat)
  case atStart => exact ⟨[], none, 0, 0, rfl, rfl, by omega, by simp, Own.nil _ _ _ _ _, hide (by simp), Ext.rfl' _⟩
  case round =>
    obtain ⟨l, B, cc, n, rfl, rfl, hnb, hln, hown, HS, hxr⟩ := hrel
    have hsl := fun W => run_sl_l (P := Try.prog) (A := A) (n := b.length) (c := c) (kl := .i64) Try.underlying24 hi0 hz1 n rfl hnb W
    go_wp2_with fail
    refine (unframe_b _ (b.drop n) wr (by rw [List.length_drop]; omega) ((hx.ext hxr).rest hnb)).mono ?_
    rintro e W1 ⟨m, Am, cm, n1, k, hm, rfl, hz, hx1⟩
    clear hsl
    have hxw := hxr.trans' hx1
    by_cases hk : k = 0
    · obtain rfl : k = 0 := hk
      obtain ⟨hn1, hn2, -⟩ := ounframe_ok hm.out.symm
      rw [List.length_drop] at hn2
      have HN1 := hide hn1
      clear hn1
      have hx2 := (Ext.rfl' W1).alloc' (.cells #[.slice Am m.length cm, .bool true] 136)
      obtain ⟨g, hg⟩ : ∃ g, W1.heap.size = g := ⟨_, rfl⟩
      have hR := Blk.new W1 136 #[.slice Am m.length cm, .bool true]
      rw [hg] at hR
      have hcu : CurAt 136 _ g (.slice Am m.length cm) (m, true) := ⟨hR, hz.bs.ext hx2, hz.bs.off (by simp; omega), by simp only; omega⟩
      go_wp2_with fail
      refine (record_b g _ m _ hcu).mono ?_
      rintro e W2 ⟨cs, v', rfl, hrep, hcu2, hch⟩
      obtain ⟨R, s', hLR⟩ : ∃ R s', lrec m = (R, s') := ⟨_, _, rfl⟩
      have HO := hide (lrec_orec m)
      rw [hLR] at hrep hcu2 HO
      simp only at hrep hcu2
      clear hLR
      obtain ⟨b', o'⟩ := s'
      obtain ⟨w1, w2, rfl, hwide, hb1, hb2⟩ := re_rep.1 hrep
      obtain ⟨A1, c1, rfl, -, -, -⟩ := id hb1.1
      obtain ⟨A2, c2, rfl, -, -, -⟩ := id hb2.1
      obtain ⟨A3, c3, rfl, -, -, -⟩ := id hcu2.bs
      have hxs : Ext wr W2 := (hx1.trans' hx2).then_ hch (by have := hx1.size; simp; omega)
      have hx3 := (Ext.rfl' W2).alloc' (.cells (recells R (.slice A1 R.ent.data.length c1) (.slice A2 R.snap.state.length c2)).toArray 101)
      obtain ⟨g8, hg8⟩ : ∃ g, W2.heap.size = g := ⟨_, rfl⟩
      have hX := Blk.new W2 101 (recells R (.slice A1 R.ent.data.length c1) (.slice A2 R.snap.state.length c2)).toArray
      rw [hg8] at hX
      have hsz2 : g < W2.heap.size := hcu2.blk.lt
      go_upto_region 6 with fail
      change Code.wp _ _ _ _ (W2.alloc (.cells (recells R (.slice A1 R.ent.data.length c1) (.slice A2 R.snap.state.length c2)).toArray 101))
      replace hcu2 := hcu2.ext hx3
      replace hxs := hxs.trans' hx3
      replace hrep := reE.ext hrep hx3
      generalize W2.alloc (.cells (recells R (.slice A1 R.ent.data.length c1) (.slice A2 R.snap.state.length c2)).toArray 101) = W3 at *
      clear hx3 hch hcu hR
      have q0 := (hcu2.blk.cell 0).trans rfl
      have q1 := (hcu2.blk.cell 1).trans rfl
      have x0 := (hX.cell 0).trans rfl
      have x1 := (hX.cell 1).trans rfl
      have x2 := (hX.cell 2).trans rfl
      have x3 := (hX.cell 3).trans rfl
      have x4 := (hX.cell 4).trans rfl
      have x5 := (hX.cell 5).trans rfl
      have x6 := (hX.cell 6).trans rfl
      have x7 := (hX.cell 7).trans rfl
      have x8 := (hX.cell 8).trans rfl
      have hbl := hcu2.len
      simp only at hbl
      go_cut [46] (fun vb wx => vb = .bool (!(o' && decide (b' = []) && may R)) ∧ Ext W3 wx)
      case first =>
        cases o' with
        | false =>
          go_wp2_with fail
          go_meet
          case rel => exact ⟨rfl, Ext.rfl' _⟩
        | true =>
          by_cases hb0 : (0 : Int) < b'.length
          · have hb0n : 0 < b'.length := by omega
            go_wp2_with fail
            go_meet
            case rel => exact ⟨by cases b' with | nil => simp at hb0 | cons => simp, Ext.rfl' _⟩
          · have hb0' : b' = [] := List.eq_nil_of_length_eq_zero (by omega)
            go_wp2_with fail
            refine (may_b R _ _ W3).mono ?_
            rintro e W4 ⟨rfl, hx4⟩
            go_wp2_with fail
            go_meet
            case rel => exact ⟨by simp [hb0'], hx4⟩
      case rest =>
        obtain ⟨rfl, hx4⟩ := hcut
        obtain ⟨b0, hb0⟩ : ∃ b0, (o' && decide (b' = []) && may R) = b0 := ⟨_, rfl⟩
        rw [hb0]
        have HB0 := hide hb0
        clear hb0 x0 x1 x2 x3 x4 x5 x6 x7 x8 q0 q1
        generalize wc = W5 at *
        have hxs5 := hxs.trans' hx4
        have hX5 := hX.ext hx4
        have x0 := (hX5.cell 0).trans rfl
        have x1 := (hX5.cell 1).trans rfl
        have x2 := (hX5.cell 2).trans rfl
        have x3 := (hX5.cell 3).trans rfl
        have x4 := (hX5.cell 4).trans rfl
        have x5 := (hX5.cell 5).trans rfl
        have x6 := (hX5.cell 6).trans rfl
        have x7 := (hX5.cell 7).trans rfl
        have x8 := (hX5.cell 8).trans rfl
        cases b0 with
        | false =>
          have hstop : orec m = none := by
            rw [HO.out, if_neg]
            rintro ⟨h1, h2, h3⟩
            have := HB0.out
            rw [h1, h2, h3] at this
            simp at this
          go_wp2
          go_ret2
          refine ⟨l, B, cc, n, hide ?_, rfl, hown.ext hxs5, hxr.trans' hxs5⟩
          rw [HS.out, scan_stop (.inr (by rw [← hm.out]; exact hstop))]
          simp
        | true =>
          obtain ⟨⟨ho', hb'⟩, hmy⟩ : (o' = true ∧ b' = []) ∧ may R = true := by
            have := HB0.out
            simpa using this
          have horec : orec m = some R := by rw [HO.out, if_pos ⟨ho', hb', hmy⟩]
          have HSTEP := hide (scan_step (b := b.drop n) (s := m) (n := 8 + m.length) (r := R) (by rw [← hm.out, HN1.out]) horec)
          have hn1 : n1 = ((8 + m.length : Nat) : Int) := HN1.out
          have hownE := hown.ext hxs5
          have hlit := Sl.one 101 (E := reE) (w := W5) (X := fun i => noneAt i ∨ (Value.slice B l.length cc).ownBlock = some i) (cs := recells R (.slice A1 R.ent.data.length c1) (.slice A2 R.snap.state.length c2)) (a := R)
            (reE.ext (reE.mono hrep fun k hk h => h.elim (fun h => h.elim) fun h => by have := (hown.lt k h).2; have := hx1.size; have := hx2.size; omega) hx4) W5.heap.size rfl (fun h => h.elim (fun h => h.elim) fun h => by have := (hownE.lt _ h).2; omega)
          have hxa : Ext W5 (W5.alloc (.cells (recells R (.slice A1 R.ent.data.length c1) (.slice A2 R.snap.state.length c2)).toArray 101)) := (Ext.rfl' W5).alloc' _
          go_wp2_with (at_builtin; refine wpList_own elt_re 60 Try.underlying60 rfl _ _ rfl (hownE.ext hxa) rfl ((hxr.trans' hxs5).trans' hxa) (m := [R]) (y := .slice (some ⟨W5.heap.size, 0, none⟩) 1 1) rfl hlit (fun h => h.elim) (by simp only [List.length_singleton]; omega) (by simp only [List.length_singleton]; omega) ?_; intro l3 A6 c6 w6 hl3 hown3 hxx hcc)
          have hl3' := hl3.out
          subst hl3'
          go_roundw
          case rel =>
            refine ⟨l ++ [R], A6, c6, n + (8 + m.length), rfl, by go_num, by omega, by simp; omega, hown3, hide ?_, hxx⟩
            rw [HS.out, HSTEP.out, List.drop_drop]
            simp
            omega
          case measure => simp [intOf]; omega
    · have hk' : ¬ k = 0 := hk
      go_wp2
      go_ret2
      refine ⟨l, B, cc, n, hide ?_, rfl, hown.ext hx1, hxw⟩
      rw [HS.out, scan_stop (.inl (by rw [← hm.out]; exact hk))]
      simp
end Go.Proofs.Ytlblgopfdadalaa
namespace Go.Proofs.Ytlblgopfdadalaa
set_option linter.unusedVariables false
set_option linter.unusedSimpArgs false
set_option linter.unnecessarySimpa false
set_option maxRecDepth 100000
open Go.RowKit
theorem Sl.wides {w : World} {X : Avoid} {x : Value} {l : List Rec} (h : Enc.Sl reE w X x l) : ∀ r ∈ l, r.wide := by
  intro r hr
  obtain ⟨k, hk⟩ := List.mem_iff_getElem?.1 hr
  obtain ⟨A, c, rfl, -, -⟩ := h.form
  obtain ⟨ad, r', v1, v2, -, h1, -, -, -, -, -, -, -, -, -, -, h2, -⟩ := re_at h (k := k) (List.getElem?_eq_some_iff.1 hk).1
  rw [Option.some.inj (hk.symm.trans h1.out)]
  exact h2
/-- a Bool that is true only if P -/
def RetB (P : Prop) (w w' : World) (e : Ending) : Prop := ∃ b : Bool, e = .returned (.bool b) ∧ Ext w w' ∧ (b = true → P)
def LightR (l : List Rec) : Prop := (∀ r ∈ l, r.small) ∧ l.length ≤ 20
set_option maxHeartbeats 1600000 in
theorem light22_b (x : Value) (l : List Rec) (w : World) (hx : Enc.Sl reE w noneAt x l) :
    Calls Try.prog 60 #[x] w fun e w' => RetB (LightR l) w w' e := by
  obtain ⟨A, c, rfl, k1, k2⟩ := hx.form
  unfold maxLen at k2
  go_enter Try.func60, Try.ntmps60
  go_wp2_with fail
  go_loopw [3] (fun vi wr => ∃ k : Nat, (k : Int) ≤ l.length ∧ vi = .int .i64 k ∧ Hid (∀ r ∈ l.take k, r.small) ∧ Ext w wr) (fun vi _ => (l.length - intOf vi).toNat)
  case atStart => exact ⟨0, by omega, rfl, hide (by simp), Ext.rfl' _⟩
  case round =>
    obtain ⟨k, hk, rfl, hs, hxr⟩ := hrel
    by_cases hlt : (k : Int) < l.length
    · obtain ⟨ad, r, v1, v2, rfl, hr, hb, p0, p1, p2, p3, p4, p5, p6, p7, p8, r1, r2, r3⟩ := re_at (hx.ext hxr) (k := k) (by omega)
      obtain ⟨A1, c1, rfl, -, -, -⟩ := id r2.1
      obtain ⟨A2, c2, rfl, -, -, -⟩ := id r3.1
      by_cases h1 : (60 : Int) < r.ent.data.length
      · go_wp2
        go_ret
        exact ⟨false, rfl, hxr, fun h => by cases h⟩
      · by_cases h2 : (60 : Int) < r.snap.state.length
        · go_wp2
          go_ret
          exact ⟨false, rfl, hxr, fun h => by cases h⟩
        · have HS : Hid (∀ r ∈ l.take (k + 1), r.small) := by
            intro q hq
            rw [take_snoc hr.out] at hq
            rcases List.mem_append.1 hq with h | h
            · exact hs.out q h
            · rw [List.mem_singleton.1 h]
              exact ⟨by omega, by omega⟩
          go_wp2
          go_roundw
          case rel => exact ⟨k + 1, by omega, by go_num, HS, hxr⟩
          case measure => simp [intOf]; omega
    · obtain rfl : k = l.length := by omega
      have HS := hs
      rw [List.take_length] at HS
      by_cases h20 : (l.length : Int) ≤ 20
      · go_wp2
        go_ret
        exact ⟨true, rfl, hxr, fun _ => ⟨HS.out, by omega⟩⟩
      · go_wp2
        go_ret
        exact ⟨false, rfl, hxr, fun h => by cases h⟩
end Go.Proofs.Ytlblgopfdadalaa
namespace Go.Proofs.Ytlblgopfdadalaa
set_option linter.unusedVariables false
set_option linter.unusedSimpArgs false
set_option linter.unnecessarySimpa false
set_option maxRecDepth 100000
open Go.RowKit
end Go.Proofs.Ytlblgopfdadalaa
