/- A part of the proof of 'StoreAll'. -/
import Derived.Test.YtlblgopfdadalaaS15
import Derived.Test.YtlblgopfdadalaaS17
import Derived.Test.YtlblgopfdadalaaS18
namespace Go.Proofs.Ytlblgopfdadalaa
set_option linter.unusedVariables false
set_option linter.unusedSimpArgs false
set_option linter.unnecessarySimpa false
set_option maxRecDepth 100000
open Go.RowKit
structure PlainR (l : List Rec) : Prop where
  may : ∀ r ∈ l, may r = true
  small : ∀ r ∈ l, r.small
  len : l.length ≤ 20
set_option maxHeartbeats 3200000 in
theorem plain_b (x : Value) (l : List Rec) (w : World) (hx : Enc.Sl reE w noneAt x l) :
    Calls Try.prog 19 #[x] w fun e w' => RetB (PlainR l) w w' e := by
  obtain ⟨A, c, rfl, k1, k2⟩ := hx.form
  unfold maxLen at k2
  go_enter Try.func19, Try.ntmps19
  go_wp2_with fail
  go_loopw [3] (fun vi wr => ∃ k : Nat, (k : Int) ≤ l.length ∧ vi = .int .i64 k ∧ Hid (∀ r ∈ l.take k, may r = true) ∧ Ext w wr) (fun vi _ => (l.length - intOf vi).toNat)
  case atStart => exact ⟨0, by omega, rfl, hide (by simp), Ext.rfl' _⟩
  case round =>
    obtain ⟨k, hk, rfl, hs, hxr⟩ := hrel
    by_cases hlt : (k : Int) < l.length
    · obtain ⟨ad, r, v1, v2, rfl, hr, hb, p0, p1, p2, p3, p4, p5, p6, p7, p8, r1, r2, r3⟩ := re_at hx (k := k) (by omega)
      have h0_ := p0
      replace p0 := (hxr.cell (by rw [block_of_add]; exact hb)).trans h0_
      have h1_ := p1
      replace p1 := (hxr.cell (by show (ad.add (k * 9)).block < _; rw [block_of_add]; exact hb)).trans h1_
      have h2_ := p2
      replace p2 := (hxr.cell (by show (ad.add (k * 9)).block < _; rw [block_of_add]; exact hb)).trans h2_
      have h3_ := p3
      replace p3 := (hxr.cell (by show (ad.add (k * 9)).block < _; rw [block_of_add]; exact hb)).trans h3_
      have h4_ := p4
      replace p4 := (hxr.cell (by show (ad.add (k * 9)).block < _; rw [block_of_add]; exact hb)).trans h4_
      have h5_ := p5
      replace p5 := (hxr.cell (by show (ad.add (k * 9)).block < _; rw [block_of_add]; exact hb)).trans h5_
      have h6_ := p6
      replace p6 := (hxr.cell (by show (ad.add (k * 9)).block < _; rw [block_of_add]; exact hb)).trans h6_
      have h7_ := p7
      replace p7 := (hxr.cell (by show (ad.add (k * 9)).block < _; rw [block_of_add]; exact hb)).trans h7_
      have h8_ := p8
      replace p8 := (hxr.cell (by show (ad.add (k * 9)).block < _; rw [block_of_add]; exact hb)).trans h8_
      obtain ⟨A1, c1, rfl, -, -, -⟩ := id r2.1
      obtain ⟨A2, c2, rfl, -, -, -⟩ := id r3.1
      have HM := hide (fun W => rmay_b r (.slice A1 r.ent.data.length c1) (.slice A2 r.snap.state.length c2) W)
      obtain ⟨mr, hmr⟩ : ∃ b, may r = b := ⟨_, rfl⟩
      rw [hmr] at HM
      have HMR := hide hmr
      have HT := hide (take_snoc hr.out)
      clear hmr
      have hk0 : (0 : Int) ≤ k := by omega
      go_wp2_with fail
      refine (HM.out _).mono ?_
      rintro e W1 ⟨rfl, hxe⟩
      clear p0 p1 p2 p3 p4 p5 p6 p7 p8
      have p5 := ((hxr.trans' hxe).cell (by show (ad.add (k * 9)).block < _; rw [block_of_add]; exact hb)).trans h5_
      have p6 := ((hxr.trans' hxe).cell (by show (ad.add (k * 9)).block < _; rw [block_of_add]; exact hb)).trans h6_
      replace hxr := hxr.trans' hxe
      cases mr with
      | false =>
        go_wp2
        go_ret
        exact ⟨false, rfl, hxr, fun h => by cases h⟩
      | true =>
        rcases Bool.eq_false_or_eq_true (decide (1000 < r.snap.index)) with f1 | f1
        · go_wp2
          go_ret
          exact ⟨false, rfl, hxr, fun h => by cases h⟩
        rcases Bool.eq_false_or_eq_true (decide (1000 < r.index)) with f2 | f2
        · go_wp2
          go_ret
          exact ⟨false, rfl, hxr, fun h => by cases h⟩
        go_wp2_with fail
        go_roundw
        case rel => exact ⟨k + 1, by omega, by go_num, hide (by
          intro q hq
          rw [HT.out] at hq
          rcases List.mem_append.1 hq with h | h
          · exact hs.out q h
          · rw [List.mem_singleton.1 h]; exact HMR.out), hxr⟩
        case measure => simp [intOf]; omega
    · obtain rfl : k = l.length := by omega
      have HS := hs
      rw [List.take_length] at HS
      go_wp2_with fail
      refine (light22_b (.slice A l.length c) l wr (hx.ext hxr)).mono ?_
      rintro e W1 ⟨b, rfl, hxe, hb⟩
      go_wp2
      go_ret
      exact ⟨b, rfl, hxr.trans' hxe, fun h => ⟨HS.out, (hb h).1, (hb h).2⟩⟩
/-- a store in block gs, on the disk in block gd -/
structure SoAt (w : World) (gs gd : Nat) (k : Kp) (As : Option Addr) (cs : Nat) (Ae : Option Addr) (ce : Nat) : Prop where
  blk : Blk w gs 113 #[.pointer (some ⟨gd, 0, none⟩), .int .u64 k.hard.term, .int .i64 k.hard.vote, .int .u64 k.snap.index, .int .u64 k.snap.term, .slice As k.snap.state.length cs, .slice Ae k.ents.length ce]
  bs : Enc.BsX w (fun j => j = gs ∨ j = gd) (.slice As k.snap.state.length cs) k.snap.state
  es : Enc.Sl enE w (fun j => j = gs ∨ j = gd) (.slice Ae k.ents.length ce) k.ents
theorem SoAt.ext {w w' : World} {gs gd : Nat} {k : Kp} {As Ae : Option Addr} {cs ce : Nat} (h : SoAt w gs gd k As cs Ae ce) (hx : Ext w w') : SoAt w' gs gd k As cs Ae ce := ⟨h.blk.ext hx, h.bs.ext hx, h.es.ext hx⟩
theorem SoAt.chg {w w' : World} {gs gd : Nat} {k : Kp} {As Ae : Option Addr} {cs ce : Nat} (h : SoAt w gs gd k As cs Ae ce) (hc : Chg [gd] w w') (hne : gs ≠ gd) : SoAt w' gs gd k As cs Ae ce :=
  ⟨h.blk.chg hc (by simpa using hne), h.bs.chg hc (fun j hj _ => .inr (List.mem_singleton.1 hj)), h.es.chg hc (fun j hj _ => .inr (List.mem_singleton.1 hj))⟩
set_option maxHeartbeats 3200000 in
theorem kept_b (gs gd : Nat) (k : Kp) (As Ae : Option Addr) (cs ce n : Nat) (w : World) (h : SoAt w gs gd k As cs Ae ce) (hkw : k.wide) (hks : k.small n) (hn : n ≤ 1000) (hgd : gd < w.heap.size) :
    Calls Try.prog 25 #[.pointer (some ⟨gs, 0, none⟩)] w fun e w' => RetKp (fun j => j = gs ∨ j = gd) w w' e k := by
  have hR_ := Blk.new w 53 #[.int .u64 0, .int .i64 0, .int .u64 0, .int .u64 0, .slice none 0 0, .slice none 0 0]
  have hxw : Ext w (w.alloc (.cells #[.int .u64 0, .int .i64 0, .int .u64 0, .int .u64 0, .slice none 0 0, .slice none 0 0] 53)) := (Ext.rfl' _).alloc' _
  obtain ⟨g, hg⟩ : ∃ g, w.heap.size = g := ⟨_, rfl⟩
  rw [hg] at hR_
  have hgs : gs < g := by rw [← hg]; exact h.blk.lt
  have hgdg : gd < g := by omega
  go_enter Try.func25, Try.ntmps25
  go_upto_region 1 with fail
  generalize (w.alloc (.cells #[.int .u64 0, .int .i64 0, .int .u64 0, .int .u64 0, .slice none 0 0, .slice none 0 0] 53)) = w1 at *
  try rw [hg]
  have hr1 := hR_.lt
  have hX1 : ∀ j, ((j = gs ∨ j = gd) ∨ j = g) → j < w1.heap.size := fun j hj => by omega
  have hS := h.ext hxw
  have hs' := ((h.bs.mono (Y := fun j => (j = gs ∨ j = gd) ∨ j = g) (fun j hj h => h.elim id fun h => by omega)).ext hxw)
  have he' := ((h.es.mono (Y := fun j => (j = gs ∨ j = gd) ∨ j = g) (fun j hj h => h.elim id fun h => by omega)).ext hxw)
  have b1 := (hS.blk.cell 1).trans rfl
  have b2 := (hS.blk.cell 2).trans rfl
  have b3 := (hS.blk.cell 3).trans rfl
  have b4 := (hS.blk.cell 4).trans rfl
  have b5 := (hS.blk.cell 5).trans rfl
  have b6 := (hS.blk.cell 6).trans rfl
  go_wp2_with fail
  refine (copied_b (fun j => (j = gs ∨ j = gd) ∨ j = g) k (.slice As k.snap.state.length cs) (.slice Ae k.ents.length ce) w1 hX1 hkw hs' he' (kp_small_len hks (by omega)) (Nat.le_trans hks.state (by decide)) (fun e h => Nat.le_trans (hks.data e h) (by decide))).mono ?_
  rintro e W2 ⟨As2, cS2, AE2, cE2, rfl, hs2, ho2, hx2⟩
  clear b1 b2 b3 b4 b5 b6
  have hR6 := hR_.ext hx2
  have r0 := (hR6.cell 0).trans rfl
  have r1 := (hR6.cell 1).trans rfl
  have r2 := (hR6.cell 2).trans rfl
  have r3 := (hR6.cell 3).trans rfl
  have r4 := (hR6.cell 4).trans rfl
  have r5 := (hR6.cell 5).trans rfl
  have f0 := hR6.frozen 0
  have f1 := hR6.frozen 1
  have f2 := hR6.frozen 2
  have f3 := hR6.frozen 3
  have f4 := hR6.frozen 4
  have f5 := hR6.frozen 5
  go_wp2
  try simp only [Exit.inBlock, Exit.then]
  have hcf : Chg [g] W2 _ := (Chg.refl [g] W2).sixK (g := g) (by simp) (.int .u64 k.hard.term) (.int .i64 k.hard.vote) (.int .u64 k.snap.index) (.int .u64 k.snap.term) (.slice As2 k.snap.state.length cS2) (.slice AE2 k.ents.length cE2)
  refine bodyPost_ret (results_cell_row rfl _ _ g 53 #[.int .u64 k.hard.term, .int .i64 k.hard.vote, .int .u64 k.snap.index, .int .u64 k.snap.term, .slice As2 k.snap.state.length cS2, .slice AE2 k.ents.length cE2] (0, 0) _ rfl (Blk.sixK hR6 _ _ _ _ _ _) Try.underlying53 rfl (by kernel_rfl)) rfl ?_
  exact ⟨As2, cS2, AE2, cE2, rfl, (hs2.chg hcf (fun j hj _ => .inl (.inr (List.mem_singleton.1 hj)))).mono (fun j _ h => h.elim (fun h => .inl (.inl h)) .inr), ((ho2.base hxw.size).chg hcf (fun j hj _ => .inr (List.mem_singleton.1 hj))).mono (fun j _ h => .inl h), (hxw.trans' hx2).then_ hcf (by simp; omega)⟩
end Go.Proofs.Ytlblgopfdadalaa
