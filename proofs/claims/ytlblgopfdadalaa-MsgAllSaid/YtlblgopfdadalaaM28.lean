/- A part of the proof of 'MsgAll'. -/
import Derived.Test.YtlblgopfdadalaaM27
import Derived.Test.YtlblgopfdadalaaM20
import Derived.Test.YtlblgopfdadalaaM25
namespace Go.Proofs.Ytlblgopfdadalaa
set_option linter.unusedVariables false
set_option linter.unusedSimpArgs false
set_option linter.unnecessarySimpa false
set_option maxRecDepth 100000
open Go.RowKit
theorem numB_split {n : Nat} {lo hi k : Int} {s s' : Rdr} (h : (Cod.numB n lo hi).P s = (k, s')) : ∃ y, pnum n s = (k, y) ∧ pform (decide (k < lo ∨ hi < k)) y = s' := by
  have h1 : (pnum n s).1 = k := congrArg Prod.fst h
  have h2 : pform (decide ((pnum n s).1 < lo ∨ hi < (pnum n s).1)) (pnum n s).2 = s' := congrArg Prod.snd h
  rw [h1] at h2
  exact ⟨_, Prod.ext h1 rfl, h2⟩
theorem place_split {f : Int} {s s' : Rdr} (h : Cod.place.P s = (f, s')) : ∃ v, pnum 2 s = (v, s') ∧ sign2 v = f := by
  have h1 : sign2 (pnum 2 s).1 = f := congrArg Prod.fst h
  have h2 : (pnum 2 s).2 = s' := congrArg Prod.snd h
  exact ⟨(pnum 2 s).1, by rw [← h2], h1⟩
theorem cmd_split {c : Cm} {s s' : Rdr} (h : Cod.cmd.P s = (c, s')) : ∃ T y, ptext s = (T, y) ∧ (y.2 = 0 → (ctake T).1 = c ∧ pform (decide ((ctake T).2 ≠ 0)) y = s') ∧ (y.2 ≠ 0 → Cm.zero = c ∧ y = s') := by
  have h0 : (if (ptext s).2.2 = 0 then ((ctake (ptext s).1).1, pform (decide ((ctake (ptext s).1).2 ≠ 0)) (ptext s).2) else (Cm.zero, (ptext s).2)) = (c, s') := h
  refine ⟨(ptext s).1, (ptext s).2, rfl, fun hy => ?_, fun hy => ?_⟩
  · rw [if_pos hy] at h0
    exact Prod.mk.inj h0
  · rw [if_neg hy] at h0
    exact Prod.mk.inj h0
theorem form_no {s s' : Rdr} {c : Bool} (h : pform c s = s') (hc : c = false) : s = s' := by rw [hc, pform_no] at h; exact h
theorem form_yes {s s' : Rdr} {c : Bool} (h : pform c s = s') (hc : c = true) : pform true s = s' := by rw [hc] at h; exact h
theorem form_bad {s s' : Rdr} {c : Bool} (h : pform c s = s') (hs : s.2 ≠ 0) : s = s' := by rw [pform_bad _ _ hs] at h; exact h
theorem Blk.setL {W : World} {gm : Nat} {T : TypeId} {L : List Value} (h : Blk W gm T L.toArray) (j : Nat) (u : Value) : Blk (W.setCell ⟨gm, j, none⟩ u) gm T (L.set j u).toArray := by
  have h1 := h.set_ j u
  rwa [List.setIfInBounds_toArray] at h1
theorem Chg.lessM {S T : List Nat} {a b : World} (h : Chg S a b) (hs : ∀ k, k ∈ S → k ∈ T ∨ a.heap.size ≤ k) : Chg T a b :=
  ⟨h.os, h.tape, h.output, h.size, fun k hk hn => h.block k hk fun hm => by
    rcases hs k hm with h1 | h1
    · exact hn h1
    · omega⟩
theorem RdAt.drewR {T : TypeId} {w : World} {g : Nat} {v : Value} {s : Rdr} (h : RdAt T w g v s) : RdAt T w.drew g v s := ⟨h.blk, h.bs, h.off, h.len⟩
theorem TZ.fail2 {w0 W : World} {g gm : Nat} {v0 ve vs : Value} {s : Rdr} {m : Mg} (h : TZ w0 g gm v0 s m ve vs W) : Calls Try.prog 33 #[.pointer (some ⟨g, 0, none⟩), .int .i64 2] W fun e W' => e = .returned (.tuple #[]) ∧ TZ w0 g gm v0 (pform true s) m ve vs W' ∧ Chg [g] W W' := by
  obtain ⟨v, hv, ho⟩ := h.rd
  exact (rfail_b 82 g v s W hv).mono fun e W' h2 => ⟨h2.1, h.mv ho h2.2, by obtain ⟨_, _, c, _⟩ := h2.2; exact c⟩
theorem TZ.app {w0 wr W : World} {g gm : Nat} {v0 v5 v9 ve vs : Value} {s2 s4 : Rdr} {m m' : Mg} {l9 : List En} {SB : List Nat} (hz : TZ w0 g gm v0 s2 m ve vs wr) (h5 : RdAt 82 W g v5 s4) (o5 : ∀ S, Off v0 S → Off v5 S)
    (hn : Own 74 enE w0 W (fun k => k < w0.heap.size) v9 l9) (c5 : Chg (g :: SB) wr W) (hSB : ∀ k ∈ SB, w0.heap.size ≤ k) (hb : Blk (W.setCell ⟨gm, 6, none⟩ v9) gm 33 (mgcells m' v9 vs).toArray) (hm : m'.ents = l9) (hs : Enc.BsX (W.setCell ⟨gm, 6, none⟩ v9) (fun k => k < w0.heap.size) vs m'.snap.state) :
    TZ w0 g gm v0 s4 m' v9 vs (W.setCell ⟨gm, 6, none⟩ v9) ∧ Own 74 enE w0 (W.setCell ⟨gm, 6, none⟩ v9) (fun k => k < w0.heap.size) v9 l9 := by
  have hl := hz.lt
  have hc : Chg [gm] W (W.setCell ⟨gm, 6, none⟩ v9) := (Chg.refl _ _).set (by simp) _
  have hn2 := hn.chg hc (fun k hk _ => by rw [List.mem_singleton.1 hk]; exact hl.2.1)
  refine ⟨⟨⟨v5, h5.chg hc (by simp; omega) (o5 _ (hz.off _ (by simp))), o5⟩, hb, by rw [hm]; exact hn2.sl, hs, ?_, hl, hz.off⟩, hn2⟩
  refine (((hz.ch.mono (T := g :: gm :: SB) (by simp)).trans (c5.mono (by simp; intro a ha; exact .inr (.inr ha)))).trans (hc.mono (by simp))).lessM fun k hk => ?_
  simp only [List.mem_cons] at hk
  rcases hk with h | h | h
  · exact .inl (by simp [h])
  · exact .inl (by simp [h])
  · exact .inr (hSB k h)
set_option maxHeartbeats 25600000 in
theorem rtakeMsg_b (x : Value) (b : Bytes) (w : World) (hl : b.length ≤ 140737488350000) (hx : Bs w x b) :
    Calls Try.prog 9 #[x] w fun e w' => ∃ ve vs, e = .returned (.tuple #[.agg (mgcells (mtake b).1 ve vs).toArray, .int .i64 (mtake b).2]) ∧ Enc.Sl enE w' noneAt ve (mtake b).1.ents ∧ Bs w' vs (mtake b).1.snap.state ∧ Ext w w' := by
  obtain ⟨S, T, k1, f, t, ok, l, ix, tm, st, cc, er, tx, HC0⟩ := mchain b
  obtain ⟨y1, hP1, hF1⟩ := numB_split HC0.h1
  obtain ⟨vf, hP2, hf2⟩ := place_split HC0.h2
  obtain ⟨vt, hP3, hf3⟩ := place_split HC0.h3
  have hN0 : pnum 8 (S 3) = (T 0, S 4) := HC0.h4 0 (by decide)
  have hN1 : pnum 8 (S 4) = (T 1, S 5) := HC0.h4 1 (by decide)
  have hN2 : pnum 8 (S 5) = (T 2, S 6) := HC0.h4 2 (by decide)
  have hN3 : pnum 8 (S 6) = (T 3, S 7) := HC0.h4 3 (by decide)
  have hN4 : pnum 8 (S 7) = (T 4, S 8) := HC0.h4 4 (by decide)
  obtain ⟨ov, hok0, hok1⟩ := HC0.h5
  obtain ⟨y9, hP9, hF9⟩ := numB_split hok0
  obtain ⟨n, yn, hPn⟩ : ∃ n y, pnum 2 (S 9) = (n, y) := ⟨_, _, rfl⟩
  have hL : Cod.rep Cod.ent n.toNat yn = (l, S 10) := by
    have h : Cod.rep Cod.ent (pnum 2 (S 9)).1.toNat (pnum 2 (S 9)).2 = (l, S 10) := HC0.h6
    rw [hPn] at h
    exact h
  have hN7 : pnum 8 (S 10) = (ix, S 11) := HC0.h7
  have hN8 : pnum 8 (S 11) = (tm, S 12) := HC0.h8
  obtain ⟨tt, yc, hPc, hc0, hc1⟩ := cmd_split HC0.h10
  obtain ⟨ye, hPe, hFe⟩ := numB_split HC0.h11
  have e1 : (256 : Int) ^ 1 = 256 := rfl
  have e2 : (256 : Int) ^ 2 = 65536 := rfl
  have r1 := pnum_rng 1 (S 0)
  rw [hP1, e1] at r1
  have r2 := pnum_rng 2 (S 1)
  rw [hP2, e2] at r2
  have r3 := pnum_rng 2 (S 2)
  rw [hP3, e2] at r3
  have r9 := pnum_rng 1 (S 8)
  rw [hP9, e1] at r9
  have rn := pnum_rng 2 (S 9)
  rw [hPn, e2] at rn
  have re := pnum_rng 1 (S 14)
  rw [hPe, e1] at re
  simp only at r1 r2 r3 r9 rn re
  have HC := hide HC0
  have HP1 := hide hP1
  have HP2 := hide hP2
  have HP3 := hide hP3
  have HN0 := hide hN0
  have HN1 := hide hN1
  have HN2 := hide hN2
  have HN3 := hide hN3
  have HN4 := hide hN4
  have HP9 := hide hP9
  have HPN := hide hPn
  have HL := hide hL
  have HN7 := hide hN7
  have HN8 := hide hN8
  have HPC := hide hPc
  have HC0' := hide hc0
  have HC1' := hide hc1
  have HPE := hide hPe
  have HF1 := hide hF1
  have HF9 := hide hF9
  have HFE := hide hFe
  have HOK := hide hok1
  have CS1 := hide (fun W => signed_b vf W ⟨by omega, by omega⟩)
  have CS2 := hide (fun W => signed_b vt W ⟨by omega, by omega⟩)
  rw [hf2] at CS1
  rw [hf3] at CS2
  clear hP1 hP2 hP3 hN0 hN1 hN2 hN3 hN4 hP9 hPn hL hN7 hN8 hPc hc0 hc1 hPe hF1 hF9 hFe hok1 hok0 hf2 hf3 HC0 e1 e2
  have hwk : IntKind.i64.wrap k1 = k1 := IntWalk.i64_in _ ⟨by omega, by omega⟩
  have hwn : IntKind.i64.wrap n = n := IntWalk.i64_in _ ⟨by omega, by omega⟩
  have hwe : IntKind.i64.wrap er = er := IntWalk.i64_in _ ⟨by omega, by omega⟩
  obtain ⟨nn, rfl⟩ := Int.eq_ofNat_of_zero_le rn.1
  rw [Int.toNat_natCast] at HL
  obtain ⟨A, cap, hxv, -, -, -⟩ := id hx
  subst hxv
  have hz1 : Ext w (w.alloc (.cells (mgcells Mg0 (.slice none 0 0) (.slice none 0 0)).toArray 33)) := (Ext.rfl' _).alloc' _
  have hR0 := Blk.new w 33 (mgcells Mg0 (.slice none 0 0) (.slice none 0 0)).toArray
  obtain ⟨gr, hgr⟩ : ∃ g_, w.heap.size = g_ := ⟨_, rfl⟩
  rw [hgr] at hR0
  go_enter Try.func9, Try.ntmps9
  go_upto_region 2 with fail
  change Code.wp _ _ _ _ ((w.alloc (.cells (mgcells Mg0 (.slice none 0 0) (.slice none 0 0)).toArray 33)).alloc (.cells #[.slice A b.length cap, .int .i64 0] 82))
  try rw [hgr]
  obtain ⟨w1, hw1⟩ : ∃ w1, w1 = w.alloc (.cells (mgcells Mg0 (.slice none 0 0) (.slice none 0 0)).toArray 33) := ⟨_, rfl⟩
  rw [← hw1] at hz1 hR0 ⊢
  have hz2 : Ext w1 (w1.alloc (.cells #[.slice A b.length cap, .int .i64 0] 82)) := (Ext.rfl' _).alloc' _
  have hB0 := Blk.new w1 82 #[.slice A b.length cap, .int .i64 0]
  have hgz : w1.heap.size = gr + 1 := by rw [hw1, ← hgr]; simp
  obtain ⟨g, hg⟩ : ∃ g_, gr + 1 = g_ := ⟨_, rfl⟩
  rw [hgz] at hB0
  rw [hg] at hB0 hgz ⊢
  clear hw1
  obtain ⟨x, hxx⟩ : ∃ x, Value.slice A b.length cap = x := ⟨_, rfl⟩
  have hbs := hx.ext (hz1.trans' hz2)
  have hox : ∀ S, (∀ k, k ∈ S → w.heap.size ≤ k) → Off x S := fun S hS => by rw [← hxx]; exact hx.off hS
  rw [hxx] at hbs hB0 hz2 ⊢
  obtain ⟨W0, hW0⟩ : ∃ W0, W0 = w1.alloc (.cells #[x, .int .i64 0] 82) := ⟨_, rfl⟩
  rw [← hW0] at hbs hB0 hz2 ⊢
  have hW0s : W0.heap.size = g + 1 := by rw [hW0, ← hgz]; simp
  clear hW0
  have hS0 : S 0 = (b, 0) := HC.out.h0
  have h0 : RdAt 82 W0 g x (S 0) := ⟨by rw [hS0]; exact hB0, by rw [hS0]; exact hbs, hox _ (fun k hk => by rw [List.mem_singleton.1 hk]; omega), by rw [hS0]; exact hl⟩
  have hR := hR0.ext hz2
  have C1 := hide (rnum_b 82 g x (S 0) 1 W0 h0 (by decide))
  rw [HP1.out] at C1
  simp only at C1
  clear hB0 hbs hxx hx hR0 h0 hS0
  go_wp2_with fail
  refine C1.out.mono ?_
  rintro e W1 ⟨rfl, v1, h1, x1, o1⟩
  obtain ⟨gm, hgm_⟩ : ∃ g_, W1.heap.size = g_ := ⟨_, rfl⟩
  have hgmg : g < gm := by have := x1.size; omega
  dsimp only
  repeat (first | with_reducible refine one_stop ?_ | go_step)
  intro wz gm' hgm' hMz hz3
  obtain rfl : gm = gm' := by rw [← hgm_, hgm']
  clear hgm'
  refine st_stop rfl 33 _ _ rfl gm (mgcells ⟨k1, 0, 0, 0, 0, 0, [], 0, 0, false, Sn0, Cm.zero, ⟨0, []⟩⟩ (.slice none 0 0) (.slice none 0 0)).toArray rfl rfl 33 _ hMz (by kernel_rfl) (by simp) (mg_one _ _ _ _ _ _ _) ?_
  intro w0 hM0 hcM
  replace hz3 := hz3.then_ hcM (fun k hk => by rw [List.mem_singleton.1 hk]; omega)
  clear hMz hcM
  have hsz : gm < w0.heap.size := hM0.lt
  have hxw0 : Ext w w0 := ((hz1.trans' hz2).then_ x1 (fun k hk => by rw [List.mem_singleton.1 hk]; omega)).trans' hz3
  replace hR := (hR.chg x1 (by simp; omega)).ext hz3
  have hz : TZ w0 g gm v1 y1 ⟨k1, 0, 0, 0, 0, 0, [], 0, 0, false, Sn0, Cm.zero, ⟨0, []⟩⟩ (.slice none 0 0) (.slice none 0 0) w0 :=
    ⟨⟨v1, h1.ext hz3, fun _ h => h⟩, hM0, Enc.Sl.nil _ _ _, Enc.BsX.nil _ _, Chg.refl _ _, ⟨by omega, by omega, by omega⟩, fun S hS => o1 _ (hox S (fun k hk => by have := hS k hk; omega))⟩
  clear hz1 hz2 hz3 hM0 h1 x1 o1 hox hgm_ C1 hgz hW0s
  have hgl := hz.lt.1
  have hgml := hz.lt.2.1
  dsimp only [Act.put]
  go_upto_region 3 with fail
  have c1 := hz.c1
  obtain ⟨e1, he1⟩ : ∃ e, y1.2 = e := ⟨_, rfl⟩
  rw [he1] at c1
  have HE1 := hide he1
  clear he1
  have m0 : w0.cell? ⟨gm, 0, none⟩ = some (.int .i64 k1) := (hz.bm.cell 0).trans rfl
  obtain ⟨bk, hbk⟩ : ∃ b, decide (e1 = 0 ∧ (k1 < 1 ∨ 7 < k1)) = b := ⟨_, rfl⟩
  have HBK := hide hbk
  clear hbk
  go_cut [33] (fun v wx => v = .bool bk ∧ wx = w0)
  case first =>
    rcases Bool.eq_false_or_eq_true (e1 == 0) with he | he
    · have he' : e1 = 0 := by simpa using he
      by_cases hk1 : k1 < 1
      · have hb : bk = true := by rw [← HBK.out]; exact decide_eq_true ⟨he', .inl hk1⟩
        clear he'
        go_wp2_with fail
        go_meet
        case rel => exact ⟨by rw [hb], rfl⟩
      · by_cases hk7 : 7 < k1
        · have hb : bk = true := by rw [← HBK.out]; exact decide_eq_true ⟨he', .inr hk7⟩
          clear he'
          go_wp2_with fail
          go_meet
          case rel => exact ⟨by rw [hb], rfl⟩
        · have hb : bk = false := by rw [← HBK.out]; exact decide_eq_false fun h => h.2.elim hk1 hk7
          clear he'
          go_wp2_with fail
          go_meet
          case rel => exact ⟨by rw [hb], rfl⟩
    · have hb : bk = false := by rw [← HBK.out]; exact decide_eq_false fun h => by simp [h.1] at he
      go_wp2_with fail
      go_meet
      case rel => exact ⟨by rw [hb], rfl⟩
  case rest =>
  obtain ⟨rfl, rfl⟩ := hcut
  generalize wc = w0 at *
  clear c1 m0
  go_upto_if 33 with fail
  go_cut [] (fun wx => TZ w0 g gm v1 (S 1) ⟨k1, 0, 0, 0, 0, 0, [], 0, 0, false, Sn0, Cm.zero, ⟨0, []⟩⟩ (.slice none 0 0) (.slice none 0 0) wx)
  case first =>
    cases bk with
    | true =>
      go_wp2_with fail
      refine hz.fail.mono ?_
      rintro e W2 ⟨rfl, h2⟩
      have hS : pform true y1 = S 1 := form_yes HF1.out (decide_eq_true (of_decide_eq_true HBK.out).2)
      rw [hS] at h2
      go_wp2_with fail
      go_meet
      case rel => exact h2
    | false =>
      have hS : y1 = S 1 := by
        have h := of_decide_eq_false HBK.out
        by_cases h0 : e1 = 0
        · exact form_no HF1.out (decide_eq_false fun h7 => h ⟨h0, h7⟩)
        · exact form_bad HF1.out (by rw [HE1.out]; exact h0)
      rw [hS] at hz
      go_wp2_with fail
      go_meet
      case rel => exact hz
  case rest =>
  replace hz := hcut
  clear hcut
  generalize wc = W2 at *
  go_wp2_with fail
  refine (hz.num 2 (by decide) HP2.out).mono ?_
  rintro e W3 ⟨rfl, hz3⟩
  go_wp2_with fail
  refine (CS1.out W3).mono ?_
  rintro e W3' ⟨rfl, rfl⟩
  go_wp2_with fail
  refine (hz3.num 2 (by decide) HP3.out).mono ?_
  rintro e W4 ⟨rfl, hz4⟩
  go_wp2_with fail
  refine (CS2.out W4).mono ?_
  rintro e W4' ⟨rfl, rfl⟩
  have m1 := (hz4.bm.cell 1).trans rfl
  have m2 := (hz4.bm.cell 2).trans rfl
  have n1 := hz4.bm.frozen 1
  have n2 := hz4.bm.frozen 2
  go_upto_region 6 with fail
  have hz5 : TZ w0 g gm v1 (S 3) ⟨k1, f, t, 0, 0, 0, [], 0, 0, false, Sn0, Cm.zero, ⟨0, []⟩⟩ (.slice none 0 0) (.slice none 0 0) ((W4.setCell ⟨gm, 1, none⟩ (.int .i64 f)).setCell ⟨gm, 2, none⟩ (.int .i64 t)) := hz4.keep (((Chg.refl _ _).set (by simp) _).set (by simp) _) ((hz4.bm.setL 1 _).setL 2 _) rfl rfl
  generalize ((W4.setCell ⟨gm, 1, none⟩ (.int .i64 f)).setCell ⟨gm, 2, none⟩ (.int .i64 t)) = W5 at *
  clear m1 m2 n1 n2 hz hz3 hz4
  go_wp2_with fail
  refine (hz5.num 8 (by decide) HN0.out).mono ?_
  rintro e W6 ⟨rfl, hz6⟩
  go_wp2_with fail
  refine (hz6.num 8 (by decide) HN1.out).mono ?_
  rintro e W7 ⟨rfl, hz7⟩
  go_wp2_with fail
  refine (hz7.num 8 (by decide) HN2.out).mono ?_
  rintro e W8 ⟨rfl, hz8⟩
  go_wp2_with fail
  refine (hz8.num 8 (by decide) HN3.out).mono ?_
  rintro e W9 ⟨rfl, hz9⟩
  go_wp2_with fail
  refine (hz9.num 8 (by decide) HN4.out).mono ?_
  rintro e W10 ⟨rfl, hz10⟩
  have m3 := (hz10.bm.cell 3).trans rfl
  have m4 := (hz10.bm.cell 4).trans rfl
  have m5 := (hz10.bm.cell 5).trans rfl
  have m7 := (hz10.bm.cell 7).trans rfl
  have m8 := (hz10.bm.cell 8).trans rfl
  have n3 := hz10.bm.frozen 3
  have n4 := hz10.bm.frozen 4
  have n5 := hz10.bm.frozen 5
  have n7 := hz10.bm.frozen 7
  have n8 := hz10.bm.frozen 8
  go_upto_region 7 with fail
  have hz : TZ w0 g gm v1 (S 8) ⟨k1, f, t, T 0, T 1, T 2, [], T 3, T 4, false, Sn0, Cm.zero, ⟨0, []⟩⟩ (.slice none 0 0) (.slice none 0 0) (((((W10.setCell ⟨gm, 3, none⟩ (.int .u64 (T 0))).setCell ⟨gm, 4, none⟩ (.int .u64 (T 1))).setCell ⟨gm, 5, none⟩ (.int .u64 (T 2))).setCell ⟨gm, 7, none⟩ (.int .u64 (T 3))).setCell ⟨gm, 8, none⟩ (.int .u64 (T 4))) := hz10.keep ((((((Chg.refl _ _).set (by simp) _).set (by simp) _).set (by simp) _).set (by simp) _).set (by simp) _) (((((hz10.bm.setL 3 _).setL 4 _).setL 5 _).setL 7 _).setL 8 _) rfl rfl
  generalize (((((W10.setCell ⟨gm, 3, none⟩ (.int .u64 (T 0))).setCell ⟨gm, 4, none⟩ (.int .u64 (T 1))).setCell ⟨gm, 5, none⟩ (.int .u64 (T 2))).setCell ⟨gm, 7, none⟩ (.int .u64 (T 3))).setCell ⟨gm, 8, none⟩ (.int .u64 (T 4))) = W11 at *
  clear m3 m4 m5 m7 m8 n3 n4 n5 n7 n8 hz5 hz6 hz7 hz8 hz9 hz10
  go_wp2_with fail
  refine (hz.num 1 (by decide) HP9.out).mono ?_
  rintro e W12 ⟨rfl, hz12⟩
  go_upto_if 62 with fail
  go_cut [] (fun wx => TZ w0 g gm v1 (S 9) ⟨k1, f, t, T 0, T 1, T 2, [], T 3, T 4, false, Sn0, Cm.zero, ⟨0, []⟩⟩ (.slice none 0 0) (.slice none 0 0) wx)
  case first =>
    by_cases hd : 1 < ov
    · go_wp2_with fail
      refine hz12.fail.mono ?_
      rintro e W13 ⟨rfl, h2⟩
      have hS : pform true y9 = S 9 := form_yes HF9.out (decide_eq_true (.inr hd))
      rw [hS] at h2
      go_wp2_with fail
      go_meet
      case rel => exact h2
    · have hS : y9 = S 9 := form_no HF9.out (decide_eq_false fun h => by omega)
      rw [hS] at hz12
      go_wp2_with fail
      go_meet
      case rel => exact hz12
  case rest =>
  replace hz := hcut
  clear hcut hz12
  generalize wc = W13 at *
  have m9 := (hz.bm.cell 9).trans rfl
  have n9 := hz.bm.frozen 9
  have hq : (ov == 1) = ok := by rw [HOK.out]; rfl
  go_upto_region 11 with fail
  have hz11 : TZ w0 g gm v1 (S 9) ⟨k1, f, t, T 0, T 1, T 2, [], T 3, T 4, ok, Sn0, Cm.zero, ⟨0, []⟩⟩ (.slice none 0 0) (.slice none 0 0) (W13.setCell ⟨gm, 9, none⟩ (.bool ok)) := hz.keep ((Chg.refl _ _).set (by simp) _) (hz.bm.setL 9 _) rfl rfl
  generalize (W13.setCell ⟨gm, 9, none⟩ (.bool ok)) = W14 at *
  clear m9 n9 hq hz
  go_wp2_with fail
  refine (hz11.num 2 (by decide) HPN.out).mono ?_
  rintro e W15 ⟨rfl, hz⟩
  clear hz11
  go_upto_block 0 with fail
  go_cut [] (fun wx => ∃ (A : Option Addr) (c : Nat), TZ w0 g gm v1 (S 10) ⟨k1, f, t, T 0, T 1, T 2, l, T 3, T 4, ok, Sn0, Cm.zero, ⟨0, []⟩⟩ (.slice A l.length c) (.slice none 0 0) wx)
  case first =>
    go_wp2_with fail
    go_loopw [8] (fun vi wr => ∃ (k : Nat) (l1 : List En) (A : Option Addr) (c : Nat) (s2 : Rdr), k ≤ nn ∧ vi = .int .i64 k ∧ l1.length ≤ k ∧ Hid (Cod.rep Cod.ent nn yn = (l1 ++ (Cod.rep Cod.ent (nn - k) s2).1, (Cod.rep Cod.ent (nn - k) s2).2)) ∧ TZ w0 g gm v1 s2 ⟨k1, f, t, T 0, T 1, T 2, l1, T 3, T 4, ok, Sn0, Cm.zero, ⟨0, []⟩⟩ (.slice A l1.length c) (.slice none 0 0) wr ∧ Own 74 enE w0 wr (fun k => k < w0.heap.size) (.slice A l1.length c) l1) (fun vi _ => (nn - intOf vi).toNat)
    case atStart => exact ⟨0, [], none, 0, yn, by omega, rfl, by simp, hide (by simp), hz, Own.nil _ _ _ _ _⟩
    case round =>
      clear hz
      obtain ⟨k, l1, A, c, s2, hkn, rfl, hlk, HR, hz, hown⟩ := hrel
      have c1 := hz.c1
      obtain ⟨e2, he2⟩ : ∃ e, s2.2 = e := ⟨_, rfl⟩
      rw [he2] at c1
      have HE2 := hide he2
      clear he2
      obtain ⟨bk, hbk⟩ : ∃ b, decide (k < nn ∧ e2 = 0) = b := ⟨_, rfl⟩
      have HBK := hide hbk
      clear hbk
      cases bk with
      | true =>
        have hbt := of_decide_eq_true HBK.out
        have hlt : (k : Int) < nn := by omega
        have he : (e2 == 0) = true := by simpa using hbt.2
        have hs20 : s2.2 = 0 := by rw [HE2.out]; exact hbt.2
        have HLT := hide hbt.1
        obtain ⟨⟨tq, s3⟩, hT⟩ : ∃ r, pnum 8 s2 = r := ⟨_, rfl⟩
        obtain ⟨⟨d, s4⟩, hD⟩ : ∃ r, ptext s3 = r := ⟨_, rfl⟩
        have HR2 : Hid (Cod.rep Cod.ent nn yn = ((l1 ++ [⟨tq, d⟩]) ++ (Cod.rep Cod.ent (nn - (k + 1)) s4).1, (Cod.rep Cod.ent (nn - (k + 1)) s4).2)) := hide (by
          have e : Cod.rep Cod.ent ((nn - (k + 1)) + 1) s2 = (⟨tq, d⟩ :: (Cod.rep Cod.ent (nn - (k + 1)) s4).1, (Cod.rep Cod.ent (nn - (k + 1)) s4).2) := by
            have e5 : Cod.ent.P s2 = (⟨tq, d⟩, s4) := by
              show ((⟨(pnum 8 s2).1, (ptext (pnum 8 s2).2).1⟩ : En), (ptext (pnum 8 s2).2).2) = _
              rw [hT]
              simp only
              rw [hD]
            rw [Cod.rep, if_pos hs20, e5]
          rw [HR.out, show nn - k = (nn - (k + 1)) + 1 by omega, e]
          simp)
        have HN := hide (fun (W : World) v (h : RdAt 82 W g v s2) => rnum_b 82 g v s2 8 W h (by decide))
        have HD := hide (fun (W : World) v (h : RdAt 82 W g v s3) => rbytes_b 82 g v s3 W h)
        have htr : Hid (0 ≤ tq ∧ tq ≤ 18446744073709551615) := hide (by
          have h := pnum_rng 8 s2
          have e8 : (256 : Int) ^ 8 = 18446744073709551616 := rfl
          rw [hT, e8] at h
          exact ⟨h.1, by have := h.2; simp only at this; omega⟩)
        rw [hT] at HN
        rw [hD] at HD
        simp only at HN HD
        clear hT hD HR hbt hs20 HBK
        obtain ⟨v2, h2, ho2⟩ := hz.rd
        have hM := hz.bm
        have hol := hown.lt
        have hw0 : w0.heap.size ≤ wr.heap.size := hz.ch.size
        have hgm : ¬ gm = g := fun h => hz.lt.2.2 h.symm
        obtain ⟨SB, hSB⟩ : ∃ S_, (Value.slice A l1.length c).ownBlock.toList = S_ := ⟨_, rfl⟩
        have hSBl : ∀ q ∈ SB, w0.heap.size ≤ q := fun q hq => by rw [← hSB] at hq; exact (hol q (by simpa using hq)).1
        have hgS : g ∉ SB := fun hq => by have := hSBl g hq; omega
        have hgmS : gm ∉ SB := fun hq => by have := hSBl gm hq; omega
        have hvS : Off v1 SB := hz.off SB (fun q hq => by have := hSBl q hq; omega)
        have hXB : ∀ q ∈ g :: SB, q < w0.heap.size ∨ (Value.slice A l1.length c).ownBlock = some q := fun q hq => by
          rcases List.mem_cons.1 hq with h | h
          · exact .inl (by omega)
          · exact .inr (by rw [← hSB] at h; simpa using h)
        have hg1 : ∀ q ∈ [g], q ∈ g :: SB := fun q hq => by rw [List.mem_singleton.1 hq]; exact List.mem_cons_self
        have HSB := hide hSB
        clear hSB
        go_upto_region 15 with fail
        clear hlt he c1
        by_cases hroom : l1.length + 1 ≤ c
        · refine Rg.regionW Try.checked.mixed 144 10 (by kernel_rfl) [
            (false, (fun x_ _ => x_ = .pointer (some ⟨gm, 6, none⟩))),
            (false, (fun x_ _ => x_ = .slice A l1.length c)),
            (false, (fun x_ _ => x_ = .pointer (some ⟨g, 0, none⟩))),
            (true, (fun x_ _ => x_ = .int .u64 tq)),
            (false, (fun x_ _ => x_ = .pointer (some ⟨g, 0, none⟩))),
            (true, (fun v W => ∃ (y : Option Addr) (cy : Nat), v = .slice y d.length cy ∧ Enc.BsX W (fun k => k < w0.heap.size ∨ (Value.slice A l1.length c).ownBlock = some k) v d)),
            (false, (fun v W => ∃ y, v = .agg #[.int .u64 tq, y] ∧ Enc.BsX W (fun k => k < w0.heap.size ∨ (Value.slice A l1.length c).ownBlock = some k) y d)),
            (false, (fun v W => Enc.Sl enE W (fun k => k < w0.heap.size ∨ (Value.slice A l1.length c).ownBlock = some k) v [(⟨tq, d⟩ : En)])),
            (true, (fun v W => v = (.slice A (l1.length + 1) c) ∧ Own 74 enE w0 W (fun k => k < w0.heap.size) (.slice A (l1.length + 1) c) (l1 ++ [(⟨tq, d⟩ : En)]))),
            (false, (fun x_ _ => x_ = .pointer (some ⟨gm, 6, none⟩)))] (by kernel_rfl) ((fun i W => ∃ v5, RdAt 82 W g v5 (match i with | 0 => s2 | 1 => s3 | _ => s4) ∧ Blk W gm 33 (mgcells ⟨k1, f, t, T 0, T 1, T 2, l1, T 3, T 4, ok, Sn0, Cm.zero, ⟨0, []⟩⟩ (.slice A l1.length c) (.slice none 0 0)).toArray ∧ (i < 3 → Own 74 enE w0 W (fun k => k < w0.heap.size) (.slice A l1.length c) l1) ∧ Chg (g :: SB) wr W ∧ ∀ S, Off v1 S → Off v5 S)) (fun W W2 => Chg (g :: SB) W W2 ∧ (Own 74 enE w0 W (fun k => k < w0.heap.size) (.slice A (l1.length + 1) c) (l1 ++ [(⟨tq, d⟩ : En)]) → Own 74 enE w0 W2 (fun k => k < w0.heap.size) (.slice A (l1.length + 1) c) (l1 ++ [(⟨tq, d⟩ : En)]))) rfl rfl rfl
            ?st ⟨v2, h2.drewR, hM.drew, fun _ => hown.ext ((Ext.rfl' _).drew'), (Chg.refl _ _).drew, ho2⟩ ?ob ?en
          case st => exact ⟨fun _ _ _ h _ => h, fun _ _ _ h _ => h, fun _ _ _ h _ => h, fun _ _ _ h _ => h, fun _ _ _ h _ => h, fun _ _ _ ⟨y, cy, e1, e2⟩ hG => ⟨y, cy, e1, e2.chg hG.1 (fun k hk _ => hXB k hk)⟩, fun _ _ _ ⟨y, e1, e2⟩ hG => ⟨y, e1, e2.chg hG.1 (fun k hk _ => hXB k hk)⟩, fun _ _ _ h hG => h.chg hG.1 (fun k hk _ => hXB k hk), fun _ _ _ ⟨h, o⟩ hG => by subst h; exact ⟨rfl, hG.2 o⟩, fun _ _ _ h _ => h, trivial⟩
          case ob =>
            refine ⟨fun i => Rg.at_runW [5] rfl ?_, ?_⟩
            · intro ρ W hR ⟨q5, _⟩
              replace q5 : ρ 5 = .pointer (some ⟨gm, 0, none⟩) := q5
              refine ⟨rfl, ?_⟩
              exact Rg.run_ok (v := .pointer (some ⟨gm, 6, none⟩)) (by simp [execOp, Rg.ev, go_sem, q5]) ⟨rfl, hR, (⟨Chg.refl _ _, id⟩)⟩
            refine ⟨fun i => Rg.at_runW [83] rfl ?_, ?_⟩
            · intro ρ W hR ⟨q83, _⟩
              replace q83 : ρ 83 = .pointer (some ⟨gm, 6, none⟩) := q83
              refine ⟨rfl, ?_⟩
              obtain ⟨v5, h5, m5, w5, c5, o5⟩ := id hR
              have c_ : W.cell? ⟨gm, 6, none⟩ = some (.slice A l1.length c) := (m5.cell 6).trans rfl
              exact Rg.run_ok (v := .slice A l1.length c) (by simp [execOp, Rg.ev, go_sem, q83, c_]) ⟨rfl, hR, ⟨Chg.refl _ _, id⟩⟩
            refine ⟨fun i => Rg.at_runW [4] rfl ?_, ?_⟩
            · intro ρ W hR ⟨q4, _⟩
              replace q4 : ρ 4 = .pointer (some ⟨g, 0, none⟩) := q4
              refine ⟨rfl, ?_⟩
              exact Rg.run_ok (v := .pointer (some ⟨g, 0, none⟩)) (by simp [execOp, Rg.ev, go_sem, q4]) ⟨rfl, hR, (⟨Chg.refl _ _, id⟩)⟩
            refine ⟨Rg.at_runW [85] rfl ?_, ?_⟩
            · intro ρ W hR ⟨q85, _⟩
              replace q85 : ρ 85 = .pointer (some ⟨g, 0, none⟩) := q85
              refine ⟨rfl, ?_⟩
              obtain ⟨v5, h5, m5, w5, c5, o5⟩ := hR
              refine Rg.enter_fn (args := #[.pointer (some ⟨g, 0, none⟩), .int .i64 8]) rfl (by simp only [List.map_toArray, List.map_cons, List.map_nil, Rg.ev, q85]) (by kernel_rfl) ?_
              refine (HN.out W v5 h5).mono ?_
              rintro e_ w9 ⟨rfl, v6, ra, rc, ro⟩
              exact ⟨_, rfl, rfl, ⟨v6, ra, m5.chg rc (by simp; exact hgm), fun hi => (w5 (by omega)).chg rc (fun k hk _ => by rw [List.mem_singleton.1 hk]; exact hgl), c5.trans (rc.mono (by simp)), fun S hS => ro S (o5 S hS)⟩, ⟨rc.mono (by simp), fun o_ => o_.chg rc (fun k hk _ => by rw [List.mem_singleton.1 hk]; exact hgl)⟩⟩
            refine ⟨fun i => Rg.at_runW [4] rfl ?_, ?_⟩
            · intro ρ W hR ⟨q4, _⟩
              replace q4 : ρ 4 = .pointer (some ⟨g, 0, none⟩) := q4
              refine ⟨rfl, ?_⟩
              exact Rg.run_ok (v := .pointer (some ⟨g, 0, none⟩)) (by simp [execOp, Rg.ev, go_sem, q4]) ⟨rfl, hR, (⟨Chg.refl _ _, id⟩)⟩
            refine ⟨Rg.at_runW [87] rfl ?_, ?_⟩
            · intro ρ W hR ⟨q87, _⟩
              replace q87 : ρ 87 = .pointer (some ⟨g, 0, none⟩) := q87
              refine ⟨rfl, ?_⟩
              obtain ⟨v5, h5, m5, w5, c5, o5⟩ := hR
              have hWs := c5.size
              refine Rg.enter_fn (args := #[.pointer (some ⟨g, 0, none⟩)]) rfl (by simp only [List.map_toArray, List.map_cons, List.map_nil, Rg.ev, q87]) (by kernel_rfl) ?_
              refine (HD.out W v5 h5).mono ?_
              rintro e_ w9 ⟨q, Aq, cq, hq, rfl, hz, v6, ra, rc, ro⟩
              have hq' := hq.out
              try simp only at hq'
              subst hq'
              exact ⟨_, rfl, ⟨Aq, cq, rfl, Enc.BsX.nw hz fun k hk => by
                rcases hk with hk | hk
                · have := hw0; omega
                · have := (hol k hk).2; omega⟩, ⟨v6, ra, m5.chg rc (by simp; exact hgm), fun hi => (w5 (by omega)).chg rc (fun k hk _ => by rw [List.mem_singleton.1 hk]; exact hgl), c5.trans (rc.mono (by simp)), fun S hS => ro S (o5 S hS)⟩, ⟨rc.mono (by simp), fun o_ => o_.chg rc (fun k hk _ => by rw [List.mem_singleton.1 hk]; exact hgl)⟩⟩
            refine ⟨fun i => Rg.at_runW [86, 88] rfl ?_, ?_⟩
            · intro ρ W hR ⟨q86, q88, _⟩
              replace q86 : ρ 86 = .int .u64 tq := q86
              replace q88 : (fun v W => ∃ (y : Option Addr) (cy : Nat), v = .slice y d.length cy ∧ Enc.BsX W (fun k => k < w0.heap.size ∨ (Value.slice A l1.length c).ownBlock = some k) v d) (ρ 88) W := q88
              refine ⟨rfl, ?_⟩
              obtain ⟨y, cy, hy, hb⟩ := q88
              exact Rg.run_ok (v := .agg #[.int .u64 tq, .slice y d.length cy]) (by simp [execOp, Rg.ev, go_sem, q86, hy] <;> rfl) ⟨⟨_, rfl, by rw [← hy]; exact hb⟩, hR, ⟨Chg.refl _ _, id⟩⟩
            refine ⟨fun i => Rg.at_runW [89] rfl ?_, ?_⟩
            · intro ρ W hR ⟨q89, _⟩
              replace q89 : (fun v W => ∃ y, v = .agg #[.int .u64 tq, y] ∧ Enc.BsX W (fun k => k < w0.heap.size ∨ (Value.slice A l1.length c).ownBlock = some k) y d) (ρ 89) W := q89
              refine ⟨rfl, ?_⟩
              obtain ⟨y, hy, hb⟩ := q89
              obtain ⟨v5, h5, m5, w5, c5, o5⟩ := hR
              have hWs := c5.size
              refine Rg.run_ok (v := .slice (some ⟨W.heap.size, 0, none⟩) 1 1) (W' := W.alloc (.cells #[.int .u64 tq, y] 74)) (by simp [execOp, Rg.ev, go_sem, hy]) ⟨?_, ⟨v5, h5.ext ((Ext.rfl' W).alloc' _), m5.ext ((Ext.rfl' W).alloc' _), fun hi => (w5 hi).ext ((Ext.rfl' W).alloc' _), c5.alloc _, o5⟩, ⟨(Chg.refl _ _).alloc _, fun o_ => o_.ext ((Ext.rfl' W).alloc' _)⟩⟩
              exact Sl.one 74 (E := enE) (cs := [.int .u64 tq, y]) (en_rep.2 ⟨y, rfl, ⟨by have := htr.out; show 0 ≤ tq; omega, by have := htr.out; show tq ≤ _; omega⟩, hb⟩) W.heap.size rfl (by
                rintro (h | h)
                · have := hw0; omega
                · have := (hol _ h).2; omega)
            refine ⟨Rg.at_runW [84, 90] rfl ?_, ?_⟩
            · intro ρ W hR ⟨q84, q90, _⟩
              replace q84 : ρ 84 = .slice A l1.length c := q84
              replace q90 : (fun v W => Enc.Sl enE W (fun k => k < w0.heap.size ∨ (Value.slice A l1.length c).ownBlock = some k) v [(⟨tq, d⟩ : En)]) (ρ 90) W := q90
              refine ⟨rfl, ?_⟩
              obtain ⟨v5, h5, m5, w5, c5, o5⟩ := hR
              have hWs := c5.size
              have how := w5 (by omega)
              obtain ⟨w_, hr_, hn_, hc_⟩ := run_ownA elt_en 23 23 Try.underlying23 (m := [(⟨tq, d⟩ : En)]) (how.base (w0 := cutW W w0.heap.size) (by rw [cutW_size (by omega)]; exact Nat.le_refl _)) hroom (by simp) (cutW_ext (by omega)) q90 (by have := hw0; omega) (by simp only [List.length_singleton]; omega) (by simp only [List.length_singleton]; omega)
              replace hn_ := hn_.base (w0 := w0) (by rw [cutW_size (by omega)]; exact Nat.le_refl _)
              rw [HSB.out] at hc_
              exact Rg.run_ok (v := (.slice A (l1.length + 1) c)) (W' := w_) (by simp only [execOp, Rg.ev, resolve, invoke, builtin, Sem.run_bind, Sem.run_pure, Result.andThen_ok, List.map_toArray, List.map_cons, List.map_nil, q84]; exact congrArg (fun r => Result.andThen r _) hr_) ⟨⟨rfl, hn_⟩, ⟨v5, h5.chg hc_ hgS (o5 _ (hvS)), m5.chg hc_ hgmS, fun hi => absurd hi (by omega), c5.trans (hc_.mono (by intro k_ hk_; simp [hk_])), o5⟩, hc_.mono (by intro k_ hk_; simp [hk_]), fun _ => hn_⟩
            refine ⟨fun i => Rg.at_runW [5] rfl ?_, ?_⟩
            · intro ρ W hR ⟨q5, _⟩
              replace q5 : ρ 5 = .pointer (some ⟨gm, 0, none⟩) := q5
              refine ⟨rfl, ?_⟩
              exact Rg.run_ok (v := .pointer (some ⟨gm, 6, none⟩)) (by simp [execOp, Rg.ev, go_sem, q5]) ⟨rfl, hR, (⟨Chg.refl _ _, id⟩)⟩
            trivial
          case en =>
            intro tm W hR hsz hk
            rw [Rg.fin_eq (ds := [83, 84, 85, 86, 87, 88, 89, 90, 91, 92]) rfl rfl rfl hsz hk]
            have k83 : tm.getD 83 undef = .pointer (some ⟨gm, 6, none⟩) := hk 83
            have k84 : tm.getD 84 undef = .slice A l1.length c := hk 84
            have k85 : tm.getD 85 undef = .pointer (some ⟨g, 0, none⟩) := hk 85
            have k86 : tm.getD 86 undef = .int .u64 tq := hk 86
            have k87 : tm.getD 87 undef = .pointer (some ⟨g, 0, none⟩) := hk 87
            have k88 : (fun v W => ∃ (y : Option Addr) (cy : Nat), v = .slice y d.length cy ∧ Enc.BsX W (fun k => k < w0.heap.size ∨ (Value.slice A l1.length c).ownBlock = some k) v d) (tm.getD 88 undef) W := hk 88
            have k89 : (fun v W => ∃ y, v = .agg #[.int .u64 tq, y] ∧ Enc.BsX W (fun k => k < w0.heap.size ∨ (Value.slice A l1.length c).ownBlock = some k) y d) (tm.getD 89 undef) W := hk 89
            have k90 : (fun v W => Enc.Sl enE W (fun k => k < w0.heap.size ∨ (Value.slice A l1.length c).ownBlock = some k) v [(⟨tq, d⟩ : En)]) (tm.getD 90 undef) W := hk 90
            have k91 : (fun v W => v = (.slice A (l1.length + 1) c) ∧ Own 74 enE w0 W (fun k => k < w0.heap.size) (.slice A (l1.length + 1) c) (l1 ++ [(⟨tq, d⟩ : En)])) (tm.getD 91 undef) W := hk 91
            have k92 : tm.getD 92 undef = .pointer (some ⟨gm, 6, none⟩) := hk 92
            clear hk hsz
            simp only [Rg.putAll, List.setIfInBounds_toArray, List.set_cons_zero, List.set_cons_succ, k83, k84, k85, k86, k87, k92]
            clear k83
            clear k84
            clear k85
            clear k86
            clear k87
            generalize tm.getD 88 undef = u88 at *
            generalize tm.getD 89 undef = u89 at *
            generalize tm.getD 90 undef = u90 at *
            generalize tm.getD 91 undef = u91 at *
            clear k92
            obtain ⟨v5, h5, m5, -, c5, o5⟩ := hR
            replace h5 : RdAt 82 W g v5 s4 := h5
            obtain ⟨rfl, hn⟩ := k91
            have q6 := (m5.cell 6).trans rfl
            have f6 := m5.frozen 6
            have hll : (l1 ++ [(⟨tq, d⟩ : En)]).length = l1.length + 1 := by simp
            obtain ⟨l2, hl2⟩ : ∃ l2, l1 ++ [(⟨tq, d⟩ : En)] = l2 := ⟨_, rfl⟩
            rw [hl2] at hn hll HR2
            have hzo : TZ w0 g gm v1 s4 ⟨k1, f, t, T 0, T 1, T 2, l2, T 3, T 4, ok, Sn0, Cm.zero, ⟨0, []⟩⟩ (.slice A (l1.length + 1) c) (.slice none 0 0) (W.setCell ⟨gm, 6, none⟩ (.slice A (l1.length + 1) c)) ∧ Own 74 enE w0 (W.setCell ⟨gm, 6, none⟩ (.slice A (l1.length + 1) c)) (fun k => k < w0.heap.size) (.slice A (l1.length + 1) c) l2 := hz.app h5 o5 hn c5 hSBl (m5.setL 6 _) rfl (Enc.BsX.nil _ _)
            clear k89 k90 k88 hl2
            simp only [List.drop_succ_cons, List.drop_zero]
            go_wp2_with fail
            go_roundw
            case rel => exact ⟨k + 1, l2, A, c, s4, by have := HLT.out; omega, by go_num, by omega, HR2, by rw [hll]; exact hzo.1, by rw [hll]; exact hzo.2⟩
            case measure => have := HLT.out; simp [intOf]; omega
        · refine Rg.regionW Try.checked.mixed 144 10 (by kernel_rfl) [
            (false, (fun x_ _ => x_ = .pointer (some ⟨gm, 6, none⟩))),
            (false, (fun x_ _ => x_ = .slice A l1.length c)),
            (false, (fun x_ _ => x_ = .pointer (some ⟨g, 0, none⟩))),
            (true, (fun x_ _ => x_ = .int .u64 tq)),
            (false, (fun x_ _ => x_ = .pointer (some ⟨g, 0, none⟩))),
            (true, (fun v W => ∃ (y : Option Addr) (cy : Nat), v = .slice y d.length cy ∧ Enc.BsX W (fun k => k < w0.heap.size ∨ (Value.slice A l1.length c).ownBlock = some k) v d)),
            (false, (fun v W => ∃ y, v = .agg #[.int .u64 tq, y] ∧ Enc.BsX W (fun k => k < w0.heap.size ∨ (Value.slice A l1.length c).ownBlock = some k) y d)),
            (false, (fun v W => Enc.Sl enE W (fun k => k < w0.heap.size ∨ (Value.slice A l1.length c).ownBlock = some k) v [(⟨tq, d⟩ : En)])),
            (true, (fun v W => ∃ (B5 : Option Addr) (c5 : Nat), v = .slice B5 (l1.length + 1) c5 ∧ Own 74 enE w0 W (fun k => k < w0.heap.size) v (l1 ++ [(⟨tq, d⟩ : En)]))),
            (false, (fun x_ _ => x_ = .pointer (some ⟨gm, 6, none⟩)))] (by kernel_rfl) ((fun i W => ∃ v5, RdAt 82 W g v5 (match i with | 0 => s2 | 1 => s3 | _ => s4) ∧ Blk W gm 33 (mgcells ⟨k1, f, t, T 0, T 1, T 2, l1, T 3, T 4, ok, Sn0, Cm.zero, ⟨0, []⟩⟩ (.slice A l1.length c) (.slice none 0 0)).toArray ∧ (i < 3 → Own 74 enE w0 W (fun k => k < w0.heap.size) (.slice A l1.length c) l1) ∧ Chg [g] wr W ∧ ∀ S, Off v1 S → Off v5 S)) (Chg [g]) rfl rfl rfl
            ?st ⟨v2, h2.drewR, hM.drew, fun _ => hown.ext ((Ext.rfl' _).drew'), (Chg.refl _ _).drew, ho2⟩ ?ob ?en
          case st => exact ⟨fun _ _ _ h _ => h, fun _ _ _ h _ => h, fun _ _ _ h _ => h, fun _ _ _ h _ => h, fun _ _ _ h _ => h, fun _ _ _ ⟨y, cy, e1, e2⟩ hG => ⟨y, cy, e1, e2.chg hG (fun k hk _ => hXB k (hg1 k hk))⟩, fun _ _ _ ⟨y, e1, e2⟩ hG => ⟨y, e1, e2.chg hG (fun k hk _ => hXB k (hg1 k hk))⟩, fun _ _ _ h hG => h.chg hG (fun k hk _ => hXB k (hg1 k hk)), fun _ _ _ ⟨B5, c5, h, o⟩ hG => ⟨B5, c5, h, o.chg hG (fun k hk _ => by rw [List.mem_singleton.1 hk]; exact hgl)⟩, fun _ _ _ h _ => h, trivial⟩
          case ob =>
            refine ⟨fun i => Rg.at_runW [5] rfl ?_, ?_⟩
            · intro ρ W hR ⟨q5, _⟩
              replace q5 : ρ 5 = .pointer (some ⟨gm, 0, none⟩) := q5
              refine ⟨rfl, ?_⟩
              exact Rg.run_ok (v := .pointer (some ⟨gm, 6, none⟩)) (by simp [execOp, Rg.ev, go_sem, q5]) ⟨rfl, hR, Chg.refl _ _⟩
            refine ⟨fun i => Rg.at_runW [83] rfl ?_, ?_⟩
            · intro ρ W hR ⟨q83, _⟩
              replace q83 : ρ 83 = .pointer (some ⟨gm, 6, none⟩) := q83
              refine ⟨rfl, ?_⟩
              obtain ⟨v5, h5, m5, w5, c5, o5⟩ := id hR
              have c_ : W.cell? ⟨gm, 6, none⟩ = some (.slice A l1.length c) := (m5.cell 6).trans rfl
              exact Rg.run_ok (v := .slice A l1.length c) (by simp [execOp, Rg.ev, go_sem, q83, c_]) ⟨rfl, hR, Chg.refl _ _⟩
            refine ⟨fun i => Rg.at_runW [4] rfl ?_, ?_⟩
            · intro ρ W hR ⟨q4, _⟩
              replace q4 : ρ 4 = .pointer (some ⟨g, 0, none⟩) := q4
              refine ⟨rfl, ?_⟩
              exact Rg.run_ok (v := .pointer (some ⟨g, 0, none⟩)) (by simp [execOp, Rg.ev, go_sem, q4]) ⟨rfl, hR, Chg.refl _ _⟩
            refine ⟨Rg.at_runW [85] rfl ?_, ?_⟩
            · intro ρ W hR ⟨q85, _⟩
              replace q85 : ρ 85 = .pointer (some ⟨g, 0, none⟩) := q85
              refine ⟨rfl, ?_⟩
              obtain ⟨v5, h5, m5, w5, c5, o5⟩ := hR
              refine Rg.enter_fn (args := #[.pointer (some ⟨g, 0, none⟩), .int .i64 8]) rfl (by simp only [List.map_toArray, List.map_cons, List.map_nil, Rg.ev, q85]) (by kernel_rfl) ?_
              refine (HN.out W v5 h5).mono ?_
              rintro e_ w9 ⟨rfl, v6, ra, rc, ro⟩
              exact ⟨_, rfl, rfl, ⟨v6, ra, m5.chg rc (by simp; exact hgm), fun hi => (w5 (by omega)).chg rc (fun k hk _ => by rw [List.mem_singleton.1 hk]; exact hgl), c5.trans (rc.mono (by simp)), fun S hS => ro S (o5 S hS)⟩, rc⟩
            refine ⟨fun i => Rg.at_runW [4] rfl ?_, ?_⟩
            · intro ρ W hR ⟨q4, _⟩
              replace q4 : ρ 4 = .pointer (some ⟨g, 0, none⟩) := q4
              refine ⟨rfl, ?_⟩
              exact Rg.run_ok (v := .pointer (some ⟨g, 0, none⟩)) (by simp [execOp, Rg.ev, go_sem, q4]) ⟨rfl, hR, Chg.refl _ _⟩
            refine ⟨Rg.at_runW [87] rfl ?_, ?_⟩
            · intro ρ W hR ⟨q87, _⟩
              replace q87 : ρ 87 = .pointer (some ⟨g, 0, none⟩) := q87
              refine ⟨rfl, ?_⟩
              obtain ⟨v5, h5, m5, w5, c5, o5⟩ := hR
              have hWs := c5.size
              refine Rg.enter_fn (args := #[.pointer (some ⟨g, 0, none⟩)]) rfl (by simp only [List.map_toArray, List.map_cons, List.map_nil, Rg.ev, q87]) (by kernel_rfl) ?_
              refine (HD.out W v5 h5).mono ?_
              rintro e_ w9 ⟨q, Aq, cq, hq, rfl, hz, v6, ra, rc, ro⟩
              have hq' := hq.out
              try simp only at hq'
              subst hq'
              exact ⟨_, rfl, ⟨Aq, cq, rfl, Enc.BsX.nw hz fun k hk => by
                rcases hk with hk | hk
                · have := hw0; omega
                · have := (hol k hk).2; omega⟩, ⟨v6, ra, m5.chg rc (by simp; exact hgm), fun hi => (w5 (by omega)).chg rc (fun k hk _ => by rw [List.mem_singleton.1 hk]; exact hgl), c5.trans (rc.mono (by simp)), fun S hS => ro S (o5 S hS)⟩, rc⟩
            refine ⟨fun i => Rg.at_runW [86, 88] rfl ?_, ?_⟩
            · intro ρ W hR ⟨q86, q88, _⟩
              replace q86 : ρ 86 = .int .u64 tq := q86
              replace q88 : (fun v W => ∃ (y : Option Addr) (cy : Nat), v = .slice y d.length cy ∧ Enc.BsX W (fun k => k < w0.heap.size ∨ (Value.slice A l1.length c).ownBlock = some k) v d) (ρ 88) W := q88
              refine ⟨rfl, ?_⟩
              obtain ⟨y, cy, hy, hb⟩ := q88
              exact Rg.run_ok (v := .agg #[.int .u64 tq, .slice y d.length cy]) (by simp [execOp, Rg.ev, go_sem, q86, hy] <;> rfl) ⟨⟨_, rfl, by rw [← hy]; exact hb⟩, hR, Chg.refl _ _⟩
            refine ⟨fun i => Rg.at_runW [89] rfl ?_, ?_⟩
            · intro ρ W hR ⟨q89, _⟩
              replace q89 : (fun v W => ∃ y, v = .agg #[.int .u64 tq, y] ∧ Enc.BsX W (fun k => k < w0.heap.size ∨ (Value.slice A l1.length c).ownBlock = some k) y d) (ρ 89) W := q89
              refine ⟨rfl, ?_⟩
              obtain ⟨y, hy, hb⟩ := q89
              obtain ⟨v5, h5, m5, w5, c5, o5⟩ := hR
              have hWs := c5.size
              refine Rg.run_ok (v := .slice (some ⟨W.heap.size, 0, none⟩) 1 1) (W' := W.alloc (.cells #[.int .u64 tq, y] 74)) (by simp [execOp, Rg.ev, go_sem, hy]) ⟨?_, ⟨v5, h5.ext ((Ext.rfl' W).alloc' _), m5.ext ((Ext.rfl' W).alloc' _), fun hi => (w5 hi).ext ((Ext.rfl' W).alloc' _), c5.alloc _, o5⟩, (Chg.refl _ _).alloc _⟩
              exact Sl.one 74 (E := enE) (cs := [.int .u64 tq, y]) (en_rep.2 ⟨y, rfl, ⟨by have := htr.out; show 0 ≤ tq; omega, by have := htr.out; show tq ≤ _; omega⟩, hb⟩) W.heap.size rfl (by
                rintro (h | h)
                · have := hw0; omega
                · have := (hol _ h).2; omega)
            refine ⟨Rg.at_runW [84, 90] rfl ?_, ?_⟩
            · intro ρ W hR ⟨q84, q90, _⟩
              replace q84 : ρ 84 = .slice A l1.length c := q84
              replace q90 : (fun v W => Enc.Sl enE W (fun k => k < w0.heap.size ∨ (Value.slice A l1.length c).ownBlock = some k) v [(⟨tq, d⟩ : En)]) (ρ 90) W := q90
              refine ⟨rfl, ?_⟩
              obtain ⟨v5, h5, m5, w5, c5, o5⟩ := hR
              have hWs := c5.size
              have how := w5 (by omega)
              obtain ⟨v_, w_, hr_, hn_, hx_⟩ := run_ownB elt_en 23 23 Try.underlying23 (m := [(⟨tq, d⟩ : En)]) (how.base (w0 := cutW W w0.heap.size) (by rw [cutW_size (by omega)]; exact Nat.le_refl _)) hroom (by simp) (cutW_ext (by omega)) q90 (by have := hw0; omega) (by simp only [List.length_singleton]; omega) (by simp only [List.length_singleton]; omega)
              replace hn_ := hn_.base (w0 := w0) (by rw [cutW_size (by omega)]; exact Nat.le_refl _)
              obtain ⟨B5, c5_, rfl, -, -⟩ := hn_.form
              refine Rg.run_ok (v := .slice B5 (l1 ++ [(⟨tq, d⟩ : En)]).length c5_) (W' := w_) (by simp only [execOp, Rg.ev, resolve, invoke, builtin, Sem.run_bind, Sem.run_pure, Result.andThen_ok, List.map_toArray, List.map_cons, List.map_nil, q84]; exact congrArg (fun r => Result.andThen r _) hr_) ⟨⟨B5, c5_, by simp, hn_⟩, ⟨v5, h5.ext hx_, m5.ext hx_, fun hi => absurd hi (by omega), c5.trans (hx_.chg _), o5⟩, hx_.chg _⟩
            refine ⟨fun i => Rg.at_runW [5] rfl ?_, ?_⟩
            · intro ρ W hR ⟨q5, _⟩
              replace q5 : ρ 5 = .pointer (some ⟨gm, 0, none⟩) := q5
              refine ⟨rfl, ?_⟩
              exact Rg.run_ok (v := .pointer (some ⟨gm, 6, none⟩)) (by simp [execOp, Rg.ev, go_sem, q5]) ⟨rfl, hR, Chg.refl _ _⟩
            trivial
          case en =>
            intro tm W hR hsz hk
            rw [Rg.fin_eq (ds := [83, 84, 85, 86, 87, 88, 89, 90, 91, 92]) rfl rfl rfl hsz hk]
            have k83 : tm.getD 83 undef = .pointer (some ⟨gm, 6, none⟩) := hk 83
            have k84 : tm.getD 84 undef = .slice A l1.length c := hk 84
            have k85 : tm.getD 85 undef = .pointer (some ⟨g, 0, none⟩) := hk 85
            have k86 : tm.getD 86 undef = .int .u64 tq := hk 86
            have k87 : tm.getD 87 undef = .pointer (some ⟨g, 0, none⟩) := hk 87
            have k88 : (fun v W => ∃ (y : Option Addr) (cy : Nat), v = .slice y d.length cy ∧ Enc.BsX W (fun k => k < w0.heap.size ∨ (Value.slice A l1.length c).ownBlock = some k) v d) (tm.getD 88 undef) W := hk 88
            have k89 : (fun v W => ∃ y, v = .agg #[.int .u64 tq, y] ∧ Enc.BsX W (fun k => k < w0.heap.size ∨ (Value.slice A l1.length c).ownBlock = some k) y d) (tm.getD 89 undef) W := hk 89
            have k90 : (fun v W => Enc.Sl enE W (fun k => k < w0.heap.size ∨ (Value.slice A l1.length c).ownBlock = some k) v [(⟨tq, d⟩ : En)]) (tm.getD 90 undef) W := hk 90
            have k91 : (fun v W => ∃ (B5 : Option Addr) (c5 : Nat), v = .slice B5 (l1.length + 1) c5 ∧ Own 74 enE w0 W (fun k => k < w0.heap.size) v (l1 ++ [(⟨tq, d⟩ : En)])) (tm.getD 91 undef) W := hk 91
            have k92 : tm.getD 92 undef = .pointer (some ⟨gm, 6, none⟩) := hk 92
            clear hk hsz
            simp only [Rg.putAll, List.setIfInBounds_toArray, List.set_cons_zero, List.set_cons_succ, k83, k84, k85, k86, k87, k92]
            clear k83
            clear k84
            clear k85
            clear k86
            clear k87
            generalize tm.getD 88 undef = u88 at *
            generalize tm.getD 89 undef = u89 at *
            generalize tm.getD 90 undef = u90 at *
            generalize tm.getD 91 undef = u91 at *
            clear k92
            obtain ⟨v5, h5, m5, -, c5, o5⟩ := hR
            replace h5 : RdAt 82 W g v5 s4 := h5
            obtain ⟨B5, c5', rfl, hn⟩ := k91
            have q6 := (m5.cell 6).trans rfl
            have f6 := m5.frozen 6
            have hll : (l1 ++ [(⟨tq, d⟩ : En)]).length = l1.length + 1 := by simp
            obtain ⟨l2, hl2⟩ : ∃ l2, l1 ++ [(⟨tq, d⟩ : En)] = l2 := ⟨_, rfl⟩
            rw [hl2] at hn hll HR2
            have hzo : TZ w0 g gm v1 s4 ⟨k1, f, t, T 0, T 1, T 2, l2, T 3, T 4, ok, Sn0, Cm.zero, ⟨0, []⟩⟩ (.slice B5 (l1.length + 1) c5') (.slice none 0 0) (W.setCell ⟨gm, 6, none⟩ (.slice B5 (l1.length + 1) c5')) ∧ Own 74 enE w0 (W.setCell ⟨gm, 6, none⟩ (.slice B5 (l1.length + 1) c5')) (fun k => k < w0.heap.size) (.slice B5 (l1.length + 1) c5') l2 := hz.app (SB := []) h5 o5 hn c5 (by simp) (m5.setL 6 _) rfl (Enc.BsX.nil _ _)
            clear k89 k90 k88 hl2
            simp only [List.drop_succ_cons, List.drop_zero]
            go_wp2_with fail
            go_roundw
            case rel => exact ⟨k + 1, l2, B5, c5', s4, by have := HLT.out; omega, by go_num, by omega, HR2, by rw [hll]; exact hzo.1, by rw [hll]; exact hzo.2⟩
            case measure => have := HLT.out; simp [intOf]; omega
      | false =>
        have hcs : ¬ ((k : Int) < nn) ∨ ((k : Int) < nn ∧ (e2 == 0) = false) := by
          have h := of_decide_eq_false HBK.out
          by_cases hlt : (k : Int) < nn
          · refine .inr ⟨hlt, ?_⟩
            cases h2 : (e2 == 0) with
            | false => rfl
            | true => exact absurd ⟨by omega, by simpa using h2⟩ h
          · exact .inl hlt
        have hEX : l1 = l ∧ s2 = S 10 := by
          have h := of_decide_eq_false HBK.out
          have h9 := HR.out
          rw [HL.out] at h9
          have e3 : Cod.rep Cod.ent (nn - k) s2 = ([], s2) := by
            rcases Nat.eq_zero_or_pos (nn - k) with h0 | h0
            · rw [h0]; rfl
            · obtain ⟨j, hj⟩ : ∃ j, nn - k = j + 1 := ⟨nn - k - 1, by omega⟩
              rw [hj, Cod.rep, if_neg (by rw [HE2.out]; exact fun h2 => h ⟨by omega, h2⟩)]
          rw [e3] at h9
          have h10 := Prod.mk.inj h9
          exact ⟨by rw [h10.1]; simp, h10.2.symm⟩
        obtain ⟨rfl, hs2⟩ := hEX
        rw [hs2] at hz
        clear HR HBK HE2 hs2 hown
        rcases hcs with hlt | ⟨hlt, he⟩
        · go_wp2_with fail
          go_meet
          case rel => exact ⟨A, c, hz⟩
        · go_wp2_with fail
          go_meet
          case rel => exact ⟨A, c, hz⟩
  case rest =>
  obtain ⟨A, c, hz3⟩ := hcut
  clear hz
  generalize wc = W16 at *
  go_wp2_with fail
  refine (hz3.num 8 (by decide) HN7.out).mono ?_
  rintro e W17 ⟨rfl, hz⟩
  go_wp2_with fail
  refine (hz.num 8 (by decide) HN8.out).mono ?_
  rintro e W18 ⟨rfl, hz4⟩
  clear hz hz3
  go_wp2_with fail
  refine (hz4.bytes HC.out.h9).mono ?_
  rintro e W19 ⟨As, cs, rfl, hbs, hz, -⟩
  clear hz4
  have m10 := (hz.bm.cell 10).trans rfl
  have m11 := (hz.bm.cell 11).trans rfl
  have m12 := (hz.bm.cell 12).trans rfl
  have n10 := hz.bm.frozen 10
  have n11 := hz.bm.frozen 11
  have n12 := hz.bm.frozen 12
  go_upto_region 17 with fail
  have hc3 : Chg [gm] W19 (((W19.setCell ⟨gm, 10, none⟩ (.int .u64 ix)).setCell ⟨gm, 11, none⟩ (.int .u64 tm)).setCell ⟨gm, 12, none⟩ (.slice As st.length cs)) := (((Chg.refl _ _).set (by simp) _).set (by simp) _).set (by simp) _
  have hz5 : TZ w0 g gm v1 (S 13) ⟨k1, f, t, T 0, T 1, T 2, l, T 3, T 4, ok, ⟨ix, tm, st⟩, Cm.zero, ⟨0, []⟩⟩ (.slice A l.length c) (.slice As st.length cs) (((W19.setCell ⟨gm, 10, none⟩ (.int .u64 ix)).setCell ⟨gm, 11, none⟩ (.int .u64 tm)).setCell ⟨gm, 12, none⟩ (.slice As st.length cs)) := hz.re hc3 (((hz.bm.setL 10 _).setL 11 _).setL 12 _) (hz.en.chg hc3 (fun k hk _ => by rw [List.mem_singleton.1 hk]; exact hgml)) (hbs.chg hc3 (fun k hk _ => by rw [List.mem_singleton.1 hk]; exact hgml))
  generalize (((W19.setCell ⟨gm, 10, none⟩ (.int .u64 ix)).setCell ⟨gm, 11, none⟩ (.int .u64 tm)).setCell ⟨gm, 12, none⟩ (.slice As st.length cs)) = W20 at *
  clear m10 m11 m12 n10 n11 n12 hz hc3 hbs
  go_wp2_with fail
  have htl : tt.length ≤ 140737488350000 := by
    obtain ⟨v, hv, -⟩ := hz5.rd
    have h1 := hv.len
    have h2 := ptext_len' (S 13)
    rw [HPC.out] at h2
    simp only at h2
    omega
  refine (hz5.bytes HPC.out).mono ?_
  rintro e W21 ⟨Ac, ct, rfl, hbt, hz, -⟩
  clear hz5
  have c1 := hz.c1
  obtain ⟨e3, he3⟩ : ∃ e, yc.2 = e := ⟨_, rfl⟩
  rw [he3] at c1
  obtain ⟨⟨C0, E0⟩, hCE⟩ : ∃ r, ctake tt = r := ⟨_, rfl⟩
  have HTC := hide (fun (W : World) (h : Bs W (.slice Ac tt.length ct) tt) => rtakeCmd_b _ tt W htl h)
  rw [hCE] at HTC
  simp only at HTC
  have HCA : Hid (e3 = 0 → C0 = cc ∧ pform (decide (E0 ≠ 0)) yc = S 14) := hide (by have h := HC0'.out; rw [he3, hCE] at h; exact h)
  have HCB : Hid (e3 ≠ 0 → Cm.zero = cc ∧ yc = S 14) := hide (by have h := HC1'.out; rw [he3] at h; exact h)
  clear he3 hCE htl
  go_upto_if 107 with fail
  go_cut [] (fun wx => TZ w0 g gm v1 (S 14) ⟨k1, f, t, T 0, T 1, T 2, l, T 3, T 4, ok, ⟨ix, tm, st⟩, cc, ⟨0, []⟩⟩ (.slice A l.length c) (.slice As st.length cs) wx)
  case first =>
    rcases Bool.eq_false_or_eq_true (e3 == 0) with he | he
    · obtain ⟨hcc, hpf⟩ := HCA.out (by simpa using he)
      subst hcc
      have HPF := hide hpf
      clear hpf
      go_wp2_with fail
      refine (HTC.out W21 hbt.1).mono ?_
      rintro e W22 ⟨rfl, hx2⟩
      replace hz := hz.ext hx2
      have hxa := (Ext.rfl' W22).alloc' (.cells (ccells C0) 28)
      obtain ⟨g2, hg2⟩ : ∃ g2, W22.heap.size = g2 := ⟨_, rfl⟩
      have hB := Blk.new W22 28 (ccells C0)
      rw [hg2] at hB
      have hg2g : g < g2 := by have := hz.ch.size; omega
      have hg2m : gm < g2 := by have := hz.ch.size; omega
      clear c1
      go_upto_region 20 with fail
      change Code.wp _ _ _ _ (W22.alloc (.cells (ccells C0) 28))
      try rw [hg2]
      replace hz := hz.ext hxa
      clear hxa hg2
      generalize W22.alloc _ = W23 at *
      rcases Bool.eq_false_or_eq_true (E0 != 0) with hE | hE
      · go_wp2_with fail
        refine hz.fail2.mono ?_
        rintro e W24 ⟨rfl, hz6, hc6⟩
        rw [form_yes HPF.out (by simpa using hE)] at hz6
        have hB6 := hB.chg hc6 (by simp; omega)
        clear hz hB hc6
        have b0_ : W24.cell? ⟨g2, 0, none⟩ = some (.int .i64 C0.kind) := (hB6.cell 0).trans rfl
        have x0_ : W24.cell? ⟨gm, 13, none⟩ = some (.int .i64 0) := (hz6.bm.cell 13).trans rfl
        have z0_ := hz6.bm.frozen 13
        have b1_ : W24.cell? ⟨g2, 1, none⟩ = some (.int .i64 C0.client) := (hB6.cell 1).trans rfl
        have x1_ : W24.cell? ⟨gm, 14, none⟩ = some (.int .i64 0) := (hz6.bm.cell 14).trans rfl
        have z1_ := hz6.bm.frozen 14
        have b2_ : W24.cell? ⟨g2, 2, none⟩ = some (.int .u64 C0.seq) := (hB6.cell 2).trans rfl
        have x2_ : W24.cell? ⟨gm, 15, none⟩ = some (.int .u64 0) := (hz6.bm.cell 15).trans rfl
        have z2_ := hz6.bm.frozen 15
        have b3_ : W24.cell? ⟨g2, 3, none⟩ = some (str C0.name) := (hB6.cell 3).trans rfl
        have x3_ : W24.cell? ⟨gm, 16, none⟩ = some (str []) := (hz6.bm.cell 16).trans rfl
        have z3_ := hz6.bm.frozen 16
        have b4_ : W24.cell? ⟨g2, 4, none⟩ = some (str C0.url) := (hB6.cell 4).trans rfl
        have x4_ : W24.cell? ⟨gm, 17, none⟩ = some (str []) := (hz6.bm.cell 17).trans rfl
        have z4_ := hz6.bm.frozen 17
        have b5_ : W24.cell? ⟨g2, 5, none⟩ = some (.int .u64 C0.till) := (hB6.cell 5).trans rfl
        have x5_ : W24.cell? ⟨gm, 18, none⟩ = some (.int .u64 0) := (hz6.bm.cell 18).trans rfl
        have z5_ := hz6.bm.frozen 18
        go_wp2_with fail
        go_meet
        case rel => exact hz6.keep (((((((Chg.refl _ _).set (by simp) (.int .i64 C0.kind)).set (by simp) (.int .i64 C0.client)).set (by simp) (.int .u64 C0.seq)).set (by simp) (str C0.name)).set (by simp) (str C0.url)).set (by simp) (.int .u64 C0.till)) ((((((hz6.bm.setL 13 (.int .i64 C0.kind)).setL 14 (.int .i64 C0.client)).setL 15 (.int .u64 C0.seq)).setL 16 (str C0.name)).setL 17 (str C0.url)).setL 18 (.int .u64 C0.till)) rfl rfl
      · rw [form_no HPF.out (by simpa using hE)] at hz
        have b0_ : W23.cell? ⟨g2, 0, none⟩ = some (.int .i64 C0.kind) := (hB.cell 0).trans rfl
        have x0_ : W23.cell? ⟨gm, 13, none⟩ = some (.int .i64 0) := (hz.bm.cell 13).trans rfl
        have z0_ := hz.bm.frozen 13
        have b1_ : W23.cell? ⟨g2, 1, none⟩ = some (.int .i64 C0.client) := (hB.cell 1).trans rfl
        have x1_ : W23.cell? ⟨gm, 14, none⟩ = some (.int .i64 0) := (hz.bm.cell 14).trans rfl
        have z1_ := hz.bm.frozen 14
        have b2_ : W23.cell? ⟨g2, 2, none⟩ = some (.int .u64 C0.seq) := (hB.cell 2).trans rfl
        have x2_ : W23.cell? ⟨gm, 15, none⟩ = some (.int .u64 0) := (hz.bm.cell 15).trans rfl
        have z2_ := hz.bm.frozen 15
        have b3_ : W23.cell? ⟨g2, 3, none⟩ = some (str C0.name) := (hB.cell 3).trans rfl
        have x3_ : W23.cell? ⟨gm, 16, none⟩ = some (str []) := (hz.bm.cell 16).trans rfl
        have z3_ := hz.bm.frozen 16
        have b4_ : W23.cell? ⟨g2, 4, none⟩ = some (str C0.url) := (hB.cell 4).trans rfl
        have x4_ : W23.cell? ⟨gm, 17, none⟩ = some (str []) := (hz.bm.cell 17).trans rfl
        have z4_ := hz.bm.frozen 17
        have b5_ : W23.cell? ⟨g2, 5, none⟩ = some (.int .u64 C0.till) := (hB.cell 5).trans rfl
        have x5_ : W23.cell? ⟨gm, 18, none⟩ = some (.int .u64 0) := (hz.bm.cell 18).trans rfl
        have z5_ := hz.bm.frozen 18
        go_wp2_with fail
        go_meet
        case rel => exact hz.keep (((((((Chg.refl _ _).set (by simp) (.int .i64 C0.kind)).set (by simp) (.int .i64 C0.client)).set (by simp) (.int .u64 C0.seq)).set (by simp) (str C0.name)).set (by simp) (str C0.url)).set (by simp) (.int .u64 C0.till)) ((((((hz.bm.setL 13 (.int .i64 C0.kind)).setL 14 (.int .i64 C0.client)).setL 15 (.int .u64 C0.seq)).setL 16 (str C0.name)).setL 17 (str C0.url)).setL 18 (.int .u64 C0.till)) rfl rfl
    · obtain ⟨hcz, hS⟩ := HCB.out (by simpa using he)
      subst hcz
      rw [hS] at hz
      go_wp2_with fail
      go_meet
      case rel => exact hz
  case rest =>
  replace hz := hcut
  clear hcut c1 HTC HCA HCB hbt
  generalize wc = W25 at *
  go_wp2_with fail
  refine (hz.num 1 (by decide) HPE.out).mono ?_
  rintro e W26 ⟨rfl, hz6⟩
  have m19 := (hz6.bm.cell 19).trans rfl
  have n19 := hz6.bm.frozen 19
  go_upto_region 24 with fail
  have hz7 : TZ w0 g gm v1 ye ⟨k1, f, t, T 0, T 1, T 2, l, T 3, T 4, ok, ⟨ix, tm, st⟩, cc, ⟨er, []⟩⟩ (.slice A l.length c) (.slice As st.length cs) (W26.setCell ⟨gm, 19, none⟩ (.int .i64 er)) := hz6.keep ((Chg.refl _ _).set (by simp) _) (hz6.bm.setL 19 _) rfl rfl
  generalize (W26.setCell ⟨gm, 19, none⟩ (.int .i64 er)) = W27 at *
  clear m19 n19 hz hz6
  have m19 : W27.cell? ⟨gm, 19, none⟩ = some (.int .i64 er) := (hz7.bm.cell 19).trans rfl
  go_upto_if 127 with fail
  go_cut [] (fun wx => TZ w0 g gm v1 (S 15) ⟨k1, f, t, T 0, T 1, T 2, l, T 3, T 4, ok, ⟨ix, tm, st⟩, cc, ⟨er, []⟩⟩ (.slice A l.length c) (.slice As st.length cs) wx)
  case first =>
    by_cases hd : 16 < er
    · go_wp2_with fail
      refine hz7.fail.mono ?_
      rintro e W28 ⟨rfl, h2⟩
      rw [form_yes HFE.out (decide_eq_true (.inr hd))] at h2
      go_wp2_with fail
      go_meet
      case rel => exact h2
    · rw [form_no HFE.out (decide_eq_false fun h => by omega)] at hz7
      go_wp2_with fail
      go_meet
      case rel => exact hz7
  case rest =>
  replace hz := hcut
  clear hcut m19 hz7
  generalize wc = W28 at *
  go_wp2_with fail
  refine (hz.bytes HC.out.h12).mono ?_
  rintro e W29 ⟨Ax, cx, rfl, hbx, hz8, -⟩
  have hst := run_str (P := Try.prog) hbx.1 Try.underlying24 Try.underlying5 Try.underlying9
  have m20 := (hz8.bm.cell 20).trans rfl
  have n20 := hz8.bm.frozen 20
  go_upto_region 27 with fail
  have hz9 : TZ w0 g gm v1 (S 16) ⟨k1, f, t, T 0, T 1, T 2, l, T 3, T 4, ok, ⟨ix, tm, st⟩, cc, ⟨er, tx⟩⟩ (.slice A l.length c) (.slice As st.length cs) (W29.setCell ⟨gm, 20, none⟩ (str tx)) := hz8.keep ((Chg.refl _ _).set (by simp) _) (hz8.bm.setL 20 _) rfl rfl
  generalize (W29.setCell ⟨gm, 20, none⟩ (str tx)) = W30 at *
  clear hst m20 n20 hbx hz hz8
  obtain ⟨⟨fb, fe⟩, hF⟩ : ∃ r, pform (decide (0 < (S 16).1.length)) (S 16) = r := ⟨_, rfl⟩
  have HMT : Hid (mtake b = if fe = 0 then (⟨k1, f, t, T 0, T 1, T 2, l, T 3, T 4, ok, ⟨ix, tm, st⟩, cc, ⟨er, tx⟩⟩, 0) else (Mg0, fe)) := hide (by
    have e : msgC.all (b, 0) = (⟨k1, f, t, T 0, T 1, T 2, l, T 3, T 4, ok, ⟨ix, tm, st⟩, cc, ⟨er, tx⟩⟩, (fb, fe)) := by
      unfold Cod.all
      rw [HC.out.h13]
      simp only
      rw [hF]
    unfold mtake
    rw [e])
  have HOV := hide hz9.over
  rw [hF] at HOV
  simp only at HOV
  clear hF
  go_wp2_with fail
  refine HOV.out.mono ?_
  rintro e W31 ⟨rfl, hz10⟩
  have hR31 := hR.chg hz10.ch (by simp; omega)
  have hxw31 : Ext w W31 := hxw0.then_ hz10.ch (fun k hk => by
    simp only [List.mem_cons, List.not_mem_nil, or_false] at hk
    omega)
  have c1 := hz10.c1
  simp only at c1
  have hgr0 : gr < w0.heap.size := by omega
  have Q : ∀ (W2 : World), Chg [gr] W31 W2 → Enc.Sl enE W2 noneAt (.slice A l.length c) l ∧ Bs W2 (.slice As st.length cs) st ∧ Ext w W2 := by
    intro W2 hc
    exact ⟨(hz10.en.chg hc fun k hk _ => by rw [List.mem_singleton.1 hk]; exact hgr0).mono fun _ _ h => h.elim, (hz10.st.chg hc fun k hk _ => by rw [List.mem_singleton.1 hk]; exact hgr0).1, hxw31.then_ hc (fun k hk => by rw [List.mem_singleton.1 hk]; omega)⟩
  clear HOV hz9
  rcases Bool.eq_false_or_eq_true (fe != 0) with he | he
  · have HQ : Hid (mtake b = (Mg0, fe)) := hide (by rw [HMT.out, if_neg (by simpa using he)])
    have hgl31 : g < W31.heap.size := by have := hz10.ch.size; omega
    have hggr : ¬ g = gr := by omega
    go_upto_region 28 with fail
    refine Rg.regionW Try.checked.mixed 144 7 (by kernel_rfl) [
      (false, (fun x_ _ => x_ = .agg (mgcells Mg0 (.slice none 0 0) (.slice none 0 0)).toArray)),
      (false, (fun x_ _ => x_ = .pointer (some ⟨g, 0, none⟩))),
      (false, (fun x_ _ => x_ = .pointer (some ⟨g, 0, none⟩))),
      (false, (fun x_ _ => x_ = .pointer (some ⟨g, 1, none⟩))),
      (false, (fun x_ _ => x_ = .int .i64 fe)),
      (true, (fun x_ _ => x_ = undef)),
      (false, (fun x_ _ => x_ = .int .i64 fe))] (by kernel_rfl) ((fun _ W => Chg [gr] W31 W ∧ Blk W gr 33 (mgcells Mg0 (.slice none 0 0) (.slice none 0 0)).toArray)) (fun W W2 => Chg [gr] W W2) rfl rfl rfl
      ?st ⟨(Chg.refl [gr] W31).drew, hR31.drew⟩ ?ob ?en
    case st => exact ⟨fun _ _ _ h _ => h, fun _ _ _ h _ => h, fun _ _ _ h _ => h, fun _ _ _ h _ => h, fun _ _ _ h _ => h, fun _ _ _ h _ => h, fun _ _ _ h _ => h, trivial⟩
    case ob =>
      refine ⟨fun i => Rg.at_runW [] rfl ?_, ?_⟩
      · intro ρ W hR _
        refine ⟨rfl, ?_⟩
        exact Rg.run_ok (v := .agg (mgcells Mg0 (.slice none 0 0) (.slice none 0 0)).toArray) (by simp [execOp, Rg.ev, go_sem]; repeat' constructor) ⟨rfl, hR, Chg.refl _ _⟩
      refine ⟨fun i => Rg.at_runW [4] rfl ?_, ?_⟩
      · intro ρ W hR ⟨q4, _⟩
        replace q4 : ρ 4 = .pointer (some ⟨g, 0, none⟩) := q4
        refine ⟨rfl, ?_⟩
        exact Rg.run_ok (v := .pointer (some ⟨g, 0, none⟩)) (by simp [execOp, Rg.ev, go_sem, q4]) ⟨rfl, hR, Chg.refl _ _⟩
      refine ⟨fun i => Rg.at_runW [139] rfl ?_, ?_⟩
      · intro ρ W hR ⟨q139, _⟩
        replace q139 : ρ 139 = .pointer (some ⟨g, 0, none⟩) := q139
        refine ⟨rfl, ?_⟩
        exact Rg.run_ok (v := .pointer (some ⟨g, 0, none⟩)) (by simp [execOp, Rg.ev, go_sem, q139]) ⟨rfl, hR, Chg.refl _ _⟩
      refine ⟨fun i => Rg.at_runW [140] rfl ?_, ?_⟩
      · intro ρ W hR ⟨q140, _⟩
        replace q140 : ρ 140 = .pointer (some ⟨g, 0, none⟩) := q140
        refine ⟨rfl, ?_⟩
        exact Rg.run_ok (v := .pointer (some ⟨g, 1, none⟩)) (by simp [execOp, Rg.ev, go_sem, q140]) ⟨rfl, hR, Chg.refl _ _⟩
      refine ⟨fun i => Rg.at_runW [141] rfl ?_, ?_⟩
      · intro ρ W hR ⟨q141, _⟩
        replace q141 : ρ 141 = .pointer (some ⟨g, 1, none⟩) := q141
        refine ⟨rfl, ?_⟩
        have c_ : W.cell? ⟨g, 1, none⟩ = some (.int .i64 fe) := (hR.1.cell hgl31 (by simpa using hggr)).trans c1
        exact Rg.run_ok (v := .int .i64 fe) (by simp [execOp, Rg.ev, go_sem, q141, c_]) ⟨rfl, hR, Chg.refl _ _⟩
      refine ⟨Rg.at_runW [2, 138] rfl ?_, ?_⟩
      · intro ρ W hR ⟨q2, q138, _⟩
        replace q2 : ρ 2 = .pointer (some ⟨gr, 0, none⟩) := q2
        replace q138 : ρ 138 = .agg (mgcells Mg0 (.slice none 0 0) (.slice none 0 0)).toArray := q138
        refine ⟨rfl, ?_⟩
        refine Rg.run_skip (W' := W.setRow gr (mgcells Mg0 (.slice none 0 0) (.slice none 0 0)).toArray) ?_ ⟨rfl, ⟨hR.1.row (by simp) _, hR.2.row _⟩, (Chg.refl _ _).row (by simp) _⟩
        simp only [execOp, Rg.ev, q2, q138, Instr.storeAt, Instr.sureAddr, Sem.run_bind, Sem.run_pure, Result.andThen_ok, run_storeVar_row (P := Try.prog) W gr 33 33 _ (mgcells Mg0 (.slice none 0 0) (.slice none 0 0)).toArray hR.2 (by kernel_rfl) rfl (mg_one _ _ _ _ _ _ _)]
      refine ⟨fun i => Rg.at_runW [142] rfl ?_, ?_⟩
      · intro ρ W hR ⟨q142, _⟩
        replace q142 : ρ 142 = .int .i64 fe := q142
        refine ⟨rfl, ?_⟩
        exact Rg.run_ok (v := .int .i64 fe) (by simp [execOp, Rg.ev, go_sem, q142]) ⟨rfl, hR, Chg.refl _ _⟩
      trivial
    case en =>
      intro tm W hR hsz hk
      rw [Rg.fin_eq (ds := [138, 139, 140, 141, 142, 3]) rfl rfl rfl hsz hk]
      have k3 : tm.getD 3 undef = .int .i64 fe := hk 3
      have k138 : tm.getD 138 undef = .agg (mgcells Mg0 (.slice none 0 0) (.slice none 0 0)).toArray := hk 138
      have k139 : tm.getD 139 undef = .pointer (some ⟨g, 0, none⟩) := hk 139
      have k140 : tm.getD 140 undef = .pointer (some ⟨g, 0, none⟩) := hk 140
      have k141 : tm.getD 141 undef = .pointer (some ⟨g, 1, none⟩) := hk 141
      have k142 : tm.getD 142 undef = .int .i64 fe := hk 142
      clear hk hsz
      simp only [Rg.putAll, List.setIfInBounds_toArray, List.set_cons_zero, List.set_cons_succ, k3, k138, k139, k140, k141, k142]
      clear k3
      clear k138
      clear k139
      clear k140
      clear k141
      clear k142
      refine Rg.nil_list ?_
      obtain ⟨hc2, b2⟩ := hR
      go_wp2
      try simp only [Exit.inBlock, Exit.then]
      refine bodyPost_ret (results_cell2 rfl _ _ gr 33 (mgcells Mg0 (.slice none 0 0) (.slice none 0 0)).toArray (0, 0) _ rfl b2 Try.underlying33 rfl (by kernel_rfl)) rfl ?_
      rw [HQ.out]
      exact ⟨_, _, rfl, Enc.Sl.nil _ _ _, Bs.nil _, (Q _ hc2).2.2⟩
  · have HQ : Hid (mtake b = (⟨k1, f, t, T 0, T 1, T 2, l, T 3, T 4, ok, ⟨ix, tm, st⟩, cc, ⟨er, tx⟩⟩, 0)) := hide (by rw [HMT.out, if_pos (by simpa using he)])
    have hbm := hz10.bm
    go_wp2_with (first | refine ld_row rfl 33 _ rfl gm rfl 33 _ _ hbm Try.underlying33 rfl (by kernel_rfl) ?_ | refine wpList_store_row rfl 33 _ _ rfl gr (mgcells ⟨k1, f, t, T 0, T 1, T 2, l, T 3, T 4, ok, ⟨ix, tm, st⟩, cc, ⟨er, tx⟩⟩ (.slice A l.length c) (.slice As st.length cs)).toArray rfl rfl 33 _ hR31 (by kernel_rfl) (by simp) (mg_one _ _ _ _ _ _ _) ?_)
    try simp only [Exit.inBlock, Exit.then]
    refine bodyPost_ret (results_cell2 rfl _ _ gr 33 (mgcells ⟨k1, f, t, T 0, T 1, T 2, l, T 3, T 4, ok, ⟨ix, tm, st⟩, cc, ⟨er, tx⟩⟩ (.slice A l.length c) (.slice As st.length cs)).toArray (0, 0) _ rfl (hR31.row _) Try.underlying33 rfl (by kernel_rfl)) rfl ?_
    rw [HQ.out]
    exact ⟨.slice A l.length c, .slice As st.length cs, rfl, Q _ ((Chg.refl [gr] W31).row (by simp) _)⟩
end Go.Proofs.Ytlblgopfdadalaa
