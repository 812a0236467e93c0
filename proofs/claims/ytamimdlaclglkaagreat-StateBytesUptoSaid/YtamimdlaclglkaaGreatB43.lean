/- A part of the proof of 'StateBytes'. -/
import Derived.Test.YtamimdlaclglkaaGreatB42
import Derived.Test.YtamimdlaclglkaaGreatB28
namespace Go.Proofs.YtamimdlaclglkaaGreat
set_option linter.unusedVariables false
set_option linter.unusedSimpArgs false
set_option linter.unnecessarySimpa false
set_option maxRecDepth 100000
open Go.RowKit
theorem Own.chgD {S : List Nat} {w0 w w' : World} {X : Avoid} {v : Value} {l : List Dn} (h : Own 68 dnE w0 w X v l) (hc : Chg S w w') (hn : ∀ k, v.ownBlock = some k → k ∉ S) : Own 68 dnE w0 w' X v l := by
  obtain ⟨css, h1, h2, h3⟩ := h
  exact ⟨css, own_chg h1 hc hn, ⟨h2.1, fun k cs a ha hb => dn_rep.2 (dn_rep.1 (h2.2 k cs a ha hb))⟩, h3⟩
theorem Own.flatR {w w' : World} {X : Avoid} {v : Value} {l : List Dn} (h : Own 68 dnE w w' noneAt v l) (hX : ∀ j, X j → j < w.heap.size) : Own 68 dnE w w' X v l := by
  obtain ⟨css, h1, h2, h3⟩ := h
  exact ⟨css, h1, ⟨h2.1, fun k cs a ha hb => dn_rep.2 (dn_rep.1 (h2.2 k cs a ha hb))⟩, fun k hk hx => by have := (h1.lt k hk).1; have := hX k hx; omega⟩
set_option maxHeartbeats 6400000 in
theorem rtsess_b (g : Nat) (v : Value) (s : Rdr) (w : World) (h : RdAt 82 w g v s) :
    Calls Tryz.prog 46 #[.pointer (some ⟨g, 0, none⟩)] w fun e w' => ∃ (l : List Se) (A : Option Addr) (c : Nat), Hid (l = (ptimes psess (pnum 2 s).1.toNat (pnum 2 s).2).1) ∧ e = .returned (.slice A l.length c) ∧ Own 56 seE w w' (fun j => j = g) (.slice A l.length c) l ∧
      RdTo 82 w w' g v (ptimes psess (pnum 2 s).1.toNat (pnum 2 s).2).2 := by
  obtain ⟨⟨n, s0⟩, hn⟩ : ∃ r, pnum 2 s = r := ⟨_, rfl⟩
  have hnr := pnum_u16 s
  have C0 := hide (fun (W : World) (h : RdAt 82 W g v s) => rnum_b 82 g v s 2 W h (by decide))
  rw [hn] at hnr C0 ⊢
  simp only at hnr C0 ⊢
  clear hn
  obtain ⟨N, rfl⟩ := Int.eq_ofNat_of_zero_le hnr.1
  have hN : N ≤ 65535 := by omega
  have hwn : IntKind.i64.wrap (N : Int) = N := IntWalk.i64_in _ ⟨by omega, by omega⟩
  rw [Int.toNat_natCast]
  obtain ⟨F, hF⟩ : ∃ F, titer (fun y : List Se × Rdr => y.2.2) (padd psess) N ([], s0) = F := ⟨_, rfl⟩
  have HF : Hid (F = ((ptimes psess N s0).1, (ptimes psess N s0).2)) := hide (by
    rw [← hF]
    have := titer_list psess N [] s0
    rw [List.nil_append] at this
    exact this)
  have HF0 := hide hF
  clear hF
  have hgw : g < w.heap.size := h.blk.lt
  go_enter Tryz.func46, Tryz.ntmps46
  go_wp2_with fail
  refine (C0.out w h).mono ?_
  rintro e w1 ⟨rfl, v0, h0, x0, o0⟩
  go_wp2_with fail
  go_loopw [3, 5] (fun vo vi wr => ∃ (k : Nat) (l : List Se) (A : Option Addr) (c : Nat) (s1 : Rdr) (v1 : Value), k ≤ N ∧ l.length ≤ k ∧ vo = .slice A l.length c ∧ vi = .int .i64 k ∧ Hid (titer (fun y : List Se × Rdr => y.2.2) (padd psess) (N - k) (l, s1) = F) ∧ RdAt 82 wr g v1 s1 ∧ Chg [g] w wr ∧ (∀ S, Off v S → Off v1 S) ∧ Own 56 seE w wr (fun j => j = g) (.slice A l.length c) l) (fun _ vi _ => (N - intOf vi).toNat)
  case atStart => exact ⟨0, [], none, 0, s0, v0, by omega, by simp, rfl, rfl, hide (by simpa using HF0.out), h0, x0, o0, Own.nil _ _ _ _ _⟩
  case round =>
    clear h0 x0 o0
    obtain ⟨k, l, A, c, s1, v1, hkN, hlk, rfl, rfl, HT, h1, x1, o1, hown⟩ := hrel
    have e1 := (h1.blk.cell 1).trans rfl
    by_cases hlt : (k : Int) < N
    · rcases Bool.eq_false_or_eq_true (s1.2 == 0) with he | he
      · have HE : Hid (s1.2 = 0) := hide (by simpa using he)
        obtain ⟨⟨a, s2⟩, hp1⟩ : ∃ r, pnum 1 s1 = r := ⟨_, rfl⟩
        obtain ⟨⟨hi, s3⟩, hp2⟩ : ∃ r, pnum 8 s2 = r := ⟨_, rfl⟩
        obtain ⟨⟨m, s4⟩, hp3⟩ : ∃ r, pnum 1 s3 = r := ⟨_, rfl⟩
        have haa := pnum_u8 s1
        have hhi := pnum_u64 s2
        have hmm := pnum_u8 s3
        have C1 := hide (fun (W : World) v (h : RdAt 82 W g v s1) => rnum_b 82 g v s1 1 W h (by decide))
        have C2 := hide (fun (W : World) v (h : RdAt 82 W g v s2) => rnum_b 82 g v s2 8 W h (by decide))
        have C3 := hide (fun (W : World) v (h : RdAt 82 W g v s3) => rnum_b 82 g v s3 1 W h (by decide))
        rw [hp1] at haa C1
        rw [hp2] at hhi C2
        rw [hp3] at hmm C3
        simp only at haa hhi hmm C1 C2 C3
        obtain ⟨M, rfl⟩ := Int.eq_ofNat_of_zero_le hmm.1
        obtain ⟨⟨dls, s5⟩, hp4⟩ : ∃ r, ptimes pdone M s4 = r := ⟨_, rfl⟩
        have HP : Hid (psess s1 = (⟨a, hi, dls⟩, s5)) := hide (by unfold psess; simp only [hp1, hp2, hp3, Int.toNat_natCast, hp4])
        have HT2 : Hid (titer (fun y : List Se × Rdr => y.2.2) (padd psess) (N - (k + 1)) (l ++ [⟨a, hi, dls⟩], s5) = F) := hide (by
          have h9 := HT.out
          rw [show N - k = (N - (k + 1)) + 1 by omega, titer_step (by exact HE.out)] at h9
          rw [← h9]
          unfold padd
          rw [HP.out])
        have HFD : Hid (titer (fun y : List Dn × Rdr => y.2.2) (padd pdone) M ([], s4) = (dls, s5)) := hide (by
          have := titer_list pdone M [] s4
          rw [List.nil_append, hp4] at this
          exact this)
        have hwa : IntKind.i64.wrap a = a := IntWalk.i64_in _ ⟨by omega, by omega⟩
        have hwm : IntKind.i64.wrap (M : Int) = M := IntWalk.i64_in _ ⟨by omega, by omega⟩
        have HLT := hide hlt
        clear hp1 hp2 hp3 hp4 HP
        go_wp2_with fail
        refine (C1.out wr v1 h1).mono ?_
        rintro e W1 ⟨rfl, v2, h2, x2, o2⟩
        go_wp2_with fail
        refine (C2.out W1 v2 h2).mono ?_
        rintro e W2 ⟨rfl, v3, h3, x3, o3⟩
        obtain ⟨gx, hgx⟩ : ∃ g_, W2.heap.size = g_ := ⟨_, rfl⟩
        have hX := Blk.new W2 56 #[.int .i64 a, .int .u64 hi, .slice none 0 0]
        rw [hgx] at hX
        have hz : Ext W2 (W2.alloc (.cells #[.int .i64 a, .int .u64 hi, .slice none 0 0] 56)) := (Ext.rfl' _).alloc' _
        go_upto_region 7 with fail
        try rw [hgx]
        have hgg : g < gx := by rw [← hgx]; exact h3.blk.lt
        have hgxr : wr.heap.size ≤ gx := by rw [← hgx]; exact (x2.trans x3).size
        clear hgx
        generalize (W2.alloc (.cells #[.int .i64 a, .int .u64 hi, .slice none 0 0] 56)) = W3 at *
        clear e1
        go_wp2_with fail
        refine (C3.out W3 v3 (h3.ext hz)).mono ?_
        rintro e W4 ⟨rfl, v4, h4, x4, o4⟩
        have hX4 := hX.chg x4 (by simp; omega)
        have xr4 : Chg [g] wr W4 := ((x2.trans x3).trans (hz.chg _)).trans x4
        have or4 : ∀ S, Off v S → Off v4 S := fun S hS => o4 _ (o3 _ (o2 _ (o1 _ hS)))
        clear hX hz x2 x3 x4 o2 o3 o4 h2 h3
        go_wp2_with fail
        generalize wr = W0 at *
        go_loopw [8] (fun vi wq => ∃ (q : Nat) (dl : List Dn) (Ad : Option Addr) (cd : Nat) (s6 : Rdr) (v6 : Value), q ≤ M ∧ dl.length ≤ q ∧ vi = .int .i64 q ∧ Hid (titer (fun y : List Dn × Rdr => y.2.2) (padd pdone) (M - q) (dl, s6) = (dls, s5)) ∧ RdAt 82 wq g v6 s6 ∧ Blk wq gx 56 #[.int .i64 a, .int .u64 hi, .slice Ad dl.length cd] ∧ Own 68 dnE W4 wq noneAt (.slice Ad dl.length cd) dl ∧ Chg [g, gx] W4 wq ∧ (∀ S, Off v S → Off v6 S)) (fun vi _ => (M - intOf vi).toNat)
        case atStart => exact ⟨0, [], none, 0, s4, v4, by omega, by simp, rfl, hide (by simpa using HFD.out), h4, hX4, Own.nil _ _ _ _ _, Chg.refl _ _, or4⟩
        case round =>
          clear h4 hX4 or4
          obtain ⟨q, dl, Ad, cd, s6, v6, hqM, hdq, rfl, HTD, h6, hX6, hownD, x6, o6⟩ := hrel
          have e1 := (h6.blk.cell 1).trans rfl
          by_cases hlq : (q : Int) < M
          · rcases Bool.eq_false_or_eq_true (s6.2 == 0) with he6 | he6
            · have HE6 : Hid (s6.2 = 0) := hide (by simpa using he6)
              obtain ⟨⟨dq, s7⟩, hp1⟩ : ∃ r, pnum 8 s6 = r := ⟨_, rfl⟩
              obtain ⟨⟨de, s8⟩, hp2⟩ : ∃ r, pnum 1 s7 = r := ⟨_, rfl⟩
              obtain ⟨s9, hp3⟩ : ∃ r, pform (decide (16 < de)) s8 = r := ⟨_, rfl⟩
              obtain ⟨⟨dt, s10⟩, hp4⟩ : ∃ r, ptext s9 = r := ⟨_, rfl⟩
              have HP : Hid (pdone s6 = (⟨dq, ⟨de, dt⟩⟩, s10)) := hide (by unfold pdone; simp only [hp1, hp2, hp3, hp4])
              have HTD2 : Hid (titer (fun y : List Dn × Rdr => y.2.2) (padd pdone) (M - (q + 1)) (dl ++ [⟨dq, ⟨de, dt⟩⟩], s10) = (dls, s5)) := hide (by
                have h9 := HTD.out
                rw [show M - q = (M - (q + 1)) + 1 by omega, titer_step (by exact HE6.out)] at h9
                rw [← h9]
                unfold padd
                rw [HP.out])
              have hdq1 := pnum_u64 s6
              have hde1 := pnum_u8 s7
              have hdt1 := (ptext_le s9).1
              have D1 := hide (fun (W : World) v (h : RdAt 82 W g v s6) => rnum_b 82 g v s6 8 W h (by decide))
              have D2 := hide (fun (W : World) v (h : RdAt 82 W g v s7) => rnum_b 82 g v s7 1 W h (by decide))
              have D3 := hide (fun (W : World) v (h : RdAt 82 W g v s8) => rfail_b 82 g v s8 W h)
              have D4 := hide (fun (W : World) v (h : RdAt 82 W g v s9) => rbytes_b 82 g v s9 W h)
              rw [hp1] at hdq1 D1
              rw [hp2] at hde1 D2
              rw [hp4] at hdt1 D4
              simp only at hdq1 hde1 hdt1 D1 D2 D4
              have hwe : IntKind.i64.wrap de = de := IntWalk.i64_in _ ⟨by omega, by omega⟩
              have HP3 := hide hp3
              have HLQ := hide hlq
              clear hp1 hp2 hp3 hp4 HP
              go_wp2_with fail
              refine (D1.out wr v6 h6).mono ?_
              rintro e V1 ⟨rfl, v7, h7, y1, p1⟩
              obtain ⟨b, hb⟩ : ∃ g_, V1.heap.size = g_ := ⟨_, rfl⟩
              have hBd := Blk.new V1 68 #[.int .u64 dq, .int .i64 0, str []]
              rw [hb] at hBd
              have hz : Ext V1 (V1.alloc (.cells #[.int .u64 dq, .int .i64 0, str []] 68)) := (Ext.rfl' _).alloc' _
              have hxb : gx < b := by rw [← hb]; exact Nat.lt_of_lt_of_le hX6.lt y1.size
              have hbr : wr.heap.size ≤ b := by rw [← hb]; exact y1.size
              go_upto_region 12 with fail
              try rw [hb]
              clear hb e1
              generalize (V1.alloc (.cells #[.int .u64 dq, .int .i64 0, str []] 68)) = V2 at *
              go_wp2_with fail
              refine (D2.out V2 v7 (h7.ext hz)).mono ?_
              rintro e V3 ⟨rfl, v8, h8, y2, p2⟩
              have hB3 := hBd.chg y2 (by simp; omega)
              have hq1 := (hB3.cell 1).trans rfl
              have fq1 := hB3.frozen 1
              have hc1 : Chg [b] V3 (V3.setCell ⟨b, 1, none⟩ (.int .i64 de)) := (Chg.refl _ _).set (by simp) _
              go_upto_region 13 with fail
              have hB4 : Blk (V3.setCell ⟨b, 1, none⟩ (.int .i64 de)) b 68 #[.int .u64 dq, .int .i64 de, str []] := hB3.set_ 1 _
              have p8 : ∀ S, Off v S → Off v8 S := fun S hS => p2 _ (p1 _ (o6 _ hS))
              have hWw : w.heap.size ≤ wr.heap.size := ((x1.trans xr4).mono (T := [g, gx]) (by simp) |>.trans x6).size
              have hbw : w.heap.size ≤ b := by have := x1.size; omega
              have hvn : ∀ S, (∀ k, k ∈ S → w.heap.size ≤ k) → Off v S := fun S hS => h.bs.off_new hS
              have h8' := h8.chg hc1 (by simp; omega) (p8 _ (hvn _ (fun k hk => by rw [List.mem_singleton.1 hk]; omega)))
              have y5 : Chg [g, b] V2 (V3.setCell ⟨b, 1, none⟩ (.int .i64 de)) := (y2.mono (by simp)).trans (hc1.mono (by simp))
              have y6 : Chg [g, b] wr (V3.setCell ⟨b, 1, none⟩ (.int .i64 de)) := ((y1.mono (T := [g, b]) (by simp)).trans (hz.chg _)).trans y5
              generalize (V3.setCell ⟨b, 1, none⟩ (.int .i64 de)) = V4 at *
              clear hq1 fq1 hc1 y1 y2 y5 p1 p2 hz hBd hB3 h7 h8
              have hq1 := (hB4.cell 1).trans rfl
              go_upto_if 57 with fail
              go_cut [] (fun wx => ∃ v9, RdAt 82 wx g v9 s9 ∧ Blk wx b 68 #[.int .u64 dq, .int .i64 de, str []] ∧ Chg [g, b] wr wx ∧ ∀ S, Off v S → Off v9 S)
              case first =>
                rcases Bool.eq_false_or_eq_true (decide ((16 : Int) < de)) with hd | hd
                · have hd1 : (16 : Int) < de := of_decide_eq_true hd
                  go_wp2_with fail
                  refine (D3.out V4 v8 h8').mono ?_
                  rintro e V5 ⟨rfl, v9, h9, y9, p9⟩
                  have HS9 : Hid (pform true s8 = s9) := hide (by rw [← HP3.out, hd])
                  rw [HS9.out] at h9
                  go_wp2_with fail
                  go_meet
                  case rel => exact ⟨v9, h9, hB4.chg y9 (by simp; omega), y6.trans (y9.mono (by simp)), fun S hS => p9 _ (p8 _ hS)⟩
                · have hd1 : ¬ (16 : Int) < de := of_decide_eq_false hd
                  have HS9 : Hid (s8 = s9) := hide (by rw [← HP3.out, hd]; simp [pform])
                  rw [HS9.out] at h8'
                  go_wp2_with fail
                  go_meet
                  case rel => exact ⟨v8, h8', hB4, y6, p8⟩
              case rest =>
                obtain ⟨v9, h9, hB9, y9, p9⟩ := hcut
                generalize wc = V5 at *
                clear hq1 hB4 y6 p8 h8'
                go_wp2_with fail
                have h9len := h9.len
                refine (D4.out V5 v9 h9).mono ?_
                rintro e V6 ⟨m9, Am, cm, hm, rfl, hzm, v10, h10, y10, p10⟩
                have hm' := hm.out
                subst hm'
                have hst := run_str (P := Tryz.prog) hzm.bs Tryz.underlying22 Tryz.underlying5 Tryz.underlying9
                have hB10 := hB9.chg y10 (by simp; omega)
                have hq2 := (hB10.cell 2).trans rfl
                have fq2 := hB10.frozen 2
                go_upto_region 16 with fail
                have hc2 : Chg [b] V6 (V6.setCell ⟨b, 2, none⟩ (str m9)) := (Chg.refl _ _).set (by simp) _
                have hB11 : Blk (V6.setCell ⟨b, 2, none⟩ (str m9)) b 68 #[.int .u64 dq, .int .i64 de, str m9] := hB10.set_ 2 _
                have p11 : ∀ S, Off v S → Off v10 S := fun S hS => p10 _ (p9 _ hS)
                have h11 := h10.chg hc2 (by simp; omega) (p11 _ (hvn _ (fun k hk => by rw [List.mem_singleton.1 hk]; omega)))
                have y11 : Chg [g, b] wr (V6.setCell ⟨b, 2, none⟩ (str m9)) := (y9.trans (y10.mono (by simp))).trans (hc2.mono (by simp))
                generalize (V6.setCell ⟨b, 2, none⟩ (str m9)) = V7 at *
                clear hst hq2 fq2 hc2 hB10 h10 y10 p10 p9 hzm y9 hB9 h9
                have hX7 := hX6.chg y11 (by simp; omega)
                have hw4 : g < W4.heap.size := by have := xr4.size; have := x1.size; omega
                have hown5 := hownD.chgD y11 (fun k hk hm => by
                  have h9 := hownD.lt k hk
                  simp at hm
                  omega)
                have hsz4 : W4.heap.size ≤ V7.heap.size := Nat.le_trans x6.size y11.size
                have hcut0 : (cutW V7 W4.heap.size).heap.size = W4.heap.size := cutW_size hsz4
                have hx50 : Ext (cutW V7 W4.heap.size) V7 := cutW_ext hsz4
                have hown6 : Own 68 dnE (cutW V7 W4.heap.size) V7 noneAt (.slice Ad dl.length cd) dl := hown5.base (by omega)
                obtain ⟨W6, hW6⟩ : ∃ W, cutW V7 W4.heap.size = W := ⟨_, rfl⟩
                rw [hW6] at hcut0 hx50 hown6
                clear hW6
                obtain ⟨gl, hgl_⟩ : ∃ g_, V7.heap.size = g_ := ⟨_, rfl⟩
                have hxa : Ext V7 (V7.alloc (.cells #[.int .u64 dq, .int .i64 de, str m9] 68)) := (Ext.rfl' _).alloc' _
                have hlit : Enc.Sl dnE (V7.alloc (.cells #[.int .u64 dq, .int .i64 de, str m9] 68)) (fun j => noneAt j ∨ (Value.slice Ad dl.length cd).ownBlock = some j) (.slice (some ⟨gl, 0, none⟩) 1 1) [⟨dq, ⟨de, m9⟩⟩] :=
                  Sl.one (E := dnE) 68 (cs := [.int .u64 dq, .int .i64 de, str m9]) (w := V7) (dn_rep.2 ⟨rfl, hdq1, ⟨by show _ ≤ de; omega, by show de ≤ _; omega⟩, by simp only [maxLen]; omega⟩) gl hgl_ (fun h => by
                    rcases h with h | h
                    · exact h
                    · have := (hown5.lt _ h).2; omega)
                have b0 := (hB11.cell 0).trans rfl
                have b1 := (hB11.cell 1).trans rfl
                have b2 := (hB11.cell 2).trans rfl
                have z2 := (hX7.cell 2).trans rfl
                have hSO : ∀ i, i ∈ (Value.slice Ad dl.length cd).ownBlock.toList → W4.heap.size ≤ i := fun i hi => (hown5.lt i (by simpa using hi)).1
                have hgxS : gx ∉ (Value.slice Ad dl.length cd).ownBlock.toList := fun hi => by
                  obtain ⟨css, k1, -⟩ := hown5
                  exact own_blk_ne k1 hX7 (by decide) (by simpa using hi)
                go_wp2_with (at_builtin; go_must (refine wpList_own elt_dn 54 Tryz.underlying54 rfl (.tmp 66) (.tmp 68) rfl (hown6.ext hxa) rfl (hx50.trans' hxa) (m := [⟨dq, ⟨de, m9⟩⟩]) (y := .slice (some ⟨gl, 0, none⟩) 1 1) rfl hlit (fun h => h) (by simp only [List.length_cons, List.length_nil]; omega) (by simp only [List.length_cons, List.length_nil]; omega) ?_; intro l1 A1 c1 w6 hl1 hown7 hx7 hc7; have hX8 := (hX7.ext hxa).chg hc7 hgxS; have q8 := (hX8.cell 2).trans rfl; have f8 := hX8.frozen 2))
                have hc8 : Chg [gx] w6 (w6.setCell ⟨gx, 2, none⟩ (.slice A1 l1.length c1)) := (Chg.refl _ _).set (by simp) _
                have hgS : g ∉ (Value.slice Ad dl.length cd).ownBlock.toList := fun hi => by have := hSO g hi; omega
                have hS7 : ∀ k, k ∈ (Value.slice Ad dl.length cd).ownBlock.toList → w.heap.size ≤ k := fun k hk => by have := hSO k hk; have := xr4.size; have := x1.size; omega
                have h12 := ((h11.ext hxa).chg hc7 hgS (p11 _ (hvn _ hS7))).chg hc8 (by simp; omega) (p11 _ (hvn _ (fun k hk => by rw [List.mem_singleton.1 hk]; have := x1.size; omega)))
                have hX9 : Blk (w6.setCell ⟨gx, 2, none⟩ (.slice A1 l1.length c1)) gx 56 #[.int .i64 a, .int .u64 hi, .slice A1 l1.length c1] := hX8.set_ 2 _
                have hown8 : Own 68 dnE W4 (w6.setCell ⟨gx, 2, none⟩ (.slice A1 l1.length c1)) noneAt (.slice A1 l1.length c1) l1 := (hown7.base (by omega)).chgD hc8 (fun k hk hm => by
                  obtain ⟨css, k1, -⟩ := hown7
                  rw [List.mem_singleton.1 hm] at hk
                  exact own_blk_ne k1 hX8 (by decide) hk)
                have y12 : Chg [g, gx] W4 (w6.setCell ⟨gx, 2, none⟩ (.slice A1 l1.length c1)) := (((((x6.mono (T := g :: gx :: b :: (Value.slice Ad dl.length cd).ownBlock.toList) (by simp)).trans (y11.mono (by simp))).trans (hxa.chg _)).trans (hc7.mono (by intro i hi; simp; simp at hi; exact .inr (.inr (.inr hi))))).trans (hc8.mono (by simp))).lessS (fun i hi => by
                  simp only [List.mem_cons] at hi
                  rcases hi with h | h | h | h
                  · exact .inl (by simp [h])
                  · exact .inl (by simp [h])
                  · have := x6.size; exact .inr (by omega)
                  · exact .inr (hSO i h))
                have hE : Hid (l1 = dl ++ [⟨dq, ⟨de, m9⟩⟩]) := hide (by rw [hl1.out])
                have hll : l1.length ≤ q + 1 := by rw [hl1.out]; simp; omega
                go_roundw
                case rel => exact ⟨q + 1, l1, A1, c1, s10, v10, by have := HLQ.out; omega, hll, by go_num, hide (by rw [hE.out]; exact HTD2.out), h12, hX9, hown8, y12, p11⟩
                case measure => have := HLQ.out; simp [intOf]; omega
            · have hEX : (dl, s6) = (dls, s5) := by
                rw [← HTD.out]
                exact (titer_stop (by simpa using he6)).symm
              obtain ⟨rfl, rfl⟩ := Prod.mk.inj hEX
              clear hEX HFD HTD
              have x9 : Chg [g, gx] W0 wr := (xr4.mono (by simp)).trans x6
              have hown5 := hown.chg x9 (fun j hj hlt => by
                simp at hj
                rcases hj with h | h
                · exact h
                · omega)
              have hownA := hown.lt
              have hw5 : w.heap.size ≤ wr.heap.size := Nat.le_trans x1.size x9.size
              have hcut0 : (cutW wr w.heap.size).heap.size = w.heap.size := cutW_size hw5
              have hx50 : Ext (cutW wr w.heap.size) wr := cutW_ext hw5
              have hown6 : Own 56 seE (cutW wr w.heap.size) wr (fun j => j = g) (.slice A l.length c) l := hown5.base (by omega)
              obtain ⟨W6, hW6⟩ : ∃ W, cutW wr w.heap.size = W := ⟨_, rfl⟩
              rw [hW6] at hcut0 hx50 hown6
              clear hW6
              obtain ⟨gl, hgl_⟩ : ∃ g_, wr.heap.size = g_ := ⟨_, rfl⟩
              have hxa : Ext wr (wr.alloc (.cells #[.int .i64 a, .int .u64 hi, .slice Ad dl.length cd] 56)) := (Ext.rfl' _).alloc' _
              have hglg : g < gl := by rw [← hgl_]; exact h6.blk.lt
              have hD : Enc.Sl dnE wr (fun j => j = g ∨ (Value.slice A l.length c).ownBlock = some j) (.slice Ad dl.length cd) dl := (Own.flatR hownD (X := fun j => j = g ∨ (Value.slice A l.length c).ownBlock = some j) (fun j hj => by
                have := xr4.size
                rcases hj with h | h
                · have := x1.size; omega
                · have := (hownA j h).2; omega)).sl
              have hlit : Enc.Sl seE (wr.alloc (.cells #[.int .i64 a, .int .u64 hi, .slice Ad dl.length cd] 56)) (fun j => j = g ∨ (Value.slice A l.length c).ownBlock = some j) (.slice (some ⟨gl, 0, none⟩) 1 1) [⟨a, hi, dl⟩] :=
                Sl.one (E := seE) 56 (cs := [.int .i64 a, .int .u64 hi, .slice Ad dl.length cd]) (w := wr) (se_rep.2 ⟨_, rfl, ⟨by show _ ≤ a; omega, by show a ≤ _; omega⟩, hhi, hD⟩) gl hgl_ (fun h => by
                  rcases h with h | h
                  · omega
                  · have := (hown5.lt _ h).2; omega)
              have b0 := (hX6.cell 0).trans rfl
              have b1 := (hX6.cell 1).trans rfl
              have b2 := (hX6.cell 2).trans rfl
              have hSO : ∀ i, i ∈ (Value.slice A l.length c).ownBlock.toList → w.heap.size ≤ i := fun i hi => (hown5.lt i (by simpa using hi)).1
              have hgS : g ∉ (Value.slice A l.length c).ownBlock.toList := fun hi => by have := hSO g hi; omega
              go_wp2_with (at_builtin; go_must (refine wpList_own elt_se 26 Tryz.underlying26 rfl (.tmp 71) (.tmp 73) rfl (hown6.ext hxa) rfl (hx50.trans' hxa) (m := [⟨a, hi, dl⟩]) (y := .slice (some ⟨gl, 0, none⟩) 1 1) rfl hlit (by show ¬ (World.alloc wr _).heap.size = g; simp; omega) (by simp only [List.length_cons, List.length_nil]; omega) (by simp only [List.length_cons, List.length_nil]; omega) ?_; intro l1 A1 c1 w6 hl1 hown7 hx7 hc7))
              have h12 := (h6.ext hxa).chg hc7 hgS (o6 _ (h.bs.off_new hSO))
              have x11 : Chg [g] w w6 := ((((x1.mono (T := g :: gx :: (Value.slice A l.length c).ownBlock.toList) (by simp)).trans (x9.mono (by simp))).trans (hxa.chg _)).trans (hc7.mono (by intro i hi; simp; simp at hi; exact .inr (.inr hi)))).lessS (fun i hi => by
                simp only [List.mem_cons] at hi
                rcases hi with h | h | h
                · exact .inl (by simp [h])
                · have := x1.size; exact .inr (by omega)
                · exact .inr (hSO i h))
              have hll : l1.length ≤ k + 1 := by rw [hl1.out]; simp; omega
              go_roundw
              case rel => exact ⟨k + 1, l1, A1, c1, s6, v6, by have := HLT.out; omega, hll, rfl, by go_num, hide (by rw [hl1.out]; exact HT2.out), h12, x11, o6, hown7.base (by omega)⟩
              case measure => have := HLT.out; simp [intOf]; omega
          · have hEX : (dl, s6) = (dls, s5) := by
              obtain rfl : q = M := by omega
              have h9 := HTD.out
              rw [Nat.sub_self] at h9
              exact h9
            obtain ⟨rfl, rfl⟩ := Prod.mk.inj hEX
            clear hEX HFD HTD
            have x9 : Chg [g, gx] W0 wr := (xr4.mono (by simp)).trans x6
            have hown5 := hown.chg x9 (fun j hj hlt => by
              simp at hj
              rcases hj with h | h
              · exact h
              · omega)
            have hownA := hown.lt
            have hw5 : w.heap.size ≤ wr.heap.size := Nat.le_trans x1.size x9.size
            have hcut0 : (cutW wr w.heap.size).heap.size = w.heap.size := cutW_size hw5
            have hx50 : Ext (cutW wr w.heap.size) wr := cutW_ext hw5
            have hown6 : Own 56 seE (cutW wr w.heap.size) wr (fun j => j = g) (.slice A l.length c) l := hown5.base (by omega)
            obtain ⟨W6, hW6⟩ : ∃ W, cutW wr w.heap.size = W := ⟨_, rfl⟩
            rw [hW6] at hcut0 hx50 hown6
            clear hW6
            obtain ⟨gl, hgl_⟩ : ∃ g_, wr.heap.size = g_ := ⟨_, rfl⟩
            have hxa : Ext wr (wr.alloc (.cells #[.int .i64 a, .int .u64 hi, .slice Ad dl.length cd] 56)) := (Ext.rfl' _).alloc' _
            have hglg : g < gl := by rw [← hgl_]; exact h6.blk.lt
            have hD : Enc.Sl dnE wr (fun j => j = g ∨ (Value.slice A l.length c).ownBlock = some j) (.slice Ad dl.length cd) dl := (Own.flatR hownD (X := fun j => j = g ∨ (Value.slice A l.length c).ownBlock = some j) (fun j hj => by
              have := xr4.size
              rcases hj with h | h
              · have := x1.size; omega
              · have := (hownA j h).2; omega)).sl
            have hlit : Enc.Sl seE (wr.alloc (.cells #[.int .i64 a, .int .u64 hi, .slice Ad dl.length cd] 56)) (fun j => j = g ∨ (Value.slice A l.length c).ownBlock = some j) (.slice (some ⟨gl, 0, none⟩) 1 1) [⟨a, hi, dl⟩] :=
              Sl.one (E := seE) 56 (cs := [.int .i64 a, .int .u64 hi, .slice Ad dl.length cd]) (w := wr) (se_rep.2 ⟨_, rfl, ⟨by show _ ≤ a; omega, by show a ≤ _; omega⟩, hhi, hD⟩) gl hgl_ (fun h => by
                rcases h with h | h
                · omega
                · have := (hown5.lt _ h).2; omega)
            have b0 := (hX6.cell 0).trans rfl
            have b1 := (hX6.cell 1).trans rfl
            have b2 := (hX6.cell 2).trans rfl
            have hSO : ∀ i, i ∈ (Value.slice A l.length c).ownBlock.toList → w.heap.size ≤ i := fun i hi => (hown5.lt i (by simpa using hi)).1
            have hgS : g ∉ (Value.slice A l.length c).ownBlock.toList := fun hi => by have := hSO g hi; omega
            go_wp2_with (at_builtin; go_must (refine wpList_own elt_se 26 Tryz.underlying26 rfl (.tmp 71) (.tmp 73) rfl (hown6.ext hxa) rfl (hx50.trans' hxa) (m := [⟨a, hi, dl⟩]) (y := .slice (some ⟨gl, 0, none⟩) 1 1) rfl hlit (by show ¬ (World.alloc wr _).heap.size = g; simp; omega) (by simp only [List.length_cons, List.length_nil]; omega) (by simp only [List.length_cons, List.length_nil]; omega) ?_; intro l1 A1 c1 w6 hl1 hown7 hx7 hc7))
            have h12 := (h6.ext hxa).chg hc7 hgS (o6 _ (h.bs.off_new hSO))
            have x11 : Chg [g] w w6 := ((((x1.mono (T := g :: gx :: (Value.slice A l.length c).ownBlock.toList) (by simp)).trans (x9.mono (by simp))).trans (hxa.chg _)).trans (hc7.mono (by intro i hi; simp; simp at hi; exact .inr (.inr hi)))).lessS (fun i hi => by
              simp only [List.mem_cons] at hi
              rcases hi with h | h | h
              · exact .inl (by simp [h])
              · have := x1.size; exact .inr (by omega)
              · exact .inr (hSO i h))
            have hll : l1.length ≤ k + 1 := by rw [hl1.out]; simp; omega
            go_roundw
            case rel => exact ⟨k + 1, l1, A1, c1, s6, v6, by have := HLT.out; omega, hll, rfl, by go_num, hide (by rw [hl1.out]; exact HT2.out), h12, x11, o6, hown7.base (by omega)⟩
            case measure => have := HLT.out; simp [intOf]; omega
      · have hEX : F = (l, s1) := by rw [← HT.out]; exact titer_stop (by simpa using he)
        have HX : Hid (l = (ptimes psess N s0).1 ∧ s1 = (ptimes psess N s0).2) := hide (by rw [hEX] at HF; exact ⟨(Prod.mk.inj HF.out).1, (Prod.mk.inj HF.out).2⟩)
        clear hEX
        go_wp2_with fail
        go_ret
        first | exact ⟨l, A, c, hide HX.out.1, rfl, hown, by rw [← HX.out.2]; exact ⟨v1, h1, x1, o1⟩⟩ | exact ⟨l, hide HX.out.1, A, c, rfl, hown, by rw [← HX.out.2]; exact ⟨v1, h1, x1, o1⟩⟩
    · have hEX : F = (l, s1) := by
        obtain rfl : k = N := by omega
        have h9 := HT.out
        rw [Nat.sub_self] at h9
        exact h9.symm
      have HX : Hid (l = (ptimes psess N s0).1 ∧ s1 = (ptimes psess N s0).2) := hide (by rw [hEX] at HF; exact ⟨(Prod.mk.inj HF.out).1, (Prod.mk.inj HF.out).2⟩)
      clear hEX
      go_wp2_with fail
      go_ret
      first | exact ⟨l, A, c, hide HX.out.1, rfl, hown, by rw [← HX.out.2]; exact ⟨v1, h1, x1, o1⟩⟩ | exact ⟨l, hide HX.out.1, A, c, rfl, hown, by rw [← HX.out.2]; exact ⟨v1, h1, x1, o1⟩⟩
end Go.Proofs.YtamimdlaclglkaaGreat
