import Derived.Test.YtboncnlcomeahaaPk5
/- shortcutref1: what each function of the document's answer makes of bytes. -/
namespace Go.Proofs.Ytboncnlcomeahaa
set_option linter.unusedVariables false
set_option linter.unusedSimpArgs false
set_option linter.unnecessarySimpa false
set_option maxRecDepth 100000
open Go.RowKit
set_option maxHeartbeats 400000 in
theorem rput_b (x : Value) (l : Bytes) (v n : Int) (w : World) (hv : 0 ≤ v ∧ v ≤ 18446744073709551615) (hn : -9223372036854775808 ≤ n ∧ n ≤ 9223372036854775807) (hl : l.length ≤ 140737488355000) (hr : Bs w x l) :
    Calls Try.prog 75 #[x, .int .u64 v, .int .i64 n] w fun e w' => RetNw w w' e (oput l v n) := by
  obtain ⟨i0, hi, hz0, hz1, hz2⟩ := info_parts ti5
  obtain ⟨A, c, rfl, h1, h2, h3⟩ := id hr
  by_cases hb : n < 0 ∨ 8 < n
  · have e1 : oput l v n = l := if_pos hb
    rw [e1]
    clear e1
    go_enter Try.func75, Try.ntmps75
    go_wp2_with (at_builtin; refine wpList_app w _ rfl (.tmp 9) (.tmp 10) rfl _ [] rfl (nw_lit w _ (Ext.rfl' _) _ rfl) ((Ext.rfl' _).alloc' _) _ l rfl (hr.ext ((Ext.rfl' _).alloc' _)) (by simp; omega) ?_; intro m Am cm w1 hm hy hx _)
    all_goals go_ret
    all_goals exact ⟨m, Am, cm, hm, rfl, hy, hx⟩
  · have hb1 : ¬ n < 0 := fun h => hb (.inl h)
    have hb2 : ¬ 8 < n := fun h => hb (.inr h)
    clear hb
    go_enter Try.func75, Try.ntmps75
    go_wp2_with (at_builtin; refine wpList_app w _ rfl (.tmp 9) (.tmp 10) rfl _ [] rfl (nw_lit w _ (Ext.rfl' _) _ rfl) ((Ext.rfl' _).alloc' _) _ l rfl (hr.ext ((Ext.rfl' _).alloc' _)) (by simp; omega) ?_; intro m Am cm w1 hm hy hx _)
    obtain ⟨N, rfl⟩ := Int.eq_ofNat_of_zero_le (show (0 : Int) ≤ n by omega)
    go_loopw [7, 8] (fun o i wr => ∃ (k : Nat) (pre : Bytes), k ≤ N ∧ i = .int .i64 (N - k) ∧ Hid (pre ++ be k v.toNat = be N v.toNat) ∧ pre.length ≤ 8 ∧ wr.ownsRow w.heap.size 5 1 o (l ++ pre).length (bv (l ++ pre)) ∧ Ext w wr) (fun _ i _ => (N - intOf i).toNat)
    case atStart => exact ⟨N, [], Nat.le_refl _, by simp, hide rfl, by simp, by have := hm.out; simp only [List.nil_append] at this; subst this; simpa [Nw] using hy, hx⟩
    case round =>
      obtain ⟨k, pre, hk, rfl, hpre, hp8, ho, hx1⟩ := hrel
      rcases k with _ | k
      · go_wp2
        go_ret
        have e2 : oput l v N = l ++ pre := by
          have := hpre.out
          simp [be] at this
          rw [oput, if_neg (by omega), this]; simp
        exact RetNw.mk (by rw [e2]; exact ho) hx1
      · have s1 : (l ++ pre).length + 1 ≤ maxLen := by simp [maxLen]; omega
        have s2 : ((l ++ pre).length + 1) * 1 ≤ 140737488355328 := by simp; omega
        have s3 : w.heap.size ≤ wr.heap.size + 1 := Nat.le_trans hx1.size (Nat.le_succ _)
        have e1 := hide (be_step k v hv)
        obtain ⟨i, hi'⟩ : ∃ i : Int, (N : Int) - ((k + 1 : Nat) : Int) = i := ⟨_, rfl⟩
        rw [hi']
        have hsh : (N : Int) - 1 - i = k := by omega
        go_wp2_with (at_builtin; refine wpList_append_any _ rfl (.tmp 24) (.tmp 33) 28 rfl w.heap.size 5 i0 (.int .u8 0) 1 1 Try.underlying28 hi hz0 hz1 hz2 rfl (by decide) u7 _ _ rfl (ho.alloc _) _ _ 1 1 _ rfl (Reads.one _ _ _) (one_int _ _) s1 s2 (by simpa using s3) ?_; intro v' w' hown hg _)
        go_roundw
        case rel =>
          obtain ⟨e1, e2⟩ := e1.out
          have e3 := hpre.out
          rw [e1] at e3
          have e4 := congrArg List.length e3
          simp [be_length] at e4
          refine ⟨k, pre ++ [UInt8.ofNat (v.toNat / 2 ^ (8 * k))], by omega, by go_num, hide (by rw [← e3]; simp), by simp; omega, ?_, (hx1.alloc' _).grown' hg (fun j hj => (ho.lt j hj).1)⟩
          rw [e2] at hown
          simpa [bv, Nat.add_assoc] using hown
        case measure => simp [intOf]; omega
set_option maxHeartbeats 400000 in
theorem rtake_b (x : Value) (l : Bytes) (n : Int) (w : World) (hn : -9223372036854775808 ≤ n ∧ n ≤ 9223372036854775807) (hl : l.length ≤ 140737488355328) (hr : Bs w x l) :
    Calls Try.prog 82 #[x, .int .i64 n] w fun e w' => e = .returned (.tuple #[.int .u64 (otake l n).1, .int .i64 (otake l n).2]) ∧ w = w' := by
  obtain ⟨A, c, rfl, h1, h2, h3⟩ := hr
  by_cases hb : n < 0 ∨ 8 < n
  · have e1 : otake l n = (0, 1) := if_pos hb
    rw [e1]
    clear e1
    go_enter Try.func82, Try.ntmps82
    go_wp2
    all_goals go_ret2
    all_goals exact ⟨rfl, rfl⟩
  · have hb1 : ¬ n < 0 := fun h => hb (.inl h)
    have hb2 : ¬ 8 < n := fun h => hb (.inr h)
    by_cases hs : (l.length : Int) < n
    · have e1 : otake l n = (0, 3) := by rw [otake, if_neg hb, if_pos hs]
      rw [e1]
      clear e1 hb
      go_enter Try.func82, Try.ntmps82
      go_wp2
      all_goals go_ret2
      all_goals exact ⟨rfl, rfl⟩
    · obtain ⟨N, rfl⟩ := Int.eq_ofNat_of_zero_le (show (0 : Int) ≤ n by omega)
      have e1 : otake l N = (((val (l.take N) : Nat) : Int), (0 : Int)) := by rw [otake, if_neg hb, if_neg hs]; rfl
      rw [e1]
      clear e1 hb
      go_enter Try.func82, Try.ntmps82
      go_wp2
      go_loop [6, 7] (fun v i => ∃ k : Nat, k ≤ N ∧ i = .int .i64 k ∧ v = .int .u64 (val (l.take k))) (fun _ i => (N - intOf i).toNat)
      case atStart => exact ⟨0, Nat.zero_le _, rfl, rfl⟩
      case round =>
        obtain ⟨k, hk, rfl, rfl⟩ := hrel
        by_cases hlt : k < N
        · obtain ⟨ad, b, rfl, hbk, hu, hcell, hb⟩ := h3.byte (show k < l.length by omega)
          have hv := val_take_lt l k (by omega)
          have e1 := hide (take_step l k b hu hv)
          go_wp2
          refine ⟨⟨k + 1, by omega, by go_num, ?_⟩, by simp [intOf]; omega⟩
          rw [e1.out]
        · go_wp2
          go_ret2
          obtain rfl : k = N := by omega
          exact ⟨rfl, rfl⟩



















theorem rtake_ok (x : Value) (b : Bytes) (n : Nat) (w : World) (hn : n ≤ 8) (hl : b.length ≤ 140737488355328) (hr : Bs w x b) (h : n ≤ b.length) :
    Calls Try.prog 82 #[x, .int .i64 n] w fun e w' => ∃ k : Nat, Hid (k = val (b.take n)) ∧ k < 256 ^ n ∧ e = .returned (.tuple #[.int .u64 k, .int .i64 0]) ∧ w = w' := by
  refine (rtake_b x b n w (by omega) hl hr).mono ?_
  rintro e w' ⟨rfl, rfl⟩
  rcases otake_cases b n hn with ⟨h1, _⟩ | ⟨_, e1⟩
  · omega
  · have hlt := val_lt (b.take n)
    rw [List.length_take, Nat.min_eq_left h] at hlt
    rw [e1]
    exact ⟨_, hide rfl, hlt, rfl, rfl⟩
theorem rtake_short (x : Value) (b : Bytes) (n : Nat) (w : World) (hn : n ≤ 8) (hl : b.length ≤ 140737488355328) (hr : Bs w x b) (h : b.length < n) :
    Calls Try.prog 82 #[x, .int .i64 n] w fun e w' => e = .returned (.tuple #[.int .u64 0, .int .i64 3]) ∧ w = w' := by
  refine (rtake_b x b n w (by omega) hl hr).mono ?_
  rintro e w' ⟨rfl, rfl⟩
  rcases otake_cases b n hn with ⟨_, e1⟩ | ⟨h1, _⟩
  · rw [e1]; exact ⟨rfl, rfl⟩
  · omega


































theorem crc_odd (c : Nat) (h : c < 4294967296) (h0 : c % 2 = 1) : bits .and .u32 (c : Int) 1 = 1 ∧ Hid (bits .xor .u32 ((c : Int) / 2) 3988292384 = (Crc.step c : Nat)) := by
  have e1 := u32_and_nat c 1 h (by omega)
  rw [Nat.and_one_is_mod, h0] at e1
  refine ⟨e1, ?_⟩
  have e2 := u32_xor_nat (c / 2) 3988292384 (by omega) (by omega)
  rw [Crc.step, if_pos h0, ← e2]
  rfl
theorem crc_even (c : Nat) (h : c < 4294967296) (h0 : ¬ c % 2 = 1) : bits .and .u32 (c : Int) 1 = 0 ∧ Hid ((c : Int) / 2 = (Crc.step c : Nat)) := by
  have e1 := u32_and_nat c 1 h (by omega)
  rw [Nat.and_one_is_mod, show c % 2 = 0 by omega] at e1
  refine ⟨e1, ?_⟩
  unfold Hid
  rw [Crc.step, if_neg h0, Nat.xor_zero]
  rfl
set_option maxHeartbeats 400000 in
theorem rsum_b (x : Value) (ls : List Bytes) (w : World) (hl : lens ls ≤ 140737488355000) (hn : ls.length ≤ 140737488355000) (hp : Parts w x ls) :
    Calls Try.prog 83 #[x] w fun e w' => e = .returned (.int .u32 (Crc.sum ls.flatten : Nat)) ∧ w = w' := by
  obtain ⟨A, c, vs, rfl, h1, h2, h3, h4⟩ := hp
  have H4 := hide h4
  clear h4
  go_enter Try.func83, Try.ntmps83
  go_wp2
  go_loop [3, 4] (fun s i => ∃ k : Nat, k ≤ ls.length ∧ i = .int .i64 k ∧ s = .int .u32 (Crc.from_ 4294967295 (ls.take k).flatten : Nat)) (fun _ i => (ls.length - intOf i).toNat)
  case atStart => exact ⟨0, Nat.zero_le _, rfl, rfl⟩
  case round =>
    obtain ⟨k, hk, rfl, rfl⟩ := hrel
    have hc := Crc.from_lt (ls.take k).flatten 4294967295 (by omega)
    by_cases hlt : k < ls.length
    · obtain ⟨ad, u, rfl, hbk, hu, hcell⟩ := h3.at_ hlt
      obtain ⟨v, hv, hbs⟩ := H4.out k ls[k] (by simp [hlt])
      obtain ⟨A', c', rfl, g1, g2, g3⟩ := hbs
      obtain rfl : u = _ := Option.some.inj (hu.symm.trans hv)
      clear hu hv
      obtain ⟨e1, e2, e3⟩ := lens_take ls k ls[k] (by simp [hlt])
      have E3 : Hid (Crc.from_ 4294967295 (ls.take (k + 1)).flatten = Crc.from_ (Crc.from_ 4294967295 (ls.take k).flatten) ls[k]) := by
        unfold Hid; rw [e3, Crc.from_append]
      clear e1 e3
      generalize Crc.from_ 4294967295 (ls.take k).flatten = cr at *
      generalize ls[k] = b at *
      go_wp2
      go_loop [3, 5] (fun s i => ∃ j : Nat, j ≤ b.length ∧ i = .int .i64 j ∧ s = .int .u32 (Crc.from_ cr (b.take j) : Nat)) (fun _ i => (b.length - intOf i).toNat)
      case atStart => exact ⟨0, Nat.zero_le _, rfl, rfl⟩
      case round =>
        obtain ⟨j, hj, rfl, rfl⟩ := hrel
        by_cases hlj : j < b.length
        · obtain ⟨ad', x, rfl, hbk', hx', hcell', hx255⟩ := g3.byte hlj
          have hcj := Crc.from_lt (b.take j) cr hc
          have E4 : Hid (Crc.from_ cr (b.take (j + 1)) = Crc.byte (Crc.from_ cr (b.take j)) x) := by
            unfold Hid
            rw [List.take_add_one, hx'.out, Crc.from_append]; rfl
          generalize Crc.from_ cr (b.take j) = cj at *
          have E5 := hide (u32_xor_nat cj x.toNat hcj (by omega))
          have hx8 : cj ^^^ x.toNat < 4294967296 := Nat.xor_lt_two_pow (n := 32) (by omega) (by omega)
          go_wp2
          go_loop [3, 6] (fun s i => ∃ q : Nat, (q : Int) ≤ 8 ∧ i = .int .i64 q ∧ s = .int .u32 (Crc.steps q (cj ^^^ x.toNat) : Nat)) (fun _ i => (8 - intOf i).toNat)
          case atStart => exact ⟨0, by decide, rfl, by rw [E5.out]; rfl⟩
          case round =>
            obtain ⟨q, hq, rfl, rfl⟩ := hrel
            have hb := Crc.steps_lt q (cj ^^^ x.toNat) hx8
            have HC := hide (Crc.steps_succ q (cj ^^^ x.toNat))
            have HC8 : Hid (q = 8 → Crc.steps q (cj ^^^ x.toNat) = Crc.byte cj x) := by rintro rfl; exact Crc.steps_byte cj x
            generalize Crc.steps q (cj ^^^ x.toNat) = c at *
            by_cases hlt : (q : Int) < 8
            · by_cases h0 : c % 2 = 1
              · obtain ⟨e1, e2⟩ := crc_odd c hb h0
                clear h0
                go_wp2
                refine ⟨⟨q + 1, by omega, by go_num, ?_⟩, by simp [intOf]; omega⟩
                rw [e2.out, HC.out]
              · obtain ⟨e1, e2⟩ := crc_even c hb h0
                clear h0
                go_wp2
                refine ⟨⟨q + 1, by omega, by go_num, ?_⟩, by simp [intOf]; omega⟩
                rw [e2.out, HC.out]
            · have HQ : Hid (q = 8) := by unfold Hid; omega
              go_wp2
              refine ⟨⟨j + 1, by omega, by go_num, ?_⟩, by simp [intOf]; omega⟩
              rw [E4.out, HC8.out HQ.out]
        · obtain rfl : j = b.length := by omega
          go_wp2
          refine ⟨⟨k + 1, by omega, by go_num, ?_⟩, by simp [intOf]; omega⟩
          rw [E3.out, List.take_length]
    · obtain rfl : k = ls.length := by omega
      rw [List.take_length] at hc
      rw [List.take_length]
      have E5 : Hid (Crc.sum ls.flatten = 4294967295 - Crc.from_ 4294967295 ls.flatten) := rfl
      generalize Crc.from_ 4294967295 ls.flatten = cr at *
      go_wp2
      go_ret
      rw [E5.out, ← crc_end cr hc]
      exact ⟨rfl, rfl⟩
theorem own_ext {w w' : World} {base n : Nat} {e : TypeId} {size : Nat} {v : Value} {xs : List Value} (h : w.ownsRow base e size v n xs) (hx : Ext w w') : w'.ownsRow base e size v n xs := by
  refine ⟨h.1, ?_⟩
  rcases h.2 with h2 | ⟨g, cap, cur, hv, hg, hh, r⟩
  · exact .inl h2
  · exact .inr ⟨g, cap, cur, hv, hg, (Blk.ext (t := e) hh hx), r⟩
theorem rsum1_b (v : Value) (b : Bytes) (w : World) (g : Nat) (hg : w.heap.size = g) (hl : b.length ≤ 140737488355000) (h : Bs w v b) :
    Calls Try.prog 83 #[.slice (some ⟨g, 0, none⟩) 1 1] (w.alloc (.cells #[v] 28)) fun e w' =>
      ∃ s : Nat, Hid (s = Crc.sum b) ∧ (s : Int) ≤ 4294967295 ∧ e = .returned (.int .u32 s) ∧ Ext w w' := by
  refine (rsum_b _ [b] _ (by simp [lens]; omega) (by simp) (Parts.one _ hg h)).mono ?_
  rintro e w' ⟨rfl, rfl⟩
  have := Crc.sum_lt b
  exact ⟨Crc.sum b, hide rfl, by omega, by simp, (Ext.rfl' w).alloc' _⟩
set_option maxHeartbeats 400000 in
theorem rframe_b (x : Value) (b : Bytes) (w : World) (hl : b.length ≤ 140737488350000) (hx : Bs w x b) :
    Calls Try.prog 76 #[x] w fun e w' => RetNw w w' e (oframe b) := by
  obtain ⟨A, c, rfl, h1, h2, h3⟩ := id hx
  go_enter Try.func76, Try.ntmps76
  go_wp2_with fail
  refine (rput_b _ [] _ 4 w (by omega) (by omega) (by simp) (Bs.nil w)).mono ?_
  rintro e w1 ⟨m1, A1, c1, hm1, rfl, hz1, hx1⟩
  go_wp2_with fail
  refine (rsum1_b _ b _ _ rfl (by omega) (hx.ext hx1)).mono ?_
  rintro e w2 ⟨s, hs, hs2, rfl, hx2⟩
  have e1 : m1.length = 4 := by
    rw [hm1.out, show (4 : Int) = ((4 : Nat) : Int) from rfl, oput_n _ _ _ (by omega)]
    simp [be_length]
  have E1 := hide e1
  clear e1
  go_wp2_with fail
  refine (rput_b _ m1 _ 4 _ (by omega) (by omega) (by rw [E1.out]; omega) (hz1.bs.ext hx2)).mono ?_
  rintro e w3 ⟨m3, A3, c3, hm3, rfl, hz3, hx3⟩
  have e3 : m3 = be 4 b.length ++ be 4 (Crc.sum b) := by
    rw [hm3.out, hm1.out, ← hs.out, show (4 : Int) = ((4 : Nat) : Int) from rfl, oput_n _ _ _ (by omega), oput_n _ _ _ (by omega)]
    simp
  have hl3 : m3.length + b.length ≤ 140737488355328 := by rw [e3]; simp [be_length]; omega
  have E3 := hide e3
  clear e3
  have hx5 := (hx1.trans' hx2).trans' hx3
  go_wp2_with (at_builtin; refine wpList_app w _ rfl (.tmp 11) (.tmp 12) rfl _ m3 rfl (hz3.trans (hx1.trans' hx2)) hx5 _ b rfl (hx.ext hx5) hl3 ?_; intro m4 A4 c4 w4 hm4 hz4 hx4 _)
  go_ret
  exact ⟨m4, A4, c4, hide (by rw [hm4.out, E3.out]; rfl), rfl, hz4, hx4⟩
set_option maxHeartbeats 800000 in
theorem runframe_b (x : Value) (b : Bytes) (w : World) (hl : b.length ≤ 140737488350000) (hx : Bs w x b) :
    Calls Try.prog 72 #[x] w fun e w' => RetRead w w' e (ounframe b) := by
  obtain ⟨A, c, rfl, h1, h2, h3⟩ := id hx
  rcases Nat.lt_or_ge b.length 4 with hs | hs
  · have E := hide (unframe_short b (.inl (by omega)))
    go_enter Try.func72, Try.ntmps72
    go_wp2_with (go_at_call 82; refine (rtake_short _ b 4 _ (by omega) (by omega) hx hs).mono ?_; rintro e w1 ⟨rfl, rfl⟩)
    all_goals go_ret3
    all_goals rw [E.out]
    all_goals exact RetRead.none_ (Below.refl _ _) 3
  · by_cases hs8 : b.length < 8
    · have E := hide (unframe_short b (.inl hs8))
      go_enter Try.func72, Try.ntmps72
      go_wp2_with (go_at_call 82; refine (rtake_ok _ b 4 _ (by omega) (by omega) hx hs).mono ?_; rintro e w1 ⟨k, hk, hk2, rfl, rfl⟩)
      all_goals go_ret3
      all_goals rw [E.out]
      all_goals exact RetRead.none_ (Below.refl _ _) 3
    · have hlt := val_lt (b.take 4)
      rw [List.length_take, Nat.min_eq_left hs] at hlt
      by_cases hk : b.length - 8 < val (b.take 4)
      · have E := hide (unframe_short b (.inr hk))
        have hk2 : ((b.length : Int) - 8) < val (b.take 4) := by omega
        clear hk
        have HT := hide (rtake_ok _ b 4 w (by omega) (by omega) hx hs)
        go_enter Try.func72, Try.ntmps72
        go_wp2_with fail
        refine HT.out.mono ?_
        rintro e w1 ⟨k, hk, hk3, rfl, rfl⟩
        rw [← hk.out] at hk2
        go_wp2
        all_goals go_ret3
        all_goals rw [E.out]
        all_goals exact RetRead.none_ (Below.refl _ _) 3
      · have hk2 : ¬ ((b.length : Int) - 8) < val (b.take 4) := by omega
        have E : Hid (ounframe b = if Crc.sum ((b.drop 8).take (val (b.take 4))) ≠ val ((b.drop 4).take 4) then ([], 0, 2) else ((b.drop 8).take (val (b.take 4)), ((8 + val (b.take 4) : Nat) : Int), 0)) := if_neg (by omega)
        clear hk
        have hr4 := hx.rest (l := 4) (by omega)
        have HT := hide (rtake_ok _ b 4 w (by omega) (by omega) hx hs)
        go_enter Try.func72, Try.ntmps72
        go_wp2_with fail
        refine HT.out.mono ?_
        rintro e w1 ⟨k, hk, hk3, rfl, rfl⟩
        rw [← hk.out] at hk2
        have hr8 : Bs w (.slice (cutA 1 A c 8) (8 + k - 8) (c - 8)) ((b.drop 8).take k) := by rw [Nat.add_sub_cancel_left]; exact hx.cut (l := 8) (k := k) (by omega)
        have hlen : ((b.drop 8).take k).length ≤ 140737488350000 := by simp; omega
        have E' : Hid (ounframe b = if Crc.sum ((b.drop 8).take k) ≠ val ((b.drop 4).take 4) then ([], 0, 2) else ((b.drop 8).take k, ((8 + k : Nat) : Int), 0)) := by rw [hk.out]; exact E
        clear E hlt
        go_wp2_with (at_builtin; refine wpList_app w _ rfl (.tmp 30) (.tmp 35) rfl _ [] rfl (nw_lit w _ (Ext.rfl' _) _ rfl) ((Ext.rfl' _).alloc' _) _ ((b.drop 8).take k) rfl (hr8.ext ((Ext.rfl' _).alloc' _)) (by simp only [List.length_nil]; omega) ?_; intro m Am cm w1 hm hz hx2 _)
        have hlm : m.length ≤ 140737488350000 := by rw [hm.out]; simpa using hlen
        refine (rtake_ok _ (b.drop 4) 4 w1 (by omega) (by simp; omega) (hr4.ext hx2) (by simp; omega)).mono ?_
        rintro e w2 ⟨q, hq, hq3, rfl, rfl⟩
        go_wp2_with fail
        refine (rsum1_b _ m _ _ rfl (by omega) hz.bs).mono ?_
        rintro e w2 ⟨s, hs1, hs2, rfl, hx3⟩
        by_cases hsq : q = s
        · have hb : ((q : Int) != (s : Int)) = false := by simp [hsq]
          have HSQ := hide hsq
          clear hsq
          go_wp2
          go_ret3
          rw [E'.out, if_neg (by have h9 := hm.out; simp only [List.nil_append] at h9; rw [← h9, ← hs1.out, ← hq.out, HSQ.out]; simp)]
          exact ⟨m, Am, cm, _, _, hide (by rw [hm.out]; simp), rfl, own_ext hz hx3, hx2.trans' hx3⟩
        · have hb : ((q : Int) != (s : Int)) = true := by simp; omega
          have HSQ := hide hsq
          clear hsq
          go_wp2
          go_ret3
          rw [E'.out, if_pos (by have h9 := hm.out; simp only [List.nil_append] at h9; rw [← h9, ← hs1.out, ← hq.out]; intro h; exact HSQ.out h.symm)]
          exact RetRead.none_ (hx2.trans' hx3) 2
end Go.Proofs.Ytboncnlcomeahaa

