/- A part of the proof of 'StoreAll'. -/
import Derived.Test.YtlblgopfdadalaaS3
import Derived.Test.YtlblgopfdadalaaS5
import Derived.Test.YtlblgopfdadalaaS4
namespace Go.Proofs.Ytlblgopfdadalaa
set_option linter.unusedVariables false
set_option linter.unusedSimpArgs false
set_option linter.unnecessarySimpa false
set_option maxRecDepth 100000
open Go.RowKit
set_option maxHeartbeats 400000 in
theorem rput_b (x : Value) (l : Bytes) (v n : Int) (w : World) (hv : 0 ≤ v ∧ v ≤ 18446744073709551615) (hn : -9223372036854775808 ≤ n ∧ n ≤ 9223372036854775807) (hl : l.length ≤ 140737488355000) (hr : Bs w x l) :
    Calls Try.prog 42 #[x, .int .u64 v, .int .i64 n] w fun e w' => RetNw w w' e (oput l v n) := by
  obtain ⟨i0, hi, hz0, hz1, hz2⟩ := info_parts ti5
  obtain ⟨A, c, rfl, h1, h2, h3⟩ := id hr
  by_cases hb : n < 0 ∨ 8 < n
  · have e1 : oput l v n = l := if_pos hb
    rw [e1]
    clear e1
    go_enter Try.func42, Try.ntmps42
    go_wp2_with (at_builtin; refine wpList_app w _ rfl (.tmp 9) (.tmp 10) rfl _ [] rfl (nw_lit w _ (Ext.rfl' _) _ rfl) ((Ext.rfl' _).alloc' _) _ l rfl (hr.ext ((Ext.rfl' _).alloc' _)) (by simp; omega) ?_; intro m Am cm w1 hm hy hx _)
    all_goals go_ret
    all_goals exact ⟨m, Am, cm, hm, rfl, hy, hx⟩
  · have hb1 : ¬ n < 0 := fun h => hb (.inl h)
    have hb2 : ¬ 8 < n := fun h => hb (.inr h)
    clear hb
    go_enter Try.func42, Try.ntmps42
    go_wp2_with (at_builtin; refine wpList_app w _ rfl (.tmp 9) (.tmp 10) rfl _ [] rfl (nw_lit w _ (Ext.rfl' _) _ rfl) ((Ext.rfl' _).alloc' _) _ l rfl (hr.ext ((Ext.rfl' _).alloc' _)) (by simp; omega) ?_; intro m Am cm w1 hm hy hx _)
    obtain ⟨N, rfl⟩ := Int.eq_ofNat_of_zero_le (show (0 : Int) ≤ n by omega)
    go_loopw [7, 8] (fun o i wr => ∃ (k : Nat) (pre : Bytes), k ≤ N ∧ i = .int .i64 (N - k) ∧ Hid (pre ++ be k v.toNat = be N v.toNat) ∧ pre.length ≤ 8 ∧ wr.ownsRow w.heap.size 5 1 o (l ++ pre).length (bv (l ++ pre)) ∧ Ext w wr) (fun _ i _ => (N - intOf i).toNat)
    case atStart => exact ⟨N, [], Nat.le_refl _, by simp, hide rfl, by simp, by have := hm.out; simp only [List.nil_append] at this; subst this; simpa [Nw] using hy, hx⟩
    case round =>
      obtain ⟨k, pre, hk, rfl, hpre, hp8, ho, hx1⟩ := hrel
      rcases k with _ | k
      · go_wp2
        go_ret
        have e2 : oput l v N = l ++ pre := by
          have := hpre.out
          simp [be] at this
          rw [oput, if_neg (by omega), this]; simp
        exact RetNw.mk (by rw [e2]; exact ho) hx1
      · have s1 : (l ++ pre).length + 1 ≤ maxLen := by simp [maxLen]; omega
        have s2 : ((l ++ pre).length + 1) * 1 ≤ 140737488355328 := by simp; omega
        have s3 : w.heap.size ≤ wr.heap.size + 1 := Nat.le_trans hx1.size (Nat.le_succ _)
        have e1 := hide (be_step k v hv)
        obtain ⟨i, hi'⟩ : ∃ i : Int, (N : Int) - ((k + 1 : Nat) : Int) = i := ⟨_, rfl⟩
        rw [hi']
        have hsh : (N : Int) - 1 - i = k := by omega
        go_wp2_with (at_builtin; refine wpList_append_any _ rfl (.tmp 24) (.tmp 33) 24 rfl w.heap.size 5 i0 (.int .u8 0) 1 1 Try.underlying24 hi hz0 hz1 hz2 rfl (by decide) u7 _ _ rfl (ho.alloc _) _ _ 1 1 _ rfl (Reads.one _ _ _) (one_int _ _) s1 s2 (by simpa using s3) ?_; intro v' w' hown hg _)
        go_roundw
        case rel =>
          obtain ⟨e1, e2⟩ := e1.out
          have e3 := hpre.out
          rw [e1] at e3
          have e4 := congrArg List.length e3
          simp [be_length] at e4
          refine ⟨k, pre ++ [UInt8.ofNat (v.toNat / 2 ^ (8 * k))], by omega, by go_num, hide (by rw [← e3]; simp), by simp; omega, ?_, (hx1.alloc' _).grown' hg (fun j hj => (ho.lt j hj).1)⟩
          rw [e2] at hown
          simpa [bv, Nat.add_assoc] using hown
        case measure => simp [intOf]; omega
set_option maxHeartbeats 400000 in
theorem rtake_b (x : Value) (l : Bytes) (n : Int) (w : World) (hn : -9223372036854775808 ≤ n ∧ n ≤ 9223372036854775807) (hl : l.length ≤ 140737488355328) (hr : Bs w x l) :
    Calls Try.prog 77 #[x, .int .i64 n] w fun e w' => e = .returned (.tuple #[.int .u64 (otake l n).1, .int .i64 (otake l n).2]) ∧ w = w' := by
  obtain ⟨A, c, rfl, h1, h2, h3⟩ := hr
  by_cases hb : n < 0 ∨ 8 < n
  · have e1 : otake l n = (0, 1) := if_pos hb
    rw [e1]
    clear e1
    go_enter Try.func77, Try.ntmps77
    go_wp2
    all_goals go_ret2
    all_goals exact ⟨rfl, rfl⟩
  · have hb1 : ¬ n < 0 := fun h => hb (.inl h)
    have hb2 : ¬ 8 < n := fun h => hb (.inr h)
    by_cases hs : (l.length : Int) < n
    · have e1 : otake l n = (0, 3) := by rw [otake, if_neg hb, if_pos hs]
      rw [e1]
      clear e1 hb
      go_enter Try.func77, Try.ntmps77
      go_wp2
      all_goals go_ret2
      all_goals exact ⟨rfl, rfl⟩
    · obtain ⟨N, rfl⟩ := Int.eq_ofNat_of_zero_le (show (0 : Int) ≤ n by omega)
      have e1 : otake l N = (((val (l.take N) : Nat) : Int), (0 : Int)) := by rw [otake, if_neg hb, if_neg hs]; rfl
      rw [e1]
      clear e1 hb
      go_enter Try.func77, Try.ntmps77
      go_wp2
      go_loop [6, 7] (fun v i => ∃ k : Nat, k ≤ N ∧ i = .int .i64 k ∧ v = .int .u64 (val (l.take k))) (fun _ i => (N - intOf i).toNat)
      case atStart => exact ⟨0, Nat.zero_le _, rfl, rfl⟩
      case round =>
        obtain ⟨k, hk, rfl, rfl⟩ := hrel
        by_cases hlt : k < N
        · obtain ⟨ad, b, rfl, hbk, hu, hcell, hb⟩ := h3.byte (show k < l.length by omega)
          have hv := val_take_lt l k (by omega)
          have e1 := hide (take_step l k b hu hv)
          go_wp2
          refine ⟨⟨k + 1, by omega, by go_num, ?_⟩, by simp [intOf]; omega⟩
          rw [e1.out]
        · go_wp2
          go_ret2
          obtain rfl : k = N := by omega
          exact ⟨rfl, rfl⟩
theorem rtake_ok (x : Value) (b : Bytes) (n : Nat) (w : World) (hn : n ≤ 8) (hl : b.length ≤ 140737488355328) (hr : Bs w x b) (h : n ≤ b.length) :
    Calls Try.prog 77 #[x, .int .i64 n] w fun e w' => ∃ k : Nat, Hid (k = val (b.take n)) ∧ k < 256 ^ n ∧ e = .returned (.tuple #[.int .u64 k, .int .i64 0]) ∧ w = w' := by
  refine (rtake_b x b n w (by omega) hl hr).mono ?_
  rintro e w' ⟨rfl, rfl⟩
  rcases otake_cases b n hn with ⟨h1, _⟩ | ⟨_, e1⟩
  · omega
  · have hlt := val_lt (b.take n)
    rw [List.length_take, Nat.min_eq_left h] at hlt
    rw [e1]
    exact ⟨_, hide rfl, hlt, rfl, rfl⟩
theorem rtake_short (x : Value) (b : Bytes) (n : Nat) (w : World) (hn : n ≤ 8) (hl : b.length ≤ 140737488355328) (hr : Bs w x b) (h : b.length < n) :
    Calls Try.prog 77 #[x, .int .i64 n] w fun e w' => e = .returned (.tuple #[.int .u64 0, .int .i64 3]) ∧ w = w' := by
  refine (rtake_b x b n w (by omega) hl hr).mono ?_
  rintro e w' ⟨rfl, rfl⟩
  rcases otake_cases b n hn with ⟨_, e1⟩ | ⟨h1, _⟩
  · rw [e1]; exact ⟨rfl, rfl⟩
  · omega
theorem crc_odd (c : Nat) (h : c < 4294967296) (h0 : c % 2 = 1) : bits .and .u32 (c : Int) 1 = 1 ∧ Hid (bits .xor .u32 ((c : Int) / 2) 3988292384 = (Crc.step c : Nat)) := by
  have e1 := u32_and_nat c 1 h (by omega)
  rw [Nat.and_one_is_mod, h0] at e1
  refine ⟨e1, ?_⟩
  have e2 := u32_xor_nat (c / 2) 3988292384 (by omega) (by omega)
  rw [Crc.step, if_pos h0, ← e2]
  rfl
theorem crc_even (c : Nat) (h : c < 4294967296) (h0 : ¬ c % 2 = 1) : bits .and .u32 (c : Int) 1 = 0 ∧ Hid ((c : Int) / 2 = (Crc.step c : Nat)) := by
  have e1 := u32_and_nat c 1 h (by omega)
  rw [Nat.and_one_is_mod, show c % 2 = 0 by omega] at e1
  refine ⟨e1, ?_⟩
  unfold Hid
  rw [Crc.step, if_neg h0, Nat.xor_zero]
  rfl
set_option maxHeartbeats 400000 in
theorem rsum_b (x : Value) (ls : List Bytes) (w : World) (hl : lens ls ≤ 140737488355000) (hn : ls.length ≤ 140737488355000) (hp : Parts w x ls) :
    Calls Try.prog 108 #[x] w fun e w' => e = .returned (.int .u32 (Crc.sum ls.flatten : Nat)) ∧ w = w' := by
  obtain ⟨A, c, vs, rfl, h1, h2, h3, h4⟩ := hp
  have H4 := hide h4
  clear h4
  go_enter Try.func108, Try.ntmps108
  go_wp2
  go_loop [3, 4] (fun s i => ∃ k : Nat, k ≤ ls.length ∧ i = .int .i64 k ∧ s = .int .u32 (Crc.from_ 4294967295 (ls.take k).flatten : Nat)) (fun _ i => (ls.length - intOf i).toNat)
  case atStart => exact ⟨0, Nat.zero_le _, rfl, rfl⟩
  case round =>
    obtain ⟨k, hk, rfl, rfl⟩ := hrel
    have hc := Crc.from_lt (ls.take k).flatten 4294967295 (by omega)
    by_cases hlt : k < ls.length
    · obtain ⟨ad, u, rfl, hbk, hu, hcell⟩ := h3.at_ hlt
      obtain ⟨v, hv, hbs⟩ := H4.out k ls[k] (by simp [hlt])
      obtain ⟨A', c', rfl, g1, g2, g3⟩ := hbs
      obtain rfl : u = _ := Option.some.inj (hu.symm.trans hv)
      clear hu hv
      obtain ⟨e1, e2, e3⟩ := lens_take ls k ls[k] (by simp [hlt])
      have E3 : Hid (Crc.from_ 4294967295 (ls.take (k + 1)).flatten = Crc.from_ (Crc.from_ 4294967295 (ls.take k).flatten) ls[k]) := by
        unfold Hid; rw [e3, Crc.from_append]
      clear e1 e3
      generalize Crc.from_ 4294967295 (ls.take k).flatten = cr at *
      generalize ls[k] = b at *
      go_wp2
      go_loop [3, 5] (fun s i => ∃ j : Nat, j ≤ b.length ∧ i = .int .i64 j ∧ s = .int .u32 (Crc.from_ cr (b.take j) : Nat)) (fun _ i => (b.length - intOf i).toNat)
      case atStart => exact ⟨0, Nat.zero_le _, rfl, rfl⟩
      case round =>
        obtain ⟨j, hj, rfl, rfl⟩ := hrel
        by_cases hlj : j < b.length
        · obtain ⟨ad', x, rfl, hbk', hx', hcell', hx255⟩ := g3.byte hlj
          have hcj := Crc.from_lt (b.take j) cr hc
          have E4 : Hid (Crc.from_ cr (b.take (j + 1)) = Crc.byte (Crc.from_ cr (b.take j)) x) := by
            unfold Hid
            rw [List.take_add_one, hx'.out, Crc.from_append]; rfl
          generalize Crc.from_ cr (b.take j) = cj at *
          have E5 := hide (u32_xor_nat cj x.toNat hcj (by omega))
          have hx8 : cj ^^^ x.toNat < 4294967296 := Nat.xor_lt_two_pow (n := 32) (by omega) (by omega)
          go_wp2
          go_loop [3, 6] (fun s i => ∃ q : Nat, (q : Int) ≤ 8 ∧ i = .int .i64 q ∧ s = .int .u32 (Crc.steps q (cj ^^^ x.toNat) : Nat)) (fun _ i => (8 - intOf i).toNat)
          case atStart => exact ⟨0, by decide, rfl, by rw [E5.out]; rfl⟩
          case round =>
            obtain ⟨q, hq, rfl, rfl⟩ := hrel
            have hb := Crc.steps_lt q (cj ^^^ x.toNat) hx8
            have HC := hide (Crc.steps_succ q (cj ^^^ x.toNat))
            have HC8 : Hid (q = 8 → Crc.steps q (cj ^^^ x.toNat) = Crc.byte cj x) := by rintro rfl; exact Crc.steps_byte cj x
            generalize Crc.steps q (cj ^^^ x.toNat) = c at *
            by_cases hlt : (q : Int) < 8
            · by_cases h0 : c % 2 = 1
              · obtain ⟨e1, e2⟩ := crc_odd c hb h0
                clear h0
                go_wp2
                refine ⟨⟨q + 1, by omega, by go_num, ?_⟩, by simp [intOf]; omega⟩
                rw [e2.out, HC.out]
              · obtain ⟨e1, e2⟩ := crc_even c hb h0
                clear h0
                go_wp2
                refine ⟨⟨q + 1, by omega, by go_num, ?_⟩, by simp [intOf]; omega⟩
                rw [e2.out, HC.out]
            · have HQ : Hid (q = 8) := by unfold Hid; omega
              go_wp2
              refine ⟨⟨j + 1, by omega, by go_num, ?_⟩, by simp [intOf]; omega⟩
              rw [E4.out, HC8.out HQ.out]
        · obtain rfl : j = b.length := by omega
          go_wp2
          refine ⟨⟨k + 1, by omega, by go_num, ?_⟩, by simp [intOf]; omega⟩
          rw [E3.out, List.take_length]
    · obtain rfl : k = ls.length := by omega
      rw [List.take_length] at hc
      rw [List.take_length]
      have E5 : Hid (Crc.sum ls.flatten = 4294967295 - Crc.from_ 4294967295 ls.flatten) := rfl
      generalize Crc.from_ 4294967295 ls.flatten = cr at *
      go_wp2
      go_ret
      rw [E5.out, ← crc_end cr hc]
      exact ⟨rfl, rfl⟩
theorem own_ext {w w' : World} {base n : Nat} {e : TypeId} {size : Nat} {v : Value} {xs : List Value} (h : w.ownsRow base e size v n xs) (hx : Ext w w') : w'.ownsRow base e size v n xs := by
  refine ⟨h.1, ?_⟩
  rcases h.2 with h2 | ⟨g, cap, cur, hv, hg, hh, r⟩
  · exact .inl h2
  · exact .inr ⟨g, cap, cur, hv, hg, (Blk.ext (t := e) hh hx), r⟩
theorem rsum1_b (v : Value) (b : Bytes) (w : World) (g : Nat) (hg : w.heap.size = g) (hl : b.length ≤ 140737488355000) (h : Bs w v b) :
    Calls Try.prog 108 #[.slice (some ⟨g, 0, none⟩) 1 1] (w.alloc (.cells #[v] 24)) fun e w' =>
      ∃ s : Nat, Hid (s = Crc.sum b) ∧ (s : Int) ≤ 4294967295 ∧ e = .returned (.int .u32 s) ∧ Ext w w' := by
  refine (rsum_b _ [b] _ (by simp [lens]; omega) (by simp) (Parts.one _ hg h)).mono ?_
  rintro e w' ⟨rfl, rfl⟩
  have := Crc.sum_lt b
  exact ⟨Crc.sum b, hide rfl, by omega, by simp, (Ext.rfl' w).alloc' _⟩
set_option maxHeartbeats 400000 in
theorem rframe_b (x : Value) (b : Bytes) (w : World) (hl : b.length ≤ 140737488350000) (hx : Bs w x b) :
    Calls Try.prog 92 #[x] w fun e w' => RetNw w w' e (oframe b) := by
  obtain ⟨A, c, rfl, h1, h2, h3⟩ := id hx
  go_enter Try.func92, Try.ntmps92
  go_wp2_with fail
  refine (rput_b _ [] _ 4 w (by omega) (by omega) (by simp) (Bs.nil w)).mono ?_
  rintro e w1 ⟨m1, A1, c1, hm1, rfl, hz1, hx1⟩
  go_wp2_with fail
  refine (rsum1_b _ b _ _ rfl (by omega) (hx.ext hx1)).mono ?_
  rintro e w2 ⟨s, hs, hs2, rfl, hx2⟩
  have e1 : m1.length = 4 := by
    rw [hm1.out, show (4 : Int) = ((4 : Nat) : Int) from rfl, oput_n _ _ _ (by omega)]
    simp [be_length]
  have E1 := hide e1
  clear e1
  go_wp2_with fail
  refine (rput_b _ m1 _ 4 _ (by omega) (by omega) (by rw [E1.out]; omega) (hz1.bs.ext hx2)).mono ?_
  rintro e w3 ⟨m3, A3, c3, hm3, rfl, hz3, hx3⟩
  have e3 : m3 = be 4 b.length ++ be 4 (Crc.sum b) := by
    rw [hm3.out, hm1.out, ← hs.out, show (4 : Int) = ((4 : Nat) : Int) from rfl, oput_n _ _ _ (by omega), oput_n _ _ _ (by omega)]
    simp
  have hl3 : m3.length + b.length ≤ 140737488355328 := by rw [e3]; simp [be_length]; omega
  have E3 := hide e3
  clear e3
  have hx5 := (hx1.trans' hx2).trans' hx3
  go_wp2_with (at_builtin; refine wpList_app w _ rfl (.tmp 11) (.tmp 12) rfl _ m3 rfl (hz3.trans (hx1.trans' hx2)) hx5 _ b rfl (hx.ext hx5) hl3 ?_; intro m4 A4 c4 w4 hm4 hz4 hx4 _)
  go_ret
  exact ⟨m4, A4, c4, hide (by rw [hm4.out, E3.out]; rfl), rfl, hz4, hx4⟩
set_option maxHeartbeats 800000 in
theorem runframe_b (x : Value) (b : Bytes) (w : World) (hl : b.length ≤ 140737488350000) (hx : Bs w x b) :
    Calls Try.prog 89 #[x] w fun e w' => RetRead w w' e (ounframe b) := by
  obtain ⟨A, c, rfl, h1, h2, h3⟩ := id hx
  rcases Nat.lt_or_ge b.length 4 with hs | hs
  · have E := hide (unframe_short b (.inl (by omega)))
    go_enter Try.func89, Try.ntmps89
    go_wp2_with (go_at_call 77; refine (rtake_short _ b 4 _ (by omega) (by omega) hx hs).mono ?_; rintro e w1 ⟨rfl, rfl⟩)
    all_goals go_ret3
    all_goals rw [E.out]
    all_goals exact RetRead.none_ (Below.refl _ _) 3
  · by_cases hs8 : b.length < 8
    · have E := hide (unframe_short b (.inl hs8))
      go_enter Try.func89, Try.ntmps89
      go_wp2_with (go_at_call 77; refine (rtake_ok _ b 4 _ (by omega) (by omega) hx hs).mono ?_; rintro e w1 ⟨k, hk, hk2, rfl, rfl⟩)
      all_goals go_ret3
      all_goals rw [E.out]
      all_goals exact RetRead.none_ (Below.refl _ _) 3
    · have hlt := val_lt (b.take 4)
      rw [List.length_take, Nat.min_eq_left hs] at hlt
      by_cases hk : b.length - 8 < val (b.take 4)
      · have E := hide (unframe_short b (.inr hk))
        have hk2 : ((b.length : Int) - 8) < val (b.take 4) := by omega
        clear hk
        have HT := hide (rtake_ok _ b 4 w (by omega) (by omega) hx hs)
        go_enter Try.func89, Try.ntmps89
        go_wp2_with fail
        refine HT.out.mono ?_
        rintro e w1 ⟨k, hk, hk3, rfl, rfl⟩
        rw [← hk.out] at hk2
        go_wp2
        all_goals go_ret3
        all_goals rw [E.out]
        all_goals exact RetRead.none_ (Below.refl _ _) 3
      · have hk2 : ¬ ((b.length : Int) - 8) < val (b.take 4) := by omega
        have E : Hid (ounframe b = if Crc.sum ((b.drop 8).take (val (b.take 4))) ≠ val ((b.drop 4).take 4) then ([], 0, 2) else ((b.drop 8).take (val (b.take 4)), ((8 + val (b.take 4) : Nat) : Int), 0)) := if_neg (by omega)
        clear hk
        have hr4 := hx.rest (l := 4) (by omega)
        have HT := hide (rtake_ok _ b 4 w (by omega) (by omega) hx hs)
        go_enter Try.func89, Try.ntmps89
        go_wp2_with fail
        refine HT.out.mono ?_
        rintro e w1 ⟨k, hk, hk3, rfl, rfl⟩
        rw [← hk.out] at hk2
        have hr8 : Bs w (.slice (cutA 1 A c 8) (8 + k - 8) (c - 8)) ((b.drop 8).take k) := by rw [Nat.add_sub_cancel_left]; exact hx.cut (l := 8) (k := k) (by omega)
        have hlen : ((b.drop 8).take k).length ≤ 140737488350000 := by simp; omega
        have E' : Hid (ounframe b = if Crc.sum ((b.drop 8).take k) ≠ val ((b.drop 4).take 4) then ([], 0, 2) else ((b.drop 8).take k, ((8 + k : Nat) : Int), 0)) := by rw [hk.out]; exact E
        clear E hlt
        go_wp2_with (at_builtin; refine wpList_app w _ rfl (.tmp 30) (.tmp 35) rfl _ [] rfl (nw_lit w _ (Ext.rfl' _) _ rfl) ((Ext.rfl' _).alloc' _) _ ((b.drop 8).take k) rfl (hr8.ext ((Ext.rfl' _).alloc' _)) (by simp only [List.length_nil]; omega) ?_; intro m Am cm w1 hm hz hx2 _)
        have hlm : m.length ≤ 140737488350000 := by rw [hm.out]; simpa using hlen
        refine (rtake_ok _ (b.drop 4) 4 w1 (by omega) (by simp; omega) (hr4.ext hx2) (by simp; omega)).mono ?_
        rintro e w2 ⟨q, hq, hq3, rfl, rfl⟩
        go_wp2_with fail
        refine (rsum1_b _ m _ _ rfl (by omega) hz.bs).mono ?_
        rintro e w2 ⟨s, hs1, hs2, rfl, hx3⟩
        by_cases hsq : q = s
        · have hb : ((q : Int) != (s : Int)) = false := by simp [hsq]
          have HSQ := hide hsq
          clear hsq
          go_wp2
          go_ret3
          rw [E'.out, if_neg (by have h9 := hm.out; simp only [List.nil_append] at h9; rw [← h9, ← hs1.out, ← hq.out, HSQ.out]; simp)]
          exact ⟨m, Am, cm, _, _, hide (by rw [hm.out]; simp), rfl, own_ext hz hx3, hx2.trans' hx3⟩
        · have hb : ((q : Int) != (s : Int)) = true := by simp; omega
          have HSQ := hide hsq
          clear hsq
          go_wp2
          go_ret3
          rw [E'.out, if_pos (by have h9 := hm.out; simp only [List.nil_append] at h9; rw [← h9, ← hs1.out, ← hq.out]; intro h; exact HSQ.out h.symm)]
          exact RetRead.none_ (hx2.trans' hx3) 2
end Go.Proofs.Ytlblgopfdadalaa
namespace Go.Proofs.Ytlblgopfdadalaa
set_option linter.unusedVariables false
set_option linter.unusedSimpArgs false
set_option linter.unnecessarySimpa false
set_option maxRecDepth 100000
open Go.RowKit
/-- none yet, and no room -/
def App0 (w0 W : World) (v : Value) : Prop := ∃ A, v = .slice A 0 0 ∧ ∀ a, A = some a → w0.heap.size ≤ a.block ∧ a.block < W.heap.size
theorem App0.size {w0 W W' : World} {v : Value} (h : App0 w0 W v) (hs : W.heap.size ≤ W'.heap.size) : App0 w0 W' v := by
  obtain ⟨A, rfl, h2⟩ := h
  exact ⟨A, rfl, fun a ha => ⟨(h2 a ha).1, Nat.lt_of_lt_of_le (h2 a ha).2 hs⟩⟩
theorem App0.ext {w0 W W' : World} {v : Value} (h : App0 w0 W v) (hx : Ext W W') : App0 w0 W' v := h.size hx.size
theorem App0.lit {w0 w : World} (hx : Ext w0 w) (g : Nat) (hg : w.heap.size = g) (o : Obj) : App0 w0 (w.alloc o) (.slice (some ⟨g, 0, none⟩) 0 0) := by
  subst hg
  refine ⟨_, rfl, fun a ha => ?_⟩
  obtain rfl := Option.some.inj ha
  exact ⟨hx.size, by simp⟩
theorem App0.nil (w0 W : World) : App0 w0 W (.slice none 0 0) := ⟨none, rfl, fun a ha => by cases ha⟩
def App (w0 W : World) (v : Value) (l : Bytes) : Prop := (l = [] ∧ App0 w0 W v) ∨ Nw w0 W v l
theorem App.own_lt {w0 W : World} {v : Value} {l : Bytes} (h : App w0 W v l) : ∀ k, v.ownBlock = some k → w0.heap.size ≤ k ∧ k < W.heap.size := by
  rcases h with ⟨_, A, rfl, h⟩ | h
  · intro k hk
    cases A with
    | none => cases hk
    | some a => obtain rfl : a.block = k := Option.some.inj hk; exact h a rfl
  · exact h.lt
theorem App.bs {w0 W : World} {v : Value} {l : Bytes} (h : App w0 W v l) : Bs W v l := by
  rcases h with ⟨rfl, A, rfl, _⟩ | h
  · exact Bs.mk' rfl (Nat.le_refl _) (by simp [maxLen]) ⟨rfl, fun h => absurd h (by omega)⟩
  · exact h.bs
theorem App.ext {w0 W W' : World} {v : Value} {l : Bytes} (h : App w0 W v l) (hx : Ext W W') : App w0 W' v l := by
  rcases h with ⟨h, h2⟩ | h
  · exact .inl ⟨h, h2.ext hx⟩
  · exact .inr (own_ext h hx)
theorem App.trans {w0 w1 W : World} {v : Value} {l : Bytes} (h : App w1 W v l) (hx : Ext w0 w1) : App w0 W v l := by
  rcases h with ⟨h, A, h2, h3⟩ | h
  · exact .inl ⟨h, A, h2, fun a ha => ⟨Nat.le_trans hx.size (h3 a ha).1, (h3 a ha).2⟩⟩
  · exact .inr (h.trans hx)
theorem App0.app {w0 W : World} {v : Value} (h : App0 w0 W v) : App w0 W v [] := .inl ⟨rfl, h⟩
theorem App.form {w0 W : World} {v : Value} {l : Bytes} (h : App w0 W v l) : ∃ A c, v = .slice A l.length c := by
  obtain ⟨A, c, rfl, _⟩ := h.bs
  exact ⟨A, c, rfl⟩
theorem App.off {w0 W : World} {v : Value} {l : Bytes} (h : App w0 W v l) {S : List Nat} (hs : ∀ k, k ∈ S → k < w0.heap.size) : Off v S := by
  rcases h with ⟨rfl, A, rfl, _⟩ | h
  · rintro ad n c he h0
    simp only [Value.slice.injEq] at he
    omega
  · exact h.off hs
theorem run_app_same {W : World} (A : Option Addr) (ty : TypeId) {B : Option Addr} {c : Nat} : (Builtin.append_ #[24, 24] ty #[.slice A 0 0, .slice B 0 c]).run Try.prog W = .ok (.slice A 0 0) W := by
  obtain ⟨i0, hi, hz0, hz1, hz2⟩ := info_parts ti5
  cases A <;> cases B <;> simp [Builtin.append_, run_underlying Try.underlying24, sizeOf, typeInfo, hi, hz1, Builtin.lenOf, Builtin.firstCells, storeCells, loadCells, loadCellsFrom]
/-- onto none without room: nothing old is written -/
theorem run_app0 (w0 W : World) (v : Value) (ty : TypeId) (h : App0 w0 W v) (hx0 : Ext w0 W) (y : Value) (m : Bytes) (hy : Bs W y m) (hlen : m.length ≤ 140737488355328) :
    ∃ v' W', (Builtin.append_ #[24, 24] ty #[v, y]).run Try.prog W = .ok v' W' ∧ App w0 W' v' m ∧ Ext W W' := by
  obtain ⟨i0, hi, hz0, hz1, hz2⟩ := info_parts ti5
  obtain ⟨B, c, rfl, h1, h2, h3⟩ := hy
  obtain ⟨A, rfl, hA⟩ := h
  rcases Nat.eq_zero_or_pos m.length with hm | hm
  · have hm0 := List.eq_nil_of_length_eq_zero hm
    subst hm0
    exact ⟨_, _, run_app_same A ty, .inl ⟨rfl, A, rfl, hA⟩, Ext.rfl' W⟩
  · obtain ⟨ad, rfl, hb, hcell⟩ := h3.2 hm
    have ho := run_append_own (P := Try.prog) W w0.heap.size 24 ty 5 i0 (.int .u8 0) 1 1 Try.underlying24 hi hz0 hz1 hz2 rfl (by decide) (.slice none 0 0) 0 [] (World.ownsRow_nil _ _ _ _) ad m.length c (bv m) h3.1 hcell (bv_one m) (by simp [maxLen]; omega) (by omega) hx0.size
    obtain ⟨v', w', hrun, hown, hg, _⟩ := ho
    have e1 := run_append_nil (P := Try.prog) W 24 ty 5 i0 (.int .u8 0) Try.underlying24 hi hz0 ad m.length c (bv m) (by rw [hz1]; exact h3.1) hcell hm (by omega) (by rw [hz2]; omega)
    rw [e1] at hrun
    have hrun' : (Builtin.append_ #[24, 24] ty #[.slice A 0 0, .slice (some ad) m.length c]).run Try.prog W = .ok v' w' := by
      rw [← hrun]
      cases A with
      | none => exact e1
      | some b =>
        have e2 := run_append_grow (P := Try.prog) W 24 ty 5 i0 (.int .u8 0) Try.underlying24 hi hz0 b 0 0 [] (by simp) (fun j u hu => by simp at hu) ad m.length c (bv m) (by rw [hz1]; exact h3.1) hcell (by omega) (by omega) (by rw [Nat.zero_add, nextslicecap_zero hm, hz2]; omega)
        rw [e2]
        simp
    refine ⟨v', w', hrun', .inr ?_, (Ext.rfl' W).grown' hg (fun k hk => by cases hk)⟩
    unfold Nw
    simpa using hown
theorem run_appA (w0 W : World) (v : Value) (l : Bytes) (ty : TypeId) (h : App w0 W v l) (hx0 : Ext w0 W) (y : Value) (m : Bytes) (hy : Bs W y m) (hlen : l.length + m.length ≤ 140737488355328) :
    ∃ v' W', (Builtin.append_ #[24, 24] ty #[v, y]).run Try.prog W = .ok v' W' ∧ App w0 W' v' (l ++ m) ∧ Ext w0 W' ∧ (∀ k, v.ownBlock ≠ some k → k < W.heap.size → W'.heap[k]? = W.heap[k]?) := by
  rcases h with ⟨rfl, h⟩ | h
  · obtain ⟨v', W', hrun, hv, hx⟩ := run_app0 w0 W v ty h hx0 y m hy (by simpa using hlen)
    exact ⟨v', W', hrun, hv, hx0.trans' hx, fun k _ hk => hx.block k hk⟩
  · obtain ⟨i0, hi, hz0, hz1, hz2⟩ := info_parts ti5
    obtain ⟨B, c, rfl, h1, h2, h3⟩ := hy
    obtain ⟨v', w', hrun, hown, hg, _⟩ := run_append_any (P := Try.prog) W w0.heap.size 24 ty 5 i0 (.int .u8 0) 1 1 Try.underlying24 hi hz0 hz1 hz2 rfl (by decide) v l.length (bv l) h W.heap.size B m.length c (bv m) h3 (bv_one m) (by simp [maxLen]; omega) (by omega) hx0.size
    refine ⟨v', w', hrun, .inr ?_, hx0.grown' hg (fun k hk => (h.lt k hk).1), fun k hk1 hk => hg.block k hk (fun e => hk1 e.symm)⟩
    unfold Nw
    rw [List.length_append, bv_append]
    exact hown
/-- append of bytes onto such -/
theorem wpList_appA {ops : Array Oper} {rest : List Oper} {o : Oper} {a : Act} {Q : Exit → Act → World → Prop} (w0 w : World) (hgd : o.guard = none) (s x : Operand)
    (ho : o.op = .call { callee := .builtin .append, args := #[s, x], argTypes := #[24, 24] }) (v : Value) (l : Bytes) (hs : a.eval s = v) (hown : App w0 w v l) (hx0 : Ext w0 w)
    (y : Value) (m : Bytes) (hx : a.eval x = y) (hr : Bs w y m) (hlen : l.length + m.length ≤ 140737488355328)
    (h : ∀ (k : Bytes) (A : Option Addr) (c : Nat) (w' : World), Hid (k = l ++ m) → App w0 w' (.slice A k.length c) k → Ext w0 w' → (∀ k, v.ownBlock ≠ some k → k < w.heap.size → w'.heap[k]? = w.heap[k]?) → wpList Try.prog ops Q rest (a.put o.dst (.slice A k.length c)) w') : wpList Try.prog ops Q (o :: rest) a w :=
  wpList_plain hgd fun _ hK => by
    obtain ⟨v', w', hrun, h2, h3, h4⟩ := run_appA w0 w v l o.type hown hx0 y m hr hlen
    obtain ⟨A, c, rfl⟩ := h2.form
    unfold Oper.wp execOp
    simp only [ho, resolve, invoke, builtin, Sem.run_bind, Sem.run_pure, Result.andThen_ok, List.map_toArray, List.map_cons, List.map_nil, hs, hx, hrun]
    exact hK _ _ (h (l ++ m) A c w' (hide rfl) h2 h3 h4)
end Go.Proofs.Ytlblgopfdadalaa
namespace Go.Proofs.Ytlblgopfdadalaa
set_option linter.unusedVariables false
set_option linter.unusedSimpArgs false
set_option linter.unnecessarySimpa false
set_option maxRecDepth 100000
open Go.RowKit
/-- an element type as the program knows it -/
structure Elt {α : Type} (T : TypeId) (E : Enc α) (z : Value) (bytes : Nat) : Prop where
  info : (Try.prog.info? T).map (fun i => (i.zero, i.size, i.bytes)) = some (some z, E.size, bytes)
  zs : z.cells.size = E.size
  pos : 0 < E.size
/-- a slice of new memory that reads as l; its elements lie neither in its own block nor in one of X -/
def Own {α : Type} (T : TypeId) (E : Enc α) (w0 w : World) (X : Avoid) (v : Value) (l : List α) : Prop :=
  ∃ css, w.ownsRow w0.heap.size T E.size v l.length css.flatten ∧ Enc.Each E w (fun k => X k ∨ v.ownBlock = some k) css l ∧ ∀ k, v.ownBlock = some k → ¬ X k
section
variable {α : Type} {T : TypeId} {E : Enc α} {w0 w w' : World} {X Y : Avoid} {v : Value} {l m : List α}
theorem Own.form (h : Own T E w0 w X v l) : ∃ A c, v = .slice A l.length c ∧ l.length ≤ c ∧ c ≤ maxLen := by
  obtain ⟨css, h1, _⟩ := h
  exact own_slice h1
theorem Own.lt (h : Own T E w0 w X v l) : ∀ k, v.ownBlock = some k → w0.heap.size ≤ k ∧ k < w.heap.size := by
  obtain ⟨css, h1, _⟩ := h
  exact h1.lt
theorem Own.sl (h : Own T E w0 w X v l) : Enc.Sl E w X v l := by
  obtain ⟨css, h1, h2, h3⟩ := h
  obtain ⟨A, c, rfl, h4, h5⟩ := own_slice h1
  refine ⟨A, c, css, rfl, h4, h5, Reads.of_own h1, ?_, h2.mono fun k _ hk => .inl hk⟩
  rintro ad rfl _
  exact h3 _ rfl
theorem Own.nil (T : TypeId) (E : Enc α) (w0 w : World) (X : Avoid) : Own T E w0 w X (.slice none 0 0) [] :=
  ⟨[], by simpa using World.ownsRow_nil w w0.heap.size T E.size, Enc.Each.nil E w _, fun _ h => by cases h⟩
theorem Own.lit0 (T : TypeId) (E : Enc α) (hx : Ext w0 w) (g : Nat) (hg : w.heap.size = g) (hX : ¬ X g) : Own T E w0 (w.alloc (.cells #[] T)) X (.slice (some ⟨g, 0, none⟩) 0 0) [] := by
  subst hg
  refine ⟨[], by simpa using World.ownsRow_lit (size := E.size) w #[] 0 hx.size (by decide) (by simp), Enc.Each.nil E _ _, fun k hk => ?_⟩
  obtain rfl := Option.some.inj hk
  exact hX
theorem Own.ext (h : Own T E w0 w X v l) (hx : Ext w w') : Own T E w0 w' X v l := by
  obtain ⟨css, h1, h2, h3⟩ := h
  exact ⟨css, own_ext h1 hx, h2.ext hx, h3⟩
theorem Own.trans (h : Own T E w w' X v l) (hx : Ext w0 w) : Own T E w0 w' X v l := by
  obtain ⟨css, h1, h2, h3⟩ := h
  exact ⟨css, own_base h1 hx.size, h2, h3⟩
theorem Own.mono (h : Own T E w0 w X v l) (hs : ∀ k, k < w.heap.size → Y k → X k) : Own T E w0 w Y v l := by
  obtain ⟨css, h1, h2, h3⟩ := h
  refine ⟨css, h1, h2.mono fun k hk hy => hy.elim (fun hy => .inl (hs k hk hy)) .inr, fun k hk hy => h3 k hk (hs k (h1.lt k hk).2 hy)⟩
theorem own_chg {S : List Nat} {base n : Nat} {e : TypeId} {size : Nat} {xs : List Value} (h : w.ownsRow base e size v n xs) (hc : Chg S w w') (hn : ∀ k, v.ownBlock = some k → k ∉ S) : w'.ownsRow base e size v n xs := by
  refine ⟨h.1, ?_⟩
  rcases h.2 with h2 | ⟨g, cap, cur, hv, hg, hh, r⟩
  · exact .inl h2
  · refine .inr ⟨g, cap, cur, hv, hg, ?_, r⟩
    exact Blk.chg (t := e) hh hc (hn g (by rw [hv]; rfl))
theorem Own.chg {S : List Nat} (h : Own T E w0 w X v l) (hc : Chg S w w') (hs : ∀ k, k ∈ S → k < w.heap.size → X k) : Own T E w0 w' X v l := by
  obtain ⟨css, h1, h2, h3⟩ := h
  refine ⟨css, own_chg h1 hc fun k hk hm => h3 k hk (hs k hm (h1.lt k hk).2), h2.chg hc fun k hk hl => .inl (hs k hk hl), h3⟩
theorem _root_.Go.World.grownBy.chg' {row : Option Nat} (h : w.grownBy w' row) : Chg row.toList w w' :=
  ⟨h.os, h.tape, h.output, h.size, fun k hk hn => h.block k hk (fun e => hn (by rw [← e]; simp))⟩
/-- append onto such a slice of a slice whose elements do not lie in it -/
theorem run_own {z : Value} {bytes : Nat} (ei : Elt T E z bytes) (t ty : TypeId) (ht : Try.prog.underlying t = some (.slice T)) (h : Own T E w0 w X v l) (hx0 : Ext w0 w)
    {y : Value} (hy : Enc.Sl E w (fun k => X k ∨ v.ownBlock = some k) y m) (hX : ¬ X w.heap.size) (hlen : (l.length + m.length) * bytes ≤ 140737488355328) (hl2 : l.length + m.length ≤ 140737488355328) :
    ∃ v' w', (Builtin.append_ #[t, t] ty #[v, y]).run Try.prog w = .ok v' w' ∧ Own T E w0 w' X v' (l ++ m) ∧ Ext w0 w' ∧ Chg v.ownBlock.toList w w' ∧ (v'.ownBlock = v.ownBlock ∨ v'.ownBlock = some w.heap.size) := by
  obtain ⟨css, h1, h2, h3⟩ := h
  obtain ⟨A, c, cs2, rfl, k1, k2, k3, k4, k5⟩ := hy
  obtain ⟨i0, hi, hz0, hz1, hz2⟩ := info_parts ei.info
  obtain ⟨v', w', hrun, hown, hg, hb⟩ := run_append_any (P := Try.prog) w w0.heap.size t ty T i0 z E.size bytes ht hi hz0 hz1 hz2 ei.zs ei.pos v l.length css.flatten h1 w.heap.size A m.length c cs2.flatten k3 k5.one (by simp [maxLen]; omega) hlen hx0.size
  have hc := hg.chg'
  refine ⟨v', w', hrun, ⟨css ++ cs2, by rw [List.length_append, List.flatten_append]; exact hown, ?_, ?_⟩, hx0.then_ hc (fun i hi => by simp at hi; exact (h1.lt i hi).1), hc, hb⟩
  · have j1 := h2.mono (Y := fun k => (X k ∨ v'.ownBlock = some k) ∨ v.ownBlock = some k) fun k hk hy => by
      rcases hy with (hy | hy) | hy
      · exact .inl hy
      · rcases hb with e | e
        · exact .inr (e.symm.trans hy)
        · rw [e] at hy; have := Option.some.inj hy; omega
      · exact .inr hy
    have j2 := k5.mono (Y := fun k => (X k ∨ v'.ownBlock = some k) ∨ v.ownBlock = some k) fun k hk hy => by
      rcases hy with (hy | hy) | hy
      · exact .inl hy
      · rcases hb with e | e
        · exact .inr (e.symm.trans hy)
        · rw [e] at hy; have := Option.some.inj hy; omega
      · exact .inr hy
    have j3 := (j1.app j2).chg hc fun k hk _ => .inr (by simpa using hk)
    exact j3.mono fun k _ hk => .inl hk
  · intro k hk hx
    rcases hb with e | e
    · exact h3 k (e.symm.trans hk) hx
    · rw [e] at hk; have := Option.some.inj hk; subst this; exact hX hx
/-- one element in a block of its own -/
theorem Sl.one (T : TypeId) {cs : List Value} {a : α} (h : E.rep w X cs a) (g : Nat) (hg : w.heap.size = g) (hX : ¬ X g) : Enc.Sl E (w.alloc (.cells cs.toArray T)) X (.slice (some ⟨g, 0, none⟩) 1 1) [a] := by
  subst hg
  refine ⟨_, 1, [cs], rfl, Nat.le_refl _, by simp [maxLen], ?_, fun ad he _ => ?_, Enc.Each.single (E.ext h ((Ext.rfl' w).alloc' _))⟩
  · refine ⟨by simp [E.len h], fun _ => ⟨_, rfl, by simp, fun j u hu => ?_⟩⟩
    have hadd : (⟨w.heap.size, 0, none⟩ : Addr).add j = ⟨w.heap.size, j, none⟩ := by unfold Addr.add; split <;> simp_all
    rw [hadd, cell_of_row _ _ _ _ _ _ (heap_alloc_new w _)]
    simpa using hu
  · rw [← Option.some.inj he]
    exact hX
/-- append of one element, as the walk meets it -/
theorem wpList_own {ops : Array Oper} {rest : List Oper} {o : Oper} {a : Act} {Q : Exit → Act → World → Prop} {z : Value} {bytes : Nat} (ei : Elt T E z bytes) (t : TypeId) (ht : Try.prog.underlying t = some (.slice T)) (hgd : o.guard = none) (s x : Operand)
    (ho : o.op = .call { callee := .builtin .append, args := #[s, x], argTypes := #[t, t] }) (h : Own T E w0 w X v l) (hs : a.eval s = v) (hx0 : Ext w0 w)
    {y : Value} (hx : a.eval x = y) (hy : Enc.Sl E w (fun k => X k ∨ v.ownBlock = some k) y m) (hX : ¬ X w.heap.size) (hlen : (l.length + m.length) * bytes ≤ 140737488355328) (hl2 : l.length + m.length ≤ 140737488355328)
    (hK : ∀ (k : List α) (A : Option Addr) (c : Nat) (w' : World), Hid (k = l ++ m) → Own T E w0 w' X (.slice A k.length c) k → Ext w0 w' → Chg v.ownBlock.toList w w' → wpList Try.prog ops Q rest (a.put o.dst (.slice A k.length c)) w') : wpList Try.prog ops Q (o :: rest) a w :=
  wpList_plain hgd fun _ hK' => by
    obtain ⟨v', w', hrun, h2, h3, h4, h5⟩ := run_own ei t o.type ht h hx0 hy hX hlen hl2
    obtain ⟨A, c, rfl, _, _⟩ := h2.form
    unfold Oper.wp execOp
    simp only [ho, resolve, invoke, builtin, Sem.run_bind, Sem.run_pure, Result.andThen_ok, List.map_toArray, List.map_cons, List.map_nil, hs, hx, hrun]
    exact hK' _ _ (hK (l ++ m) A c w' (hide rfl) h2 h3 h4)
/-- what was there ahead does not lie in a new slice -/
theorem Sl.apart {x : Value} {k : List α} (hx : Enc.Sl E w0 noneAt x k) (hx0 : Ext w0 w) (h : ∀ i, v.ownBlock = some i → w0.heap.size ≤ i) (hX : ∀ i, X i → w0.heap.size ≤ i) : Enc.Sl E w (fun k => X k ∨ v.ownBlock = some k) x k :=
  (hx.mono fun i hi hm => by
    rcases hm with hm | hm
    · have := hX i hm; omega
    · have := h i hm; omega).ext hx0
/-- an element that was there ahead does not lie in new blocks -/
theorem _root_.Go.Proofs.Ytlblgopfdadalaa.Enc.apart {cs : List Value} {a : α} (h : E.rep w noneAt cs a) (hX : ∀ i, X i → w.heap.size ≤ i) : E.rep w X cs a :=
  E.mono h fun i hi hm => by have := hX i hm; omega
end
theorem slN {α : Type} {E : Enc α} {w : World} {X : Avoid} {v : Value} {l : List α} (h : Enc.Sl E w X v l) : Enc.Sl E w noneAt v l := h.mono fun _ _ h => h.elim
theorem Own.base {α : Type} {T : TypeId} {E : Enc α} {w0 w w' : World} {X : Avoid} {v : Value} {l : List α} (h : Own T E w w' X v l) (hs : w0.heap.size ≤ w.heap.size) : Own T E w0 w' X v l := by
  obtain ⟨css, h1, h2, h3⟩ := h
  exact ⟨css, own_base h1 hs, h2, h3⟩
end Go.Proofs.Ytlblgopfdadalaa
